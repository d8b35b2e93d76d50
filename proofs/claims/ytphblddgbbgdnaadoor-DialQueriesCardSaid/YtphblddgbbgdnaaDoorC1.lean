/- The functions of the program compute what their plain forms compute; printed by a program of the claim's author. -/
import Derived.Test.YtphblddgbbgdnaaDoorC
import Derived.Test.YtphblddgbbgdnaaDoorS
import Derived.Test.YtphblddgbbgdnaaDoorShelf
import Derived.Test.YtphblddgbbgdnaaDoorVmB
import Derived.Test.YtphblddgbbgdnaaDoorB
namespace Go.Proofs.YtphblddgbbgdnaaDoor
open Go.Vm
set_option autoImplicit false
set_option linter.unusedVariables false
set_option linter.unusedSimpArgs false
set_option maxRecDepth 100000

theorem c12 {s_ : Str} {r : (api_Addr × Int)} (h : dial_Parse s_ = some r) : CallOK Tryd.prog 12 [.str s_] (.tup [enc_api_Addr r.1, .int .i64 r.2]) true := by
  apply ok12
  unfold dial_Parse at h
  refine x_rg (rgn [hE, hE] (⟨[(0, pS s_), (2, .optr 0 0 0)], [(0, some (.p (some 3) [.agg [.str [], .str [], .str []]]))], 1⟩)) ?_
  obtain ⟨x1, hx1, h⟩ := bind_some h
  refine x_rg (rg0 [hE, hN (.cal [] (.usl none (List.map PV.str x1)) true), hE] (⟨[(2, .optr 0 0 0), (4, oL 1 PV.str x1)], [(0, some (.p (some 3) [.agg [.str [], .str [], .str []]])), (1, rL none PV.str x1)], 2⟩) (.cons (c31 hx1) .nil)) ?_
  refine x_seq ?_
  refine x_rg (st2 := ⟨[(2, .optr 0 0 0), (4, oL 1 PV.str x1), (15, pB ((decide ((List.length x1 : Int) < 2)) || (decide (3 < (List.length x1 : Int)))))], [(0, some (.p (some 3) [.agg [.str [], .str [], .str []]])), (1, rL none PV.str x1)], 2⟩) ?_ ?_
  ·rcases Bool.eq_false_or_eq_true (decide ((List.length x1 : Int) < 2)) with hg2 | hg2
   ·exact rg (obs := [((((List.map PV.str x1).length : Nat) : Int) = (List.length x1 : Int)), ((decide ((List.length x1 : Int) < 2)) = true), ((decide ((List.length x1 : Int) < 2)) = true), ((decide ((List.length x1 : Int) < 2)) = true), ((decide ((List.length x1 : Int) < 2)) = true)]) [hE, hN (.len (List.length x1 : Int)), hE, hE, hS, hS, hS, hN (.pk true)] (⟨[(2, .optr 0 0 0), (4, oL 1 PV.str x1), (15, pB true)], [(0, some (.p (some 3) [.agg [.str [], .str [], .str []]])), (1, rL none PV.str x1)], 2⟩) (.cons (by rw [List.length_map]) (.cons hg2 (.cons hg2 (.cons hg2 (.cons hg2 .nil))))) (.of_eq (by simp only [hg2, bs, reduceIte]))
   ·exact rg (obs := [((((List.map PV.str x1).length : Nat) : Int) = (List.length x1 : Int)), ((decide ((List.length x1 : Int) < 2)) = false), ((decide ((List.length x1 : Int) < 2)) = false), ((((List.map PV.str x1).length : Nat) : Int) = (List.length x1 : Int)), ((decide ((List.length x1 : Int) < 2)) = false), ((decide ((List.length x1 : Int) < 2)) = false)]) [hE, hN (.len (List.length x1 : Int)), hE, hE, hY, (.y, (.len (List.length x1 : Int))), hY, hN (.pk false)] (⟨[(2, .optr 0 0 0), (4, oL 1 PV.str x1), (15, pB (decide (3 < (List.length x1 : Int))))], [(0, some (.p (some 3) [.agg [.str [], .str [], .str []]])), (1, rL none PV.str x1)], 2⟩) (.cons (by rw [List.length_map]) (.cons hg2 (.cons hg2 (.cons (by rw [List.length_map]) (.cons hg2 (.cons hg2 .nil)))))) (.of_eq (by simp only [hg2, bs, reduceIte]))
  ·refine x_cond _ rfl (fun hc4 => ?_) (fun hc4 => ?_)
   ·replace h := ite_t h hc4
    refine x_rg (rgn [hE, hE, hE] (⟨[(2, .optr 0 0 0), (3, pI 36)], [(0, some (.p (some 3) [.agg [.str [], .str [], .str []]]))], 1⟩)) ?_
    refine x_toret ?_
    refine x_tr ?_
    obtain rfl := Option.some.inj h
    exact ret0 (.tup [.agg [.str [], .str [], .str []], .int .i64 36]) (.tup (.cons (.refl _) (.cons (.refl _) .nil))) (fun _ => rfl)
   ·replace h := ite_f h hc4
    refine kw0 (⟨[(2, .optr 0 0 0), (4, oL 1 PV.str x1)], [(0, some (.p (some 3) [.agg [.str [], .str [], .str []]])), (1, rL none PV.str x1)], 2⟩) ?_
    refine x_skip ?_
    refine x_tn ?_
    obtain ⟨x5, hx5, h⟩ := bind_some h
    obtain ⟨x6, hx6, h⟩ := bind_some h
    refine x_rg (rg0 (obs := [(0 ≤ (0 : Int) ∧ Int.toNat 0 < (List.map PV.str x1).length), ((List.map PV.str x1)[(0 + Int.toNat 0)]? = some (.str x5)), (0 ≤ (1 : Int) ∧ Int.toNat 1 < (List.map PV.str x1).length), ((List.map PV.str x1)[(0 + Int.toNat 1)]? = some (.str x6))]) [hE, hN .rAt, hN (.ld (.str x5)), hE, hN .rAt, hN (.ld (.str x6)), hE, hE, hE] (⟨[(2, .optr 0 0 0), (4, oL 1 PV.str x1), (5, .optr 2 0 0)], [(0, some (.p (some 3) [.agg [.str [], .str [], .str []]])), (1, rL none PV.str x1), (2, some (.p (some 3) [.agg [.str x5, .str x6, .str []]]))], 3⟩) (.cons (rAt_ob hx5 (by simp)) (.cons (ownAt hx5) (.cons (rAt_ob hx6 (by simp)) (.cons (ownAt hx6) .nil))))) ?_
    refine x_join (τ := Str) (fun t => dial_Parse_K7 x1 x5 x6 t = some r) (fun t => { tm := [(2, .optr 0 0 0), (4, .osl 1 0 (List.map PV.str x1).length), (5, .optr 2 0 0)], hp := [(0, some (.p (some 3) [.agg [.str [], .str [], .str []]])), (1, some (.p none (List.map PV.str x1))), (2, some (.p (some 3) [.agg [.str x5, .str x6, .str t]]))], nx := 3 }) ?_ ?_
    ·rintro p8 h
     replace h : dial_Parse_K7 x1 x5 x6 p8 = some r := h
     unfold dial_Parse_K7 at h
     refine x_seq ?_
     obtain ⟨x9, hx9, h⟩ := bind_some h
     refine x_rg (st2 := ⟨[(2, .optr 0 0 0), (5, .optr 1 0 0), (43, pB ((!x9) || ((decide ((List.length x1 : Int) = 3)) && (decide (p8 = [])))))], [(0, some (.p (some 3) [.agg [.str [], .str [], .str []]])), (1, some (.p (some 3) [.agg [.str x5, .str x6, .str p8]]))], 2⟩) ?_ ?_
     ·rcases Bool.eq_false_or_eq_true (!x9) with hg10 | hg10
      ·exact rg [hE, hN (.cal [] (.bool x9) true), hE, hE, hS, hS, hS, hS, (.u, .e), (.u, .e), (.u, .e), hS, hN (.pk true)] (⟨[(2, .optr 0 0 0), (5, .optr 1 0 0), (43, pB true)], [(0, some (.p (some 3) [.agg [.str [], .str [], .str []]])), (1, some (.p (some 3) [.agg [.str x5, .str x6, .str p8]]))], 2⟩) (.cons (c32 hx9) (.cons hg10 (.cons hg10 (.cons hg10 (.cons hg10 (.cons hg10 (.cons hg10 .nil))))))) (.of_eq (by simp only [hg10, bs, reduceIte]))
      ·rcases Bool.eq_false_or_eq_true (decide ((List.length x1 : Int) = 3)) with hg11 | hg11
       ·exact rg (obs := [(CallOK Tryd.prog 32 [.agg [.str x5, .str x6, .str p8]] (.bool x9) true), ((!x9) = false), ((!x9) = false), ((((List.map PV.str x1).length : Nat) : Int) = (List.length x1 : Int)), ((!x9) = false), ((!x9) = false), ((decide ((List.length x1 : Int) = 3)) = true), ((decide ((List.length x1 : Int) = 3)) = true), ((decide ((List.length x1 : Int) = 3)) = true), ((!x9) = false), ((decide ((List.length x1 : Int) = 3)) = true), ((!x9) = false)]) [hE, hN (.cal [] (.bool x9) true), hE, hE, hY, (.y, (.len (List.length x1 : Int))), hY, hY, hY, hY, hY, (.y, (.pk true)), hN (.pk false)] (⟨[(2, .optr 0 0 0), (5, .optr 1 0 0), (43, pB (decide (p8 = [])))], [(0, some (.p (some 3) [.agg [.str [], .str [], .str []]])), (1, some (.p (some 3) [.agg [.str x5, .str x6, .str p8]]))], 2⟩) (.cons (c32 hx9) (.cons hg10 (.cons hg10 (.cons (by rw [List.length_map]) (.cons hg10 (.cons hg10 (.cons hg11 (.cons hg11 (.cons hg11 (.cons hg10 (.cons hg11 (.cons hg10 .nil)))))))))))) (.of_eq (by simp only [hg10, hg11, bs, reduceIte]))
       ·exact rg (obs := [(CallOK Tryd.prog 32 [.agg [.str x5, .str x6, .str p8]] (.bool x9) true), ((!x9) = false), ((!x9) = false), ((((List.map PV.str x1).length : Nat) : Int) = (List.length x1 : Int)), ((!x9) = false), ((!x9) = false), ((decide ((List.length x1 : Int) = 3)) = false), ((decide ((List.length x1 : Int) = 3)) = false), ((decide ((List.length x1 : Int) = 3)) = false), ((!x9) = false), ((decide ((List.length x1 : Int) = 3)) = false), ((!x9) = false)]) [hE, hN (.cal [] (.bool x9) true), hE, hE, hY, (.y, (.len (List.length x1 : Int))), hY, hY, hS, hS, hS, (.y, (.pk false)), hN (.pk false)] (⟨[(2, .optr 0 0 0), (5, .optr 1 0 0), (43, pB false)], [(0, some (.p (some 3) [.agg [.str [], .str [], .str []]])), (1, some (.p (some 3) [.agg [.str x5, .str x6, .str p8]]))], 2⟩) (.cons (c32 hx9) (.cons hg10 (.cons hg10 (.cons (by rw [List.length_map]) (.cons hg10 (.cons hg10 (.cons hg11 (.cons hg11 (.cons hg11 (.cons hg10 (.cons hg11 (.cons hg10 .nil)))))))))))) (.of_eq (by simp only [hg10, hg11, bs, reduceIte]))
     ·refine x_cond _ rfl (fun hc13 => ?_) (fun hc13 => ?_)
      ·replace h := ite_t h hc13
       refine x_rg (rgn [hE, hE, hE] (⟨[(2, .optr 0 0 0), (3, pI 36)], [(0, some (.p (some 3) [.agg [.str [], .str [], .str []]]))], 1⟩)) ?_
       refine x_toret ?_
       refine x_tr ?_
       obtain rfl := Option.some.inj h
       exact ret0 (.tup [.agg [.str [], .str [], .str []], .int .i64 36]) (.tup (.cons (.refl _) (.cons (.refl _) .nil))) (fun _ => rfl)
      ·replace h := ite_f h hc13
       refine kw0 (⟨[(2, .optr 0 0 0), (5, .optr 1 0 0)], [(0, some (.p (some 3) [.agg [.str [], .str [], .str []]])), (1, some (.p (some 3) [.agg [.str x5, .str x6, .str p8]]))], 2⟩) ?_
       refine x_skip ?_
       refine x_tn ?_
       refine x_rg (rgn [hE, hE, hE] (⟨[(2, .optr 0 0 0), (3, pI 0)], [(0, some (.p (some 3) [.agg [.str x5, .str x6, .str p8]]))], 1⟩)) ?_
       refine x_toret ?_
       obtain rfl := Option.some.inj h
       exact ret0 (.tup [.agg [.str x5, .str x6, .str p8], .int .i64 0]) (.tup (.cons (.refl _) (.cons (.refl _) .nil))) (fun _ => rfl)
    ·refine x_rg (rg0 (obs := [((((List.map PV.str x1).length : Nat) : Int) = (List.length x1 : Int))]) [hE, hN (.len (List.length x1 : Int)), hE] (⟨[(2, .optr 0 0 0), (4, oL 1 PV.str x1), (5, .optr 2 0 0), (26, pB (decide ((List.length x1 : Int) = 3)))], [(0, some (.p (some 3) [.agg [.str [], .str [], .str []]])), (1, rL none PV.str x1), (2, some (.p (some 3) [.agg [.str x5, .str x6, .str []]]))], 3⟩) (.cons (by rw [List.length_map]) .nil)) ?_
     refine x_cond _ rfl (fun hc14 => ?_) (fun hc14 => ?_)
     ·replace h := ite_t h hc14
      obtain ⟨x15, hx15, h⟩ := bind_some h
      refine x_rgt (rg0 (obs := [(0 ≤ (2 : Int) ∧ Int.toNat 2 < (List.map PV.str x1).length), ((List.map PV.str x1)[(0 + Int.toNat 2)]? = some (.str x15))]) [hE, hN .rAt, hN (.ld (.str x15)), hE, hE] (⟨[(2, .optr 0 0 0), (4, oL 1 PV.str x1), (5, .optr 2 0 0)], [(0, some (.p (some 3) [.agg [.str [], .str [], .str []]])), (1, rL none PV.str x1), (2, some (.p (some 3) [.agg [.str x5, .str x6, .str x15]]))], 3⟩) (.cons (rAt_ob hx15 (by simp)) (.cons (ownAt hx15) .nil))) ?_
      refine x_tn ?_
      exact ⟨x15, h, by kernel_rfl⟩
     ·replace h := ite_f h hc14
      refine kw0 (⟨[(2, .optr 0 0 0), (4, oL 1 PV.str x1), (5, .optr 2 0 0)], [(0, some (.p (some 3) [.agg [.str [], .str [], .str []]])), (1, rL none PV.str x1), (2, some (.p (some 3) [.agg [.str x5, .str x6, .str []]]))], 3⟩) ?_
      refine x_skip ?_
      refine x_tn ?_
      exact ⟨[], h, by kernel_rfl⟩

theorem c11 {r : Bool} (h : law27_awake = some r) : CallOK Tryd.prog 11 [] (.bool r) true := by
  apply ok11
  unfold law27_awake at h
  refine x_rg (rgn [hE] (⟨[], [], 0⟩)) ?_
  obtain ⟨x1, hx1, h⟩ := bind_some h
  refine x_rg (rg0 [hN (.cal [] (.tup [.usl (some 1) (List.map enc_api_Entry x1.1), .int .i64 x1.2.1, .int .i64 x1.2.2]) false), hE, hE, hE, hE, hE, hE, hE] (⟨[(1, oL 0 enc_api_Entry x1.1), (2, pI x1.2.1), (3, pI x1.2.2)], [(0, rL (some 1) enc_api_Entry x1.1)], 1⟩) (.cons (c16 hx1) .nil)) ?_
  refine x_seq ?_
  obtain ⟨t6, ht, h⟩ := bind_some h
  refine x_rg (st2 := ⟨[(1, oL 0 enc_api_Entry x1.1), (31, pB t6)], [(0, rL (some 1) enc_api_Entry x1.1)], 1⟩) ?_ ?_
  ·rcases Bool.eq_false_or_eq_true (!decide (x1.2.2 = 0)) with hg2 | hg2
   ·replace ht := ite_t ht hg2
    have e := Option.some.inj ht
    subst e
    exact rg0 [hE, hE, hE, hS, hS, hN (.pk true), hE, hS, hS, hS, hE, hE, hS, hS, hS, hS, hS, hS, hE] (⟨[(1, oL 0 enc_api_Entry x1.1), (31, pB true)], [(0, rL (some 1) enc_api_Entry x1.1)], 1⟩) (.cons hg2 (.cons hg2 (.cons hg2 (.cons tt (.cons tt (.cons tt (.cons tt (.cons tt (.cons tt (.cons tt (.cons tt (.cons tt .nil))))))))))))
   ·replace ht := ite_f ht hg2
    rcases Bool.eq_false_or_eq_true (!decide (x1.2.1 = 0)) with hg3 | hg3
    ·replace ht := ite_t ht hg3
     have e := Option.some.inj ht
     subst e
     exact rg0 [hE, hE, hE, hY, hY, hN (.pk false), hE, hS, hS, hS, hN (.pk true), hE, hS, hS, hS, hS, hS, hS, hE] (⟨[(1, oL 0 enc_api_Entry x1.1), (31, pB true)], [(0, rL (some 1) enc_api_Entry x1.1)], 1⟩) (.cons hg2 (.cons hg2 (.cons hg2 (.cons hg3 (.cons hg3 (.cons hg3 (.cons hg3 (.cons tt (.cons tt (.cons tt (.cons tt (.cons tt (.cons tt .nil)))))))))))))
    ·replace ht := ite_f ht hg3
     rcases Bool.eq_false_or_eq_true (!decide ((List.length x1.1 : Int) = 3)) with hg4 | hg4
     ·replace ht := ite_t ht hg4
      have e := Option.some.inj ht
      subst e
      exact rg0 (obs := [((!decide (x1.2.2 = 0)) = false), ((!decide (x1.2.2 = 0)) = false), ((!decide (x1.2.2 = 0)) = false), ((!decide (x1.2.1 = 0)) = false), ((!decide (x1.2.1 = 0)) = false), ((((List.map enc_api_Entry x1.1).length : Nat) : Int) = (List.length x1.1 : Int)), ((!decide (x1.2.1 = 0)) = false), ((!decide (x1.2.1 = 0)) = false), ((!decide ((List.length x1.1 : Int) = 3)) = true), ((!decide ((List.length x1.1 : Int) = 3)) = true), ((!decide ((List.length x1.1 : Int) = 3)) = true), ((!decide ((List.length x1.1 : Int) = 3)) = true), ((!decide ((List.length x1.1 : Int) = 3)) = true), ((!decide ((List.length x1.1 : Int) = 3)) = true), ((!decide ((List.length x1.1 : Int) = 3)) = true)]) [hE, hE, hE, hY, hY, hN (.pk false), hE, hY, (.y, (.len (List.length x1.1 : Int))), hY, hN (.pk false), hE, hS, hS, hS, hS, hS, hS, hN (.pk true)] (⟨[(1, oL 0 enc_api_Entry x1.1), (31, pB true)], [(0, rL (some 1) enc_api_Entry x1.1)], 1⟩) (.cons hg2 (.cons hg2 (.cons hg2 (.cons hg3 (.cons hg3 (.cons (by rw [List.length_map]) (.cons hg3 (.cons hg3 (.cons hg4 (.cons hg4 (.cons hg4 (.cons hg4 (.cons hg4 (.cons hg4 (.cons hg4 .nil)))))))))))))))
     ·replace ht := ite_f ht hg4
      obtain ⟨x5, hx5, ht⟩ := bind_some ht
      have e := Option.some.inj ht
      subst e
      exact rg0 (obs := [((!decide (x1.2.2 = 0)) = false), ((!decide (x1.2.2 = 0)) = false), ((!decide (x1.2.2 = 0)) = false), ((!decide (x1.2.1 = 0)) = false), ((!decide (x1.2.1 = 0)) = false), ((((List.map enc_api_Entry x1.1).length : Nat) : Int) = (List.length x1.1 : Int)), ((!decide (x1.2.1 = 0)) = false), ((!decide (x1.2.1 = 0)) = false), ((!decide ((List.length x1.1 : Int) = 3)) = false), ((!decide ((List.length x1.1 : Int) = 3)) = false), (0 ≤ (1 : Int) ∧ Int.toNat 1 < (List.map enc_api_Entry x1.1).length), ((!decide ((List.length x1.1 : Int) = 3)) = false), ((!decide ((List.length x1.1 : Int) = 3)) = false), ((List.map enc_api_Entry x1.1)[(0 + Int.toNat 1)]? = some (enc_api_Entry x5)), ((!decide ((List.length x1.1 : Int) = 3)) = false), ((List.length (List.map enc_api_Attr x5.Attrs) : Int) = (List.length x5.Attrs : Int)), ((!decide ((List.length x1.1 : Int) = 3)) = false), ((!decide ((List.length x1.1 : Int) = 3)) = false)]) [hE, hE, hE, hY, hY, hN (.pk false), hE, hY, (.y, (.len (List.length x1.1 : Int))), hY, hN (.pk false), hE, hY, (.y, .rAt), hY, (.y, (.ld (enc_api_Entry x5))), (.y, (.len (List.length x5.Attrs : Int))), hY, hN (.pk false)] (⟨[(1, oL 0 enc_api_Entry x1.1), (31, pB (!decide ((List.length x5.Attrs : Int) = 2)))], [(0, rL (some 1) enc_api_Entry x1.1)], 1⟩) (.cons hg2 (.cons hg2 (.cons hg2 (.cons hg3 (.cons hg3 (.cons (by rw [List.length_map]) (.cons hg3 (.cons hg3 (.cons hg4 (.cons hg4 (.cons (rAt_ob hx5 (by simp)) (.cons hg4 (.cons hg4 (.cons (ownAt hx5) (.cons hg4 (.cons (by rw [List.length_map]) (.cons hg4 (.cons hg4 .nil))))))))))))))))))
  ·clear ht
   refine x_cond _ rfl (fun hc7 => ?_) (fun hc7 => ?_)
   ·replace h := ite_t h hc7
    refine x_rg (rgn [hE] (⟨[(0, pB false)], [], 0⟩)) ?_
    refine x_toret ?_
    refine x_tr ?_
    obtain rfl := Option.some.inj h
    exact ret0 (.bool false) (.refl _) (fun _ => rfl)
   ·replace h := ite_f h hc7
    refine kw0 (⟨[(1, oL 0 enc_api_Entry x1.1)], [(0, rL (some 1) enc_api_Entry x1.1)], 1⟩) ?_
    refine x_skip ?_
    refine x_tn ?_
    obtain ⟨x8, hx8, h⟩ := bind_some h
    refine x_rg (rg0 (obs := [(LesA [.sl (some 1) (List.take (List.map enc_api_Entry x1.1).length (List.drop 0 (List.map enc_api_Entry x1.1))), .str [116, 101, 114, 109], .agg [.str [110, 101, 116], .str [102, 115], .str []]] [.sl (some 1) (List.map enc_api_Entry x1.1), .str [116, 101, 114, 109], .agg [.str [110, 101, 116], .str [102, 115], .str []]]), (CallOK Tryd.prog 22 [.sl (some 1) (List.map enc_api_Entry x1.1), .str [116, 101, 114, 109], .agg [.str [110, 101, 116], .str [102, 115], .str []]] (.tup [.usl (some 3) (List.map enc_api_Addr x8.1), .int .i64 x8.2]) true), (0 + (List.map enc_api_Entry x1.1).length ≤ List.length (List.map enc_api_Entry x1.1))]) [hE, hE, hN (.call [] [.sl (some 1) (List.map enc_api_Entry x1.1), .str [116, 101, 114, 109], .agg [.str [110, 101, 116], .str [102, 115], .str []]] (.tup [.usl (some 3) (List.map enc_api_Addr x8.1), .int .i64 x8.2]) true), hE, hE, hE, hE, hE] (⟨[(3, pI x8.2), (4, oL 0 enc_api_Addr x8.1)], [(0, rL (some 3) enc_api_Addr x8.1)], 1⟩) (.cons (.cons (.of_eq (by rw [List.drop_zero, List.take_length])) (.cons (.refl _) (.cons (.refl _) .nil))) (.cons (c22 hx8) (.cons (by simp) .nil)))) ?_
    refine x_seq ?_
    refine x_rg (st2 := ⟨[(4, oL 0 enc_api_Addr x8.1), (44, pB ((!decide (x8.2 = 0)) || (!decide ((List.length x8.1 : Int) = 1))))], [(0, rL (some 3) enc_api_Addr x8.1)], 1⟩) ?_ ?_
    ·rcases Bool.eq_false_or_eq_true (!decide (x8.2 = 0)) with hg9 | hg9
     ·exact rg [hE, hE, hE, hS, hS, hS, hN (.pk true)] (⟨[(4, oL 0 enc_api_Addr x8.1), (44, pB true)], [(0, rL (some 3) enc_api_Addr x8.1)], 1⟩) (.cons hg9 (.cons hg9 (.cons hg9 (.cons hg9 .nil)))) (.of_eq (by simp only [hg9, bs, reduceIte]))
     ·exact rg (obs := [((!decide (x8.2 = 0)) = false), ((!decide (x8.2 = 0)) = false), ((((List.map enc_api_Addr x8.1).length : Nat) : Int) = (List.length x8.1 : Int)), ((!decide (x8.2 = 0)) = false), ((!decide (x8.2 = 0)) = false)]) [hE, hE, hE, hY, (.y, (.len (List.length x8.1 : Int))), hY, hN (.pk false)] (⟨[(4, oL 0 enc_api_Addr x8.1), (44, pB (!decide ((List.length x8.1 : Int) = 1)))], [(0, rL (some 3) enc_api_Addr x8.1)], 1⟩) (.cons hg9 (.cons hg9 (.cons (by rw [List.length_map]) (.cons hg9 (.cons hg9 .nil))))) (.of_eq (by simp only [hg9, bs, reduceIte]))
    ·refine x_cond _ rfl (fun hc11 => ?_) (fun hc11 => ?_)
     ·replace h := ite_t h hc11
      refine x_rg (rgn [hE] (⟨[(0, pB false)], [], 0⟩)) ?_
      refine x_toret ?_
      refine x_tr ?_
      obtain rfl := Option.some.inj h
      exact ret0 (.bool false) (.refl _) (fun _ => rfl)
     ·replace h := ite_f h hc11
      refine kw0 (⟨[(4, oL 0 enc_api_Addr x8.1)], [(0, rL (some 3) enc_api_Addr x8.1)], 1⟩) ?_
      refine x_skip ?_
      refine x_tn ?_
      obtain ⟨x12, hx12, h⟩ := bind_some h
      obtain ⟨x13, hx13, h⟩ := bind_some h
      refine x_rg (rg0 (obs := [(0 ≤ (0 : Int) ∧ Int.toNat 0 < (List.map enc_api_Addr x8.1).length), ((List.map enc_api_Addr x8.1)[(0 + Int.toNat 0)]? = some (enc_api_Addr x12)), (CallOK Tryd.prog 14 [enc_api_Addr x12] (.tup [.str x13.1, .int .i64 x13.2]) true)]) [hE, hN .rAt, hN (.ld (enc_api_Addr x12)), hN (.cal [] (.tup [.str x13.1, .int .i64 x13.2]) true), hE, hE, hE, hE, hE] (⟨[(3, pI x13.2), (4, oL 0 enc_api_Addr x8.1), (5, pS x13.1)], [(0, rL (some 3) enc_api_Addr x8.1)], 1⟩) (.cons (rAt_ob hx12 (by simp)) (.cons (ownAt hx12) (.cons (c14 hx13) .nil)))) ?_
      obtain ⟨x14, hx14, h⟩ := bind_some h
      refine x_rg (rg0 [hN (.cal [] (.tup [enc_api_Addr x14.1, .int .i64 x14.2]) true), hE, hE, hE, hE, hE, hE] (⟨[(3, pI x13.2), (4, oL 0 enc_api_Addr x8.1), (5, pS x13.1), (6, .optr 1 0 0), (7, pI x14.2)], [(0, rL (some 3) enc_api_Addr x8.1), (1, some (.p (some 3) [enc_api_Addr x14.1]))], 2⟩) (.cons (c12 hx14) .nil)) ?_
      obtain ⟨t19, ht, h⟩ := bind_some h
      refine x_rg (st2 := ⟨[(0, pB t19)], [], 0⟩) ?_ ?_
      ·rcases Bool.eq_false_or_eq_true (decide (x13.1 = [116, 99, 112, 33, 102, 115, 33, 53, 54, 52])) with hg15 | hg15
       ·replace ht := ite_t ht hg15
        rcases Bool.eq_false_or_eq_true (decide (x13.2 = 0)) with hg16 | hg16
        ·replace ht := ite_t ht hg16
         obtain ⟨x17, hx17, ht⟩ := bind_some ht
         rcases Bool.eq_false_or_eq_true (decide (x14.1.Net = x17.Net) && (decide (x14.1.Host = x17.Host) && (decide (x14.1.Service = x17.Service) && true))) with hg18 | hg18
         ·replace ht := ite_t ht hg18
          have e := Option.some.inj ht
          subst e
          exact rg0 (obs := [((decide (x13.1 = [116, 99, 112, 33, 102, 115, 33, 53, 54, 52])) = true), ((decide (x13.1 = [116, 99, 112, 33, 102, 115, 33, 53, 54, 52])) = true), ((decide (x13.1 = [116, 99, 112, 33, 102, 115, 33, 53, 54, 52])) = true), ((decide (x13.2 = 0)) = true), ((decide (x13.2 = 0)) = true), ((decide (x13.2 = 0)) = true), (0 ≤ (0 : Int) ∧ Int.toNat 0 < (List.map enc_api_Addr x8.1).length), ((decide (x13.2 = 0)) = true), ((List.map enc_api_Addr x8.1)[(0 + Int.toNat 0)]? = some (enc_api_Addr x17)), ((decide (x13.2 = 0)) = true), ((decide (x13.2 = 0)) = true), ((decide (x14.1.Net = x17.Net) && (decide (x14.1.Host = x17.Host) && (decide (x14.1.Service = x17.Service) && true))) = true), ((decide (x14.1.Net = x17.Net) && (decide (x14.1.Host = x17.Host) && (decide (x14.1.Service = x17.Service) && true))) = true), ((decide (x14.1.Net = x17.Net) && (decide (x14.1.Host = x17.Host) && (decide (x14.1.Service = x17.Service) && true))) = true)]) [hE, hE, hE, hY, hY, hN (.pk true), hE, hY, hY, (.y, .rAt), (.y, (.ld (enc_api_Addr x17))), hY, hN (.pk true), hE, hY, hY, hN (.pk true), hE] (⟨[(0, pB (decide (x14.2 = 0)))], [], 0⟩) (.cons hg15 (.cons hg15 (.cons hg15 (.cons hg16 (.cons hg16 (.cons hg16 (.cons (rAt_ob hx17 (by simp)) (.cons hg16 (.cons (ownAt hx17) (.cons hg16 (.cons hg16 (.cons hg18 (.cons hg18 (.cons hg18 .nil))))))))))))))
         ·replace ht := ite_f ht hg18
          have e := Option.some.inj ht
          subst e
          exact rg0 (obs := [((decide (x13.1 = [116, 99, 112, 33, 102, 115, 33, 53, 54, 52])) = true), ((decide (x13.1 = [116, 99, 112, 33, 102, 115, 33, 53, 54, 52])) = true), ((decide (x13.1 = [116, 99, 112, 33, 102, 115, 33, 53, 54, 52])) = true), ((decide (x13.2 = 0)) = true), ((decide (x13.2 = 0)) = true), ((decide (x13.2 = 0)) = true), (0 ≤ (0 : Int) ∧ Int.toNat 0 < (List.map enc_api_Addr x8.1).length), ((decide (x13.2 = 0)) = true), ((List.map enc_api_Addr x8.1)[(0 + Int.toNat 0)]? = some (enc_api_Addr x17)), ((decide (x13.2 = 0)) = true), ((decide (x13.2 = 0)) = true), ((decide (x14.1.Net = x17.Net) && (decide (x14.1.Host = x17.Host) && (decide (x14.1.Service = x17.Service) && true))) = false), ((decide (x14.1.Net = x17.Net) && (decide (x14.1.Host = x17.Host) && (decide (x14.1.Service = x17.Service) && true))) = false), ((decide (x14.1.Net = x17.Net) && (decide (x14.1.Host = x17.Host) && (decide (x14.1.Service = x17.Service) && true))) = false)]) [hE, hE, hE, hY, hY, hN (.pk true), hE, hY, hY, (.y, .rAt), (.y, (.ld (enc_api_Addr x17))), hY, hN (.pk true), hE, hS, hS, hN (.pk false), hE] (⟨[(0, pB false)], [], 0⟩) (.cons hg15 (.cons hg15 (.cons hg15 (.cons hg16 (.cons hg16 (.cons hg16 (.cons (rAt_ob hx17 (by simp)) (.cons hg16 (.cons (ownAt hx17) (.cons hg16 (.cons hg16 (.cons hg18 (.cons hg18 (.cons hg18 .nil))))))))))))))
        ·replace ht := ite_f ht hg16
         have e := Option.some.inj ht
         subst e
         exact rg0 (obs := [((decide (x13.1 = [116, 99, 112, 33, 102, 115, 33, 53, 54, 52])) = true), ((decide (x13.1 = [116, 99, 112, 33, 102, 115, 33, 53, 54, 52])) = true), ((decide (x13.1 = [116, 99, 112, 33, 102, 115, 33, 53, 54, 52])) = true), ((decide (x13.2 = 0)) = false), ((decide (x13.2 = 0)) = false), ((decide (x13.2 = 0)) = false), ((decide (x13.2 = 0)) = false), ((decide (x13.2 = 0)) = false), ((decide (x13.2 = 0)) = false), (false = false), (false = false)]) [hE, hE, hE, hY, hY, hN (.pk true), hE, hS, hS, hS, hS, hS, hN (.pk false), hE, hS, hS, hE, hE] (⟨[(0, pB false)], [], 0⟩) (.cons hg15 (.cons hg15 (.cons hg15 (.cons hg16 (.cons hg16 (.cons hg16 (.cons hg16 (.cons hg16 (.cons hg16 (.cons rfl (.cons rfl .nil)))))))))))
       ·replace ht := ite_f ht hg15
        have e := Option.some.inj ht
        subst e
        exact rg0 (obs := [((decide (x13.1 = [116, 99, 112, 33, 102, 115, 33, 53, 54, 52])) = false), ((decide (x13.1 = [116, 99, 112, 33, 102, 115, 33, 53, 54, 52])) = false), ((decide (x13.1 = [116, 99, 112, 33, 102, 115, 33, 53, 54, 52])) = false), (false = false), (false = false), (false = false), (false = false), (false = false), (false = false), (false = false)]) [hE, hE, hE, hS, hS, hN (.pk false), hE, hS, hS, hS, hS, hS, hE, hE, hS, hS, hE, hE] (⟨[(0, pB false)], [], 0⟩) (.cons hg15 (.cons hg15 (.cons hg15 (.cons rfl (.cons rfl (.cons rfl (.cons rfl (.cons rfl (.cons rfl (.cons rfl .nil))))))))))
      ·clear ht
       refine x_toret ?_
       obtain rfl := Option.some.inj h
       exact ret0 (.bool t19) (.refl _) (fun _ => rfl)

theorem c19 {l : (List api_Entry)} {r : Bool} (h : law27_small l = some r) : CallOK Tryd.prog 19 [.sl (some 1) (List.map enc_api_Entry l)] (.bool r) true := by
  apply ok19
  unfold law27_small at h
  refine x_rg (rgn [hE] (⟨[(0, pL (some 1) enc_api_Entry l)], [], 0⟩)) ?_
  refine x_seq ?_
  refine x_rg (rg0 [hE, hN (.len (List.length l : Int)), hE] (⟨[(0, pL (some 1) enc_api_Entry l), (8, pB (decide (300 < (List.length l : Int))))], [], 0⟩) (.cons (lenM enc_api_Entry l) .nil)) ?_
  refine x_cond _ rfl (fun hc1 => ?_) (fun hc1 => ?_)
  ·replace h := ite_t h hc1
   refine x_rg (rgn [hE] (⟨[(2, pB false)], [], 0⟩)) ?_
   refine x_toret ?_
   refine x_tr ?_
   obtain rfl := Option.some.inj h
   exact ret0 (.bool false) (.refl _) (fun _ => rfl)
  ·replace h := ite_f h hc1
   refine kw0 (⟨[(0, pL (some 1) enc_api_Entry l)], [], 0⟩) ?_
   refine x_skip ?_
   refine x_tn ?_
   refine x_rg (rgn [hE] (⟨[(0, pL (some 1) enc_api_Entry l), (3, pI 0)], [], 0⟩)) ?_
   refine x_seq ?_
   refine x_rg (rg0 [hE, hN (.len (List.length l : Int)), hE] (⟨[(0, pL (some 1) enc_api_Entry l), (3, pI 0), (10, pI (List.length l : Int)), (11, pI 0)], [], 0⟩) (.cons (lenM enc_api_Entry l) .nil)) ?_
   refine x_block ?_
   refine kw0 (⟨[(0, pL (some 1) enc_api_Entry l), (3, pI 0), (10, pI (List.length l : Int)), (11, pI 0)], [], 0⟩) ?_
   refine x_loop (σ := (Int × Int)) h (fun s => ⟨[(0, pL (some 1) enc_api_Entry l), (3, pI s.1), (10, pI (List.length l : Int)), (11, pI s.2)], [], 0⟩) (by kernel_rfl) ?_ ?_
   ·rintro ⟨n, v25⟩
    kernel_rfl
   ·rintro ⟨n, v25⟩ x26 h hx26
    replace h : law27_small_L26 l n v25 = some x26 := h
    unfold law27_small_L26 at h
    refine x_rg (rgn [hE] (⟨[(0, pL (some 1) enc_api_Entry l), (3, pI n), (10, pI (List.length l : Int)), (11, pI v25), (12, pB (decide (v25 < (List.length l : Int))))], [], 0⟩)) ?_
    refine x_seq ?_
    refine x_cond _ rfl (fun hc27 => ?_) (fun hc27 => ?_)
    ·replace h := ite_t h hc27
     refine kw0 (⟨[(0, pL (some 1) enc_api_Entry l), (3, pI n), (10, pI (List.length l : Int)), (11, pI v25)], [], 0⟩) ?_
     refine x_skip ?_
     refine x_tn ?_
     refine x_seq ?_
     refine x_block ?_
     refine x_rg (rgn [hE, hE] (⟨[(0, pL (some 1) enc_api_Entry l), (3, pI n), (4, pI v25), (10, pI (List.length l : Int)), (11, pI v25)], [], 0⟩)) ?_
     obtain ⟨x28, hx28, h⟩ := bind_some h
     refine x_rg (rg0 [hE, hE, hE, hN (.pAt (enc_api_Entry x28)), hE, hE, hN (.len (List.length x28.Attrs : Int)), hE, hE] (⟨[(0, pL (some 1) enc_api_Entry l), (3, pI (IntKind.wrap .i64 (n + (List.length x28.Attrs : Int)))), (4, pI v25), (10, pI (List.length l : Int)), (11, pI v25)], [], 0⟩) (.cons (lsAt_map (f := enc_api_Entry) hx28) (.cons (lenM enc_api_Attr x28.Attrs) .nil))) ?_
     refine x_seq ?_
     refine x_rg (rgn [hE, hE] (⟨[(0, pL (some 1) enc_api_Entry l), (3, pI (IntKind.wrap .i64 (n + (List.length x28.Attrs : Int)))), (4, pI v25), (10, pI (List.length l : Int)), (11, pI v25), (23, pB (decide (600 < (IntKind.wrap .i64 (n + (List.length x28.Attrs : Int))))))], [], 0⟩)) ?_
     refine x_cond _ rfl (fun hc29 => ?_) (fun hc29 => ?_)
     ·replace h := ite_t h hc29
      refine x_rg (rgn [hE] (⟨[(2, pB false)], [], 0⟩)) ?_
      refine x_toret ?_
      refine x_tr ?_
      refine x_br ?_
      refine x_tr ?_
      refine x_tr ?_
      replace h := done_leaf h hx26
      refine x_br ?_
      refine x_tr ?_
      obtain rfl := Option.some.inj h
      exact ret0 (.bool false) (.refl _) (fun _ => rfl)
     ·replace h := ite_f h hc29
      refine kw0 (⟨[(0, pL (some 1) enc_api_Entry l), (3, pI (IntKind.wrap .i64 (n + (List.length x28.Attrs : Int)))), (4, pI v25), (10, pI (List.length l : Int)), (11, pI v25)], [], 0⟩) ?_
      refine x_skip ?_
      refine x_tn ?_
      obtain ⟨x30, hx30, h⟩ := bind_some h
      refine x_rg (rg0 [hE, hE, hN (.pAt (enc_api_Entry x30)), hE, hE, hN (.len (List.length x30.Attrs : Int)), hE] (⟨[(0, pL (some 1) enc_api_Entry l), (3, pI (IntKind.wrap .i64 (n + (List.length x28.Attrs : Int)))), (4, pI v25), (10, pI (List.length l : Int)), (11, pI v25), (29, pI (List.length x30.Attrs : Int)), (30, pI 0)], [], 0⟩) (.cons (lsAt_map (f := enc_api_Entry) hx30) (.cons (lenM enc_api_Attr x30.Attrs) .nil))) ?_
      refine x_block ?_
      refine kw0 (⟨[(0, pL (some 1) enc_api_Entry l), (3, pI (IntKind.wrap .i64 (n + (List.length x28.Attrs : Int)))), (4, pI v25), (10, pI (List.length l : Int)), (11, pI v25), (29, pI (List.length x30.Attrs : Int)), (30, pI 0)], [], 0⟩) ?_
      refine x_loop (σ := Int) h (fun s => ⟨[(0, pL (some 1) enc_api_Entry l), (3, pI (IntKind.wrap .i64 (n + (List.length x28.Attrs : Int)))), (4, pI v25), (10, pI (List.length l : Int)), (11, pI v25), (29, pI (List.length x30.Attrs : Int)), (30, pI s)], [], 0⟩) (by kernel_rfl) ?_ ?_
      ·rintro v39
       kernel_rfl
      ·rintro v39 x40 h hx40
       replace h : law27_small_L40 l n v25 x28 x30 v39 = some x40 := h
       unfold law27_small_L40 at h
       refine x_rg (rgn [hE] (⟨[(0, pL (some 1) enc_api_Entry l), (3, pI (IntKind.wrap .i64 (n + (List.length x28.Attrs : Int)))), (4, pI v25), (10, pI (List.length l : Int)), (11, pI v25), (29, pI (List.length x30.Attrs : Int)), (30, pI v39), (31, pB (decide (v39 < (List.length x30.Attrs : Int))))], [], 0⟩)) ?_
       refine x_seq ?_
       refine x_cond _ rfl (fun hc41 => ?_) (fun hc41 => ?_)
       ·replace h := ite_t h hc41
        refine kw0 (⟨[(0, pL (some 1) enc_api_Entry l), (3, pI (IntKind.wrap .i64 (n + (List.length x28.Attrs : Int)))), (4, pI v25), (10, pI (List.length l : Int)), (11, pI v25), (29, pI (List.length x30.Attrs : Int)), (30, pI v39)], [], 0⟩) ?_
        refine x_skip ?_
        refine x_tn ?_
        refine x_seq ?_
        refine x_block ?_
        refine x_rg (rgn [hE, hE] (⟨[(0, pL (some 1) enc_api_Entry l), (3, pI (IntKind.wrap .i64 (n + (List.length x28.Attrs : Int)))), (4, pI v25), (5, pI v39), (10, pI (List.length l : Int)), (11, pI v25), (29, pI (List.length x30.Attrs : Int)), (30, pI v39)], [], 0⟩)) ?_
        obtain ⟨x42, hx42, h⟩ := bind_some h
        obtain ⟨x43, hx43, h⟩ := bind_some h
        obtain ⟨t47, ht, h⟩ := bind_some h
        refine x_rg (st2 := ⟨[(0, pL (some 1) enc_api_Entry l), (3, pI (IntKind.wrap .i64 (n + (List.length x28.Attrs : Int)))), (4, pI v25), (10, pI (List.length l : Int)), (11, pI v25), (29, pI (List.length x30.Attrs : Int)), (30, pI v39), (56, pB t47)], [], 0⟩) ?_ ?_
        ·rcases Bool.eq_false_or_eq_true (decide (1100 < (List.length x43.Name : Int))) with hg44 | hg44
         ·replace ht := ite_t ht hg44
          have e := Option.some.inj ht
          subst e
          exact rg0 [hE, hE, hN (.pAt (enc_api_Entry x42)), hE, hE, hE, hN (.pAt (enc_api_Attr x43)), hE, hE, hE, hE, hE, hS, hS, hS, hS, hS, hS, hS, hS, hS, hS, hS, hN (.pk true)] (⟨[(0, pL (some 1) enc_api_Entry l), (3, pI (IntKind.wrap .i64 (n + (List.length x28.Attrs : Int)))), (4, pI v25), (10, pI (List.length l : Int)), (11, pI v25), (29, pI (List.length x30.Attrs : Int)), (30, pI v39), (56, pB true)], [], 0⟩) (.cons (lsAt_map (f := enc_api_Entry) hx42) (.cons (lsAt_map (f := enc_api_Attr) hx43) (.cons hg44 (.cons hg44 (.cons hg44 (.cons hg44 (.cons hg44 (.cons hg44 (.cons hg44 (.cons hg44 (.cons hg44 (.cons hg44 (.cons hg44 (.cons hg44 .nil))))))))))))))
         ·replace ht := ite_f ht hg44
          obtain ⟨x45, hx45, ht⟩ := bind_some ht
          obtain ⟨x46, hx46, ht⟩ := bind_some ht
          have e := Option.some.inj ht
          subst e
          exact rg0 [hE, hE, hN (.pAt (enc_api_Entry x42)), hE, hE, hE, hN (.pAt (enc_api_Attr x43)), hE, hE, hE, hE, hE, hY, hY, (.y, (.pAt (enc_api_Entry x45))), hY, hY, hY, (.y, (.pAt (enc_api_Attr x46))), hY, hY, hY, hY, hN (.pk false)] (⟨[(0, pL (some 1) enc_api_Entry l), (3, pI (IntKind.wrap .i64 (n + (List.length x28.Attrs : Int)))), (4, pI v25), (10, pI (List.length l : Int)), (11, pI v25), (29, pI (List.length x30.Attrs : Int)), (30, pI v39), (56, pB (decide (1100 < (List.length x46.Value : Int))))], [], 0⟩) (.cons (lsAt_map (f := enc_api_Entry) hx42) (.cons (lsAt_map (f := enc_api_Attr) hx43) (.cons hg44 (.cons hg44 (.cons hg44 (.cons (lsAt_map (f := enc_api_Entry) hx45) (.cons hg44 (.cons hg44 (.cons hg44 (.cons hg44 (.cons (lsAt_map (f := enc_api_Attr) hx46) (.cons hg44 (.cons hg44 (.cons hg44 (.cons hg44 (.cons hg44 .nil))))))))))))))))
        ·clear ht
         refine x_cond _ rfl (fun hc48 => ?_) (fun hc48 => ?_)
         ·replace h := ite_t h hc48
          refine x_rg (rgn [hE] (⟨[(2, pB false)], [], 0⟩)) ?_
          refine x_toret ?_
          refine x_br ?_
          refine x_tr ?_
          refine x_tr ?_
          replace h := done_leaf h hx40
          refine x_br ?_
          refine x_br ?_
          refine x_tr ?_
          refine x_tr ?_
          replace h := done_leaf h hx26
          refine x_br ?_
          refine x_tr ?_
          obtain rfl := Option.some.inj h
          exact ret0 (.bool false) (.refl _) (fun _ => rfl)
         ·replace h := ite_f h hc48
          refine kw0 (⟨[(0, pL (some 1) enc_api_Entry l), (3, pI (IntKind.wrap .i64 (n + (List.length x28.Attrs : Int)))), (4, pI v25), (10, pI (List.length l : Int)), (11, pI v25), (29, pI (List.length x30.Attrs : Int)), (30, pI v39)], [], 0⟩) ?_
          refine x_skip ?_
          refine x_bn ?_
          refine x_tn ?_
          refine x_rgt (rgn [hE, hE] (⟨[(0, pL (some 1) enc_api_Entry l), (3, pI (IntKind.wrap .i64 (n + (List.length x28.Attrs : Int)))), (4, pI v25), (10, pI (List.length l : Int)), (11, pI v25), (29, pI (List.length x30.Attrs : Int)), (30, pI (IntKind.wrap .i64 (v39 + 1)))], [], 0⟩)) ?_
          refine x_tn ?_
          exact ⟨_, (Option.some.inj h).symm, by kernel_rfl⟩
       ·replace h := ite_f h hc41
        refine kw0 (⟨[(0, pL (some 1) enc_api_Entry l), (3, pI (IntKind.wrap .i64 (n + (List.length x28.Attrs : Int)))), (10, pI (List.length l : Int)), (11, pI v25)], [], 0⟩) ?_
        refine x_exit ?_
        refine x_te ?_
        refine x_te ?_
        replace h := done_leaf h hx40
        refine x_bh ?_
        refine x_bn ?_
        refine x_tn ?_
        refine x_rgt (rgn [hE, hE] (⟨[(0, pL (some 1) enc_api_Entry l), (3, pI (IntKind.wrap .i64 (n + (List.length x28.Attrs : Int)))), (10, pI (List.length l : Int)), (11, pI (IntKind.wrap .i64 (v25 + 1)))], [], 0⟩)) ?_
        refine x_tn ?_
        exact ⟨_, (Option.some.inj h).symm, by kernel_rfl⟩
    ·replace h := ite_f h hc27
     refine kw0 (⟨[], [], 0⟩) ?_
     refine x_exit ?_
     refine x_te ?_
     refine x_te ?_
     replace h := done_leaf h hx26
     refine x_bh ?_
     refine x_tn ?_
     refine x_rg (rgn [hE] (⟨[(2, pB true)], [], 0⟩)) ?_
     refine x_toret ?_
     obtain rfl := Option.some.inj h
     exact ret0 (.bool true) (.refl _) (fun _ => rfl)

theorem c44 {l : (List api_Attr)} {name : Str} {r : (Str × Bool)} (h : ref22_Find l name = some r) : CallOK Tryd.prog 44 [.sl (some 3) (List.map enc_api_Attr l), .str name] (.tup [.str r.1, .bool r.2]) true := by
  apply ok44
  unfold ref22_Find at h
  refine x_rg (rgn [hE, hE] (⟨[(0, pL (some 3) enc_api_Attr l), (1, pS name)], [], 0⟩)) ?_
  refine x_seq ?_
  refine x_rg (rgn [hE] (⟨[(0, pL (some 3) enc_api_Attr l), (1, pS name), (6, pI 0)], [], 0⟩)) ?_
  refine x_block ?_
  refine kw0 (⟨[(0, pL (some 3) enc_api_Attr l), (1, pS name), (6, pI 0)], [], 0⟩) ?_
  refine x_loop (σ := Int) h (fun s => ⟨[(0, pL (some 3) enc_api_Attr l), (1, pS name), (6, pI s)], [], 0⟩) (by kernel_rfl) ?_ ?_
  ·rintro i
   kernel_rfl
  ·rintro i x9 h hx9
   replace h : ref22_Find_L9 l name i = some x9 := h
   unfold ref22_Find_L9 at h
   refine x_seq ?_
   refine x_rg (rg0 [hE, hE, hN (.len (List.length l : Int)), hE] (⟨[(0, pL (some 3) enc_api_Attr l), (1, pS name), (6, pI i), (10, pB (decide (i < (List.length l : Int))))], [], 0⟩) (.cons (lenM enc_api_Attr l) .nil)) ?_
   refine x_cond _ rfl (fun hc10 => ?_) (fun hc10 => ?_)
   ·replace h := ite_t h hc10
    refine kw0 (⟨[(0, pL (some 3) enc_api_Attr l), (1, pS name), (6, pI i)], [], 0⟩) ?_
    refine x_skip ?_
    refine x_tn ?_
    refine x_seq ?_
    refine x_block ?_
    obtain ⟨x11, hx11, h⟩ := bind_some h
    obtain ⟨t14, ht, h⟩ := bind_some h
    refine x_rg (st2 := ⟨[(0, pL (some 3) enc_api_Attr l), (1, pS name), (6, pI i), (27, pB t14)], [], 0⟩) ?_ ?_
    ·rcases Bool.eq_false_or_eq_true (decide (x11.Name = name)) with hg12 | hg12
     ·replace ht := ite_t ht hg12
      obtain ⟨x13, hx13, ht⟩ := bind_some ht
      have e := Option.some.inj ht
      subst e
      exact rg0 [hE, hE, hN (.pAt (enc_api_Attr x11)), hE, hE, hE, hE, hE, hY, hY, (.y, (.pAt (enc_api_Attr x13))), hY, hY, hY, hN (.pk true)] (⟨[(0, pL (some 3) enc_api_Attr l), (1, pS name), (6, pI i), (27, pB (!x13.Query))], [], 0⟩) (.cons (lsAt_map (f := enc_api_Attr) hx11) (.cons hg12 (.cons hg12 (.cons hg12 (.cons (lsAt_map (f := enc_api_Attr) hx13) (.cons hg12 (.cons hg12 (.cons hg12 (.cons hg12 .nil)))))))))
     ·replace ht := ite_f ht hg12
      have e := Option.some.inj ht
      subst e
      exact rg0 [hE, hE, hN (.pAt (enc_api_Attr x11)), hE, hE, hE, hE, hE, hS, hS, hS, hS, hS, hS, hN (.pk false)] (⟨[(0, pL (some 3) enc_api_Attr l), (1, pS name), (6, pI i), (27, pB false)], [], 0⟩) (.cons (lsAt_map (f := enc_api_Attr) hx11) (.cons hg12 (.cons hg12 (.cons hg12 (.cons hg12 (.cons hg12 (.cons hg12 (.cons hg12 .nil))))))))
    ·clear ht
     refine x_cond _ rfl (fun hc15 => ?_) (fun hc15 => ?_)
     ·replace h := ite_t h hc15
      obtain ⟨x16, hx16, h⟩ := bind_some h
      refine x_rg (rg0 [hE, hE, hN (.pAt (enc_api_Attr x16)), hE, hE, hE, hE] (⟨[(4, pS x16.Value), (5, pB true)], [], 0⟩) (.cons (lsAt_map (f := enc_api_Attr) hx16) .nil)) ?_
      refine x_toret ?_
      refine x_br ?_
      refine x_tr ?_
      refine x_tr ?_
      replace h := done_leaf h hx9
      refine x_br ?_
      refine x_tr ?_
      obtain rfl := Option.some.inj h
      exact ret0 (.tup [.str x16.Value, .bool true]) (.tup (.cons (.refl _) (.cons (.refl _) .nil))) (fun _ => rfl)
     ·replace h := ite_f h hc15
      refine kw0 (⟨[(0, pL (some 3) enc_api_Attr l), (1, pS name), (6, pI i)], [], 0⟩) ?_
      refine x_skip ?_
      refine x_bn ?_
      refine x_tn ?_
      refine x_rgt (rgn [hE, hE, hE] (⟨[(0, pL (some 3) enc_api_Attr l), (1, pS name), (6, pI (IntKind.wrap .i64 (i + 1)))], [], 0⟩)) ?_
      refine x_tn ?_
      exact ⟨_, (Option.some.inj h).symm, by kernel_rfl⟩
   ·replace h := ite_f h hc10
    refine kw0 (⟨[], [], 0⟩) ?_
    refine x_exit ?_
    refine x_te ?_
    refine x_te ?_
    replace h := done_leaf h hx9
    refine x_bh ?_
    refine x_tn ?_
    refine x_rg (rgn [hE, hE] (⟨[(4, pS []), (5, pB false)], [], 0⟩)) ?_
    refine x_toret ?_
    obtain rfl := Option.some.inj h
    exact ret0 (.tup [.str [], .bool false]) (.tup (.cons (.refl _) (.cons (.refl _) .nil))) (fun _ => rfl)

theorem c49 {l : (List Str)} {s_ : Str} {r : Bool} (h : ref27_has l s_ = some r) : CallOK Tryd.prog 49 [.sl none (List.map PV.str l), .str s_] (.bool r) true := by
  apply ok49
  unfold ref27_has at h
  refine x_rg (rgn [hE] (⟨[(0, pL none PV.str l), (1, pS s_)], [], 0⟩)) ?_
  refine x_seq ?_
  refine x_rg (rgn [hE] (⟨[(0, pL none PV.str l), (1, pS s_), (5, pI 0)], [], 0⟩)) ?_
  refine x_block ?_
  refine kw0 (⟨[(0, pL none PV.str l), (1, pS s_), (5, pI 0)], [], 0⟩) ?_
  refine x_loop (σ := Int) h (fun s => ⟨[(0, pL none PV.str l), (1, pS s_), (5, pI s)], [], 0⟩) (by kernel_rfl) ?_ ?_
  ·rintro i
   kernel_rfl
  ·rintro i x5 h hx5
   replace h : ref27_has_L5 l s_ i = some x5 := h
   unfold ref27_has_L5 at h
   refine x_seq ?_
   refine x_rg (rg0 [hE, hE, hN (.len (List.length l : Int)), hE] (⟨[(0, pL none PV.str l), (1, pS s_), (5, pI i), (9, pB (decide (i < (List.length l : Int))))], [], 0⟩) (.cons (lenM PV.str l) .nil)) ?_
   refine x_cond _ rfl (fun hc6 => ?_) (fun hc6 => ?_)
   ·replace h := ite_t h hc6
    refine kw0 (⟨[(0, pL none PV.str l), (1, pS s_), (5, pI i)], [], 0⟩) ?_
    refine x_skip ?_
    refine x_tn ?_
    refine x_seq ?_
    refine x_block ?_
    obtain ⟨x7, hx7, h⟩ := bind_some h
    refine x_rg (rg0 [hE, hE, hN (.pAt (.str x7)), hE, hE, hE] (⟨[(0, pL none PV.str l), (1, pS s_), (5, pI i), (17, pB (decide (x7 = s_)))], [], 0⟩) (.cons (lsAt_map (f := PV.str) hx7) .nil)) ?_
    refine x_cond _ rfl (fun hc8 => ?_) (fun hc8 => ?_)
    ·replace h := ite_t h hc8
     refine x_rg (rgn [hE] (⟨[(4, pB true)], [], 0⟩)) ?_
     refine x_toret ?_
     refine x_br ?_
     refine x_tr ?_
     refine x_tr ?_
     replace h := done_leaf h hx5
     refine x_br ?_
     refine x_tr ?_
     obtain rfl := Option.some.inj h
     exact ret0 (.bool true) (.refl _) (fun _ => rfl)
    ·replace h := ite_f h hc8
     refine kw0 (⟨[(0, pL none PV.str l), (1, pS s_), (5, pI i)], [], 0⟩) ?_
     refine x_skip ?_
     refine x_bn ?_
     refine x_tn ?_
     refine x_rgt (rgn [hE, hE, hE] (⟨[(0, pL none PV.str l), (1, pS s_), (5, pI (IntKind.wrap .i64 (i + 1)))], [], 0⟩)) ?_
     refine x_tn ?_
     exact ⟨_, (Option.some.inj h).symm, by kernel_rfl⟩
   ·replace h := ite_f h hc6
    refine kw0 (⟨[], [], 0⟩) ?_
    refine x_exit ?_
    refine x_te ?_
    refine x_te ?_
    replace h := done_leaf h hx5
    refine x_bh ?_
    refine x_tn ?_
    refine x_rg (rgn [hE] (⟨[(4, pB false)], [], 0⟩)) ?_
    refine x_toret ?_
    obtain rfl := Option.some.inj h
    exact ret0 (.bool false) (.refl _) (fun _ => rfl)

theorem c45 {l : (List api_Entry)} {name : Str} {r : (List Str)} (h : ref27_values l name = some r) : CallOK Tryd.prog 45 [.sl (some 1) (List.map enc_api_Entry l), .str name] (.usl none (List.map PV.str r)) true := by
  apply ok45
  unfold ref27_values at h
  refine x_rg (rgn [hE] (⟨[(0, pL (some 1) enc_api_Entry l), (1, pS name)], [], 0⟩)) ?_
  refine x_rg (st2 := { tm := [(0, .pv (.sl (some 1) (List.map enc_api_Entry l))), (1, .pv (.str name)), (5, .osl 0 0 (List.map PV.str ([] : List Str)).length)], hp := [(0, some (.p none (List.map PV.str ([] : List Str))))], nx := 1 }) (rg [hE] ({ tm := [(0, .pv (.sl (some 1) (List.map enc_api_Entry l))), (1, .pv (.str name)), (5, .pv (.nilsl))], hp := [], nx := 0 }) .nil ((Sub.keep (ks := [0, 1, 5]) (st := ownSt 5 none ({ tm := [(0, .pv (.sl (some 1) (List.map enc_api_Entry l))), (1, .pv (.str name)), (5, .pv (.nilsl))], hp := [], nx := 0 })) (st' := { tm := [(0, .pv (.sl (some 1) (List.map enc_api_Entry l))), (1, .pv (.str name)), (5, .osl 0 0 (List.map PV.str ([] : List Str)).length)], hp := [(0, some (.p none (List.map PV.str ([] : List Str))))], nx := 1 }) (by kernel_rfl)).trans (own_sound 5 none ({ tm := [(0, .pv (.sl (some 1) (List.map enc_api_Entry l))), (1, .pv (.str name)), (5, .pv (.nilsl))], hp := [], nx := 0 })))) ?_
  refine x_seq ?_
  refine x_rg (rgn [hE] (⟨[(0, pL (some 1) enc_api_Entry l), (1, pS name), (5, oL 0 PV.str ([] : List Str)), (6, pI 0)], [(0, rL none PV.str ([] : List Str))], 1⟩)) ?_
  refine x_block ?_
  refine kw0 (⟨[(0, pL (some 1) enc_api_Entry l), (1, pS name), (5, oL 0 PV.str ([] : List Str)), (6, pI 0)], [(0, rL none PV.str ([] : List Str))], 1⟩) ?_
  refine x_loop (σ := (Int × (List Str))) h (fun s => ⟨[(0, pL (some 1) enc_api_Entry l), (1, pS name), (5, oL 0 PV.str s.2), (6, pI s.1)], [(0, rL none PV.str s.2)], 1⟩) (by kernel_rfl) ?_ ?_
  ·rintro ⟨i, out⟩
   kernel_rfl
  ·rintro ⟨i, out⟩ x11 h hx11
   replace h : ref27_values_L11 l name i out = some x11 := h
   unfold ref27_values_L11 at h
   refine x_seq ?_
   refine x_rg (rg0 [hE, hE, hN (.len (List.length l : Int)), hE] (⟨[(0, pL (some 1) enc_api_Entry l), (1, pS name), (5, oL 0 PV.str out), (6, pI i), (12, pB (decide (i < (List.length l : Int))))], [(0, rL none PV.str out)], 1⟩) (.cons (lenM enc_api_Entry l) .nil)) ?_
   refine x_cond _ rfl (fun hc12 => ?_) (fun hc12 => ?_)
   ·replace h := ite_t h hc12
    refine kw0 (⟨[(0, pL (some 1) enc_api_Entry l), (1, pS name), (5, oL 0 PV.str out), (6, pI i)], [(0, rL none PV.str out)], 1⟩) ?_
    refine x_skip ?_
    refine x_tn ?_
    refine x_seq ?_
    refine x_block ?_
    obtain ⟨x13, hx13, h⟩ := bind_some h
    obtain ⟨x14, hx14, h⟩ := bind_some h
    refine x_rg (rg0 [hE, hE, hN (.pAt (enc_api_Entry x13)), hE, hE, hE, hN (.cal [] (.tup [.str x14.1, .bool x14.2]) true), hE, hE, hE, hE, hE] (⟨[(0, pL (some 1) enc_api_Entry l), (1, pS name), (5, oL 0 PV.str out), (6, pI i), (7, pS x14.1), (8, pB x14.2)], [(0, rL none PV.str out)], 1⟩) (.cons (lsAt_map (f := enc_api_Entry) hx13) (.cons (c44 hx14) .nil))) ?_
    obtain ⟨t17, ht, h⟩ := bind_some h
    refine x_rg (st2 := ⟨[(0, pL (some 1) enc_api_Entry l), (1, pS name), (5, oL 0 PV.str out), (6, pI i), (7, pS x14.1), (31, pB t17)], [(0, rL none PV.str out)], 1⟩) ?_ ?_
    ·rcases Bool.eq_false_or_eq_true x14.2 with hg15 | hg15
     ·replace ht := ite_t ht hg15
      obtain ⟨x16, hx16, ht⟩ := bind_some ht
      have e := Option.some.inj ht
      subst e
      exact rg0 (obs := [(x14.2 = true), (x14.2 = true), (x14.2 = true), (LesA [.sl none (List.take (List.map PV.str out).length (List.drop 0 (List.map PV.str out))), .str x14.1] [.sl none (List.map PV.str out), .str x14.1]), (CallOK Tryd.prog 49 [.sl none (List.map PV.str out), .str x14.1] (.bool x16) true), (0 + (List.map PV.str out).length ≤ List.length (List.map PV.str out)), (x14.2 = true), (x14.2 = true)]) [hE, hE, hY, hY, (.y, (.call [] [.sl none (List.map PV.str out), .str x14.1] (.bool x16) true)), hY, hN (.pk true)] (⟨[(0, pL (some 1) enc_api_Entry l), (1, pS name), (5, oL 0 PV.str out), (6, pI i), (7, pS x14.1), (31, pB (!x16))], [(0, rL none PV.str out)], 1⟩) (.cons hg15 (.cons hg15 (.cons hg15 (.cons (.cons (.of_eq (by rw [List.drop_zero, List.take_length])) (.cons (.refl _) .nil)) (.cons (c49 hx16) (.cons (by simp) (.cons hg15 (.cons hg15 .nil))))))))
     ·replace ht := ite_f ht hg15
      have e := Option.some.inj ht
      subst e
      exact rg0 [hE, hE, hS, hS, hS, hS, hN (.pk false)] (⟨[(0, pL (some 1) enc_api_Entry l), (1, pS name), (5, oL 0 PV.str out), (6, pI i), (7, pS x14.1), (31, pB false)], [(0, rL none PV.str out)], 1⟩) (.cons hg15 (.cons hg15 (.cons hg15 (.cons hg15 (.cons hg15 .nil)))))
    ·clear ht
     refine x_cond _ rfl (fun hc18 => ?_) (fun hc18 => ?_)
     ·replace h := ite_t h hc18
      obtain ⟨x19, hx19, h⟩ := bind_some h
      refine x_rgt (rg0 (obs := [(List.take (List.map PV.str out).length (List.map PV.str out) ++ List.take 1 (List.drop 0 ([.str x14.1] : List PV)) = (List.map PV.str x19)), (List.length (List.map PV.str x19) * 16 ≤ 140737488355328), (List.length (List.map PV.str x19) ≤ 9223372036854775807), ((List.map PV.str out).length ≤ List.length (List.map PV.str out)), (0 + 1 ≤ List.length ([.str x14.1] : List PV))]) [hE, hE, hE, hN (.app (List.map PV.str x19)), hE] (⟨[(0, pL (some 1) enc_api_Entry l), (1, pS name), (5, oL 0 PV.str x19), (6, pI i)], [(0, rL none PV.str x19)], 1⟩) (.cons (app_ob hx19 (.all _) (.rfl _)) (.cons (by rw [List.length_map]; exact (appL_ok hx19).2.1) (.cons (by rw [List.length_map]; exact (appL_ok hx19).2.2) (.cons (Nat.le_refl _) (.cons (by simp) .nil)))))) ?_
      refine x_bn ?_
      refine x_tn ?_
      refine x_rgt (rgn [hE, hE, hE] (⟨[(0, pL (some 1) enc_api_Entry l), (1, pS name), (5, oL 0 PV.str x19), (6, pI (IntKind.wrap .i64 (i + 1)))], [(0, rL none PV.str x19)], 1⟩)) ?_
      refine x_tn ?_
      exact ⟨_, (Option.some.inj h).symm, by kernel_rfl⟩
     ·replace h := ite_f h hc18
      refine kw0 (⟨[(0, pL (some 1) enc_api_Entry l), (1, pS name), (5, oL 0 PV.str out), (6, pI i)], [(0, rL none PV.str out)], 1⟩) ?_
      refine x_skip ?_
      refine x_bn ?_
      refine x_tn ?_
      refine x_rgt (rgn [hE, hE, hE] (⟨[(0, pL (some 1) enc_api_Entry l), (1, pS name), (5, oL 0 PV.str out), (6, pI (IntKind.wrap .i64 (i + 1)))], [(0, rL none PV.str out)], 1⟩)) ?_
      refine x_tn ?_
      exact ⟨_, (Option.some.inj h).symm, by kernel_rfl⟩
   ·replace h := ite_f h hc12
    refine kw0 (⟨[(5, oL 0 PV.str out)], [(0, rL none PV.str out)], 1⟩) ?_
    refine x_exit ?_
    refine x_te ?_
    refine x_te ?_
    replace h := done_leaf h hx11
    refine x_bh ?_
    refine x_tn ?_
    refine x_rg (rgn [hE, hE] (⟨[(4, oL 0 PV.str out)], [(0, rL none PV.str out)], 1⟩)) ?_
    refine x_toret ?_
    obtain rfl := Option.some.inj h
    exact x_ret (.usl none (List.take (List.map PV.str out).length (List.map PV.str out))) [0] [(List.map PV.str out).length ≤ List.length (List.map PV.str out)] (by kernel_rfl) (.cons (Nat.le_refl _) .nil) (by decide) (.of_eq (by rw [List.take_length])) (fun _ => (usl_ns (sh := none) (fun _ => rfl)))

theorem c21 {l : (List api_Entry)} {name : Str} {value : Str} {want : Str} {r : (List Str)} (h : ref27_Query l name value want = some r) : CallOK Tryd.prog 21 [.sl (some 1) (List.map enc_api_Entry l), .str name, .str value, .str want] (.usl none (List.map PV.str r)) true := by
  apply ok21
  unfold ref27_Query at h
  refine x_rg (rgn [hE] (⟨[(0, pL (some 1) enc_api_Entry l), (1, pS name), (2, pS value), (3, pS want)], [], 0⟩)) ?_
  refine x_rg (st2 := { tm := [(0, .pv (.sl (some 1) (List.map enc_api_Entry l))), (1, .pv (.str name)), (2, .pv (.str value)), (3, .pv (.str want)), (9, .osl 0 0 (List.map enc_api_Entry ([] : List api_Entry)).length)], hp := [(0, some (.p (some 1) (List.map enc_api_Entry ([] : List api_Entry))))], nx := 1 }) (rg [hE] ({ tm := [(0, .pv (.sl (some 1) (List.map enc_api_Entry l))), (1, .pv (.str name)), (2, .pv (.str value)), (3, .pv (.str want)), (9, .pv (.nilsl))], hp := [], nx := 0 }) .nil ((Sub.keep (ks := [0, 1, 2, 3, 9]) (st := ownSt 9 (some 1) ({ tm := [(0, .pv (.sl (some 1) (List.map enc_api_Entry l))), (1, .pv (.str name)), (2, .pv (.str value)), (3, .pv (.str want)), (9, .pv (.nilsl))], hp := [], nx := 0 })) (st' := { tm := [(0, .pv (.sl (some 1) (List.map enc_api_Entry l))), (1, .pv (.str name)), (2, .pv (.str value)), (3, .pv (.str want)), (9, .osl 0 0 (List.map enc_api_Entry ([] : List api_Entry)).length)], hp := [(0, some (.p (some 1) (List.map enc_api_Entry ([] : List api_Entry))))], nx := 1 }) (by kernel_rfl)).trans (own_sound 9 (some 1) ({ tm := [(0, .pv (.sl (some 1) (List.map enc_api_Entry l))), (1, .pv (.str name)), (2, .pv (.str value)), (3, .pv (.str want)), (9, .pv (.nilsl))], hp := [], nx := 0 })))) ?_
  refine x_seq ?_
  refine x_rg (rgn [hE] (⟨[(0, pL (some 1) enc_api_Entry l), (1, pS name), (2, pS value), (3, pS want), (9, oL 0 enc_api_Entry ([] : List api_Entry)), (10, pI 0)], [(0, rL (some 1) enc_api_Entry ([] : List api_Entry))], 1⟩)) ?_
  refine x_block ?_
  refine kw0 (⟨[(0, pL (some 1) enc_api_Entry l), (1, pS name), (2, pS value), (3, pS want), (9, oL 0 enc_api_Entry ([] : List api_Entry)), (10, pI 0)], [(0, rL (some 1) enc_api_Entry ([] : List api_Entry))], 1⟩) ?_
  refine x_loop (σ := (Int × (List api_Entry))) h (fun s => ⟨[(0, pL (some 1) enc_api_Entry l), (1, pS name), (2, pS value), (3, pS want), (9, oL 0 enc_api_Entry s.2), (10, pI s.1)], [(0, rL (some 1) enc_api_Entry s.2)], 1⟩) (by kernel_rfl) ?_ ?_
  ·rintro ⟨i, hit⟩
   kernel_rfl
  ·rintro ⟨i, hit⟩ x11 h hx11
   replace h : ref27_Query_L11 l name value want i hit = some x11 := h
   unfold ref27_Query_L11 at h
   refine x_seq ?_
   refine x_rg (rg0 [hE, hE, hN (.len (List.length l : Int)), hE] (⟨[(0, pL (some 1) enc_api_Entry l), (1, pS name), (2, pS value), (3, pS want), (9, oL 0 enc_api_Entry hit), (10, pI i), (16, pB (decide (i < (List.length l : Int))))], [(0, rL (some 1) enc_api_Entry hit)], 1⟩) (.cons (lenM enc_api_Entry l) .nil)) ?_
   refine x_cond _ rfl (fun hc12 => ?_) (fun hc12 => ?_)
   ·replace h := ite_t h hc12
    refine kw0 (⟨[(0, pL (some 1) enc_api_Entry l), (1, pS name), (2, pS value), (3, pS want), (9, oL 0 enc_api_Entry hit), (10, pI i)], [(0, rL (some 1) enc_api_Entry hit)], 1⟩) ?_
    refine x_skip ?_
    refine x_tn ?_
    refine x_seq ?_
    refine x_block ?_
    obtain ⟨x13, hx13, h⟩ := bind_some h
    obtain ⟨x14, hx14, h⟩ := bind_some h
    refine x_rg (rg0 [hE, hE, hN (.pAt (enc_api_Entry x13)), hE, hE, hE, hN (.cal [] (.tup [.str x14.1, .bool x14.2]) true), hE, hE, hE, hE, hE] (⟨[(0, pL (some 1) enc_api_Entry l), (1, pS name), (2, pS value), (3, pS want), (9, oL 0 enc_api_Entry hit), (10, pI i), (11, pS x14.1), (12, pB x14.2)], [(0, rL (some 1) enc_api_Entry hit)], 1⟩) (.cons (lsAt_map (f := enc_api_Entry) hx13) (.cons (c44 hx14) .nil))) ?_
    refine x_rg (st2 := ⟨[(0, pL (some 1) enc_api_Entry l), (1, pS name), (2, pS value), (3, pS want), (9, oL 0 enc_api_Entry hit), (10, pI i), (34, pB (x14.2 && (decide (x14.1 = value))))], [(0, rL (some 1) enc_api_Entry hit)], 1⟩) ?_ ?_
    ·rcases Bool.eq_false_or_eq_true x14.2 with hg15 | hg15
     ·exact rg [hE, hE, hY, hY, hY, hN (.pk true)] (⟨[(0, pL (some 1) enc_api_Entry l), (1, pS name), (2, pS value), (3, pS want), (9, oL 0 enc_api_Entry hit), (10, pI i), (34, pB (decide (x14.1 = value)))], [(0, rL (some 1) enc_api_Entry hit)], 1⟩) (.cons hg15 (.cons hg15 (.cons hg15 (.cons hg15 .nil)))) (.of_eq (by simp only [hg15, bs, reduceIte]))
     ·exact rg [hE, hE, hS, hS, hS, hN (.pk false)] (⟨[(0, pL (some 1) enc_api_Entry l), (1, pS name), (2, pS value), (3, pS want), (9, oL 0 enc_api_Entry hit), (10, pI i), (34, pB false)], [(0, rL (some 1) enc_api_Entry hit)], 1⟩) (.cons hg15 (.cons hg15 (.cons hg15 (.cons hg15 .nil)))) (.of_eq (by simp only [hg15, bs, reduceIte]))
    ·refine x_cond _ rfl (fun hc17 => ?_) (fun hc17 => ?_)
     ·replace h := ite_t h hc17
      obtain ⟨x18, hx18, h⟩ := bind_some h
      obtain ⟨x19, hx19, h⟩ := bind_some h
      refine x_rgt (rg0 (obs := [(lsAt (List.map enc_api_Entry l) i = some (enc_api_Entry x18)), (List.take (List.map enc_api_Entry hit).length (List.map enc_api_Entry hit) ++ List.take 1 (List.drop 0 ([enc_api_Entry x18] : List PV)) = (List.map enc_api_Entry x19)), (List.length (List.map enc_api_Entry x19) * 24 ≤ 140737488355328), (List.length (List.map enc_api_Entry x19) ≤ 9223372036854775807), ((List.map enc_api_Entry hit).length ≤ List.length (List.map enc_api_Entry hit)), (0 + 1 ≤ List.length ([enc_api_Entry x18] : List PV))]) [hE, hE, hE, hN (.pAt (enc_api_Entry x18)), hE, hE, hN (.app (List.map enc_api_Entry x19)), hE] (⟨[(0, pL (some 1) enc_api_Entry l), (1, pS name), (2, pS value), (3, pS want), (9, oL 0 enc_api_Entry x19), (10, pI i)], [(0, rL (some 1) enc_api_Entry x19)], 1⟩) (.cons (lsAt_map hx18) (.cons (app_ob hx19 (.all _) (.rfl _)) (.cons (by rw [List.length_map]; exact (appL_ok hx19).2.1) (.cons (by rw [List.length_map]; exact (appL_ok hx19).2.2) (.cons (Nat.le_refl _) (.cons (by simp) .nil))))))) ?_
      refine x_bn ?_
      refine x_tn ?_
      refine x_rgt (rgn [hE, hE, hE] (⟨[(0, pL (some 1) enc_api_Entry l), (1, pS name), (2, pS value), (3, pS want), (9, oL 0 enc_api_Entry x19), (10, pI (IntKind.wrap .i64 (i + 1)))], [(0, rL (some 1) enc_api_Entry x19)], 1⟩)) ?_
      refine x_tn ?_
      exact ⟨_, (Option.some.inj h).symm, by kernel_rfl⟩
     ·replace h := ite_f h hc17
      refine kw0 (⟨[(0, pL (some 1) enc_api_Entry l), (1, pS name), (2, pS value), (3, pS want), (9, oL 0 enc_api_Entry hit), (10, pI i)], [(0, rL (some 1) enc_api_Entry hit)], 1⟩) ?_
      refine x_skip ?_
      refine x_bn ?_
      refine x_tn ?_
      refine x_rgt (rgn [hE, hE, hE] (⟨[(0, pL (some 1) enc_api_Entry l), (1, pS name), (2, pS value), (3, pS want), (9, oL 0 enc_api_Entry hit), (10, pI (IntKind.wrap .i64 (i + 1)))], [(0, rL (some 1) enc_api_Entry hit)], 1⟩)) ?_
      refine x_tn ?_
      exact ⟨_, (Option.some.inj h).symm, by kernel_rfl⟩
   ·replace h := ite_f h hc12
    refine kw0 (⟨[(3, pS want), (9, oL 0 enc_api_Entry hit)], [(0, rL (some 1) enc_api_Entry hit)], 1⟩) ?_
    refine x_exit ?_
    refine x_te ?_
    refine x_te ?_
    replace h := done_map h hx11
    unfold ref27_Query_A21 at h
    refine x_bh ?_
    refine x_tn ?_
    obtain ⟨x20, hx20, h⟩ := bind_some h
    refine x_rg (rg0 (obs := [(LesA [.sl (some 1) (List.take (List.map enc_api_Entry hit).length (List.drop 0 (List.map enc_api_Entry hit))), .str want] [.sl (some 1) (List.map enc_api_Entry hit), .str want]), (CallOK Tryd.prog 45 [.sl (some 1) (List.map enc_api_Entry hit), .str want] (.usl none (List.map PV.str x20)) true), (0 + (List.map enc_api_Entry hit).length ≤ List.length (List.map enc_api_Entry hit))]) [hE, hE, hN (.call [] [.sl (some 1) (List.map enc_api_Entry hit), .str want] (.usl none (List.map PV.str x20)) true), hE] (⟨[(8, oL 0 PV.str x20)], [(0, rL none PV.str x20)], 1⟩) (.cons (.cons (.of_eq (by rw [List.drop_zero, List.take_length])) (.cons (.refl _) .nil)) (.cons (c45 hx20) (.cons (by simp) .nil)))) ?_
    refine x_toret ?_
    obtain rfl := Option.some.inj h
    exact x_ret (.usl none (List.take (List.map PV.str x20).length (List.map PV.str x20))) [0] [(List.map PV.str x20).length ≤ List.length (List.map PV.str x20)] (by kernel_rfl) (.cons (Nat.le_refl _) .nil) (by decide) (.of_eq (by rw [List.take_length])) (fun _ => (usl_ns (sh := none) (fun _ => rfl)))

theorem c5 {l : (List api_Entry)} {q : (Str × Str)} {want : Str} {r : Bool} (h : law27_DialQueries l q want = some r) : CallOK Tryd.prog 5 [.sl (some 1) (List.map enc_api_Entry l), encT_Str_Str q, .str want] (.bool r) true := by
  apply ok5
  unfold law27_DialQueries at h
  refine x_rg (rgn [hE, hE] (⟨[(0, pL (some 1) enc_api_Entry l), (2, pS want), (4, .optr 0 0 0)], [(0, some (.p (some 2) [encT_Str_Str q]))], 1⟩)) ?_
  refine x_seq ?_
  obtain ⟨x1, hx1, h⟩ := bind_some h
  refine x_rg (st2 := ⟨[(0, pL (some 1) enc_api_Entry l), (2, pS want), (4, .optr 0 0 0), (29, pB ((!x1) || ((decide (1000 < (List.length q.1 : Int))) || ((decide (1000 < (List.length q.2 : Int))) || (decide (1000 < (List.length want : Int)))))))], [(0, some (.p (some 2) [encT_Str_Str q]))], 1⟩) ?_ ?_
  ·rcases Bool.eq_false_or_eq_true (!x1) with hg2 | hg2
   ·exact rg [hE, hN (.cal [] (.bool x1) true), hE, hE, hS, hS, hS, hS, hN (.pk true), hE, hS, hS, hS, hS, hE, hE, hS, hS, hS, hE] (⟨[(0, pL (some 1) enc_api_Entry l), (2, pS want), (4, .optr 0 0 0), (29, pB true)], [(0, some (.p (some 2) [encT_Str_Str q]))], 1⟩) (.cons (c19 hx1) (.cons hg2 (.cons hg2 (.cons hg2 (.cons hg2 (.cons hg2 (.cons tt (.cons tt (.cons tt (.cons tt (.cons tt (.cons tt (.cons tt .nil))))))))))))) (.of_eq (by simp only [hg2, bs, reduceIte]))
   ·rcases Bool.eq_false_or_eq_true (decide (1000 < (List.length q.1 : Int))) with hg3 | hg3
    ·exact rg [hE, hN (.cal [] (.bool x1) true), hE, hE, hY, hY, hY, hY, hN (.pk false), hE, hS, hS, hS, hS, hN (.pk true), hE, hS, hS, hS, hE] (⟨[(0, pL (some 1) enc_api_Entry l), (2, pS want), (4, .optr 0 0 0), (29, pB true)], [(0, some (.p (some 2) [encT_Str_Str q]))], 1⟩) (.cons (c19 hx1) (.cons hg2 (.cons hg2 (.cons hg2 (.cons hg2 (.cons hg2 (.cons hg3 (.cons hg3 (.cons hg3 (.cons hg3 (.cons hg3 (.cons tt (.cons tt (.cons tt .nil)))))))))))))) (.of_eq (by simp only [hg2, hg3, bs, reduceIte]))
    ·rcases Bool.eq_false_or_eq_true (decide (1000 < (List.length q.2 : Int))) with hg4 | hg4
     ·exact rg [hE, hN (.cal [] (.bool x1) true), hE, hE, hY, hY, hY, hY, hN (.pk false), hE, hY, hY, hY, hY, hN (.pk false), hE, hS, hS, hS, hN (.pk true)] (⟨[(0, pL (some 1) enc_api_Entry l), (2, pS want), (4, .optr 0 0 0), (29, pB true)], [(0, some (.p (some 2) [encT_Str_Str q]))], 1⟩) (.cons (c19 hx1) (.cons hg2 (.cons hg2 (.cons hg2 (.cons hg2 (.cons hg2 (.cons hg3 (.cons hg3 (.cons hg3 (.cons hg3 (.cons hg3 (.cons hg4 (.cons hg4 (.cons hg4 (.cons hg4 .nil))))))))))))))) (.of_eq (by simp only [hg2, hg3, hg4, bs, reduceIte]))
     ·exact rg [hE, hN (.cal [] (.bool x1) true), hE, hE, hY, hY, hY, hY, hN (.pk false), hE, hY, hY, hY, hY, hN (.pk false), hE, hY, hY, hY, hN (.pk false)] (⟨[(0, pL (some 1) enc_api_Entry l), (2, pS want), (4, .optr 0 0 0), (29, pB (decide (1000 < (List.length want : Int))))], [(0, some (.p (some 2) [encT_Str_Str q]))], 1⟩) (.cons (c19 hx1) (.cons hg2 (.cons hg2 (.cons hg2 (.cons hg2 (.cons hg2 (.cons hg3 (.cons hg3 (.cons hg3 (.cons hg3 (.cons hg3 (.cons hg4 (.cons hg4 (.cons hg4 (.cons hg4 .nil))))))))))))))) (.of_eq (by simp only [hg2, hg3, hg4, bs, reduceIte]))
  ·refine x_cond _ rfl (fun hc6 => ?_) (fun hc6 => ?_)
   ·replace h := ite_t h hc6
    obtain ⟨x7, hx7, h⟩ := bind_some h
    refine x_rg (rg0 [hN (.cal [] (.bool x7) true), hE] (⟨[(6, pB x7)], [], 0⟩) (.cons (c11 hx7) .nil)) ?_
    refine x_toret ?_
    refine x_tr ?_
    obtain rfl := Option.some.inj h
    exact ret0 (.bool x7) (.refl _) (fun _ => rfl)
   ·replace h := ite_f h hc6
    refine kw0 (⟨[(0, pL (some 1) enc_api_Entry l), (2, pS want), (4, .optr 0 0 0)], [(0, some (.p (some 2) [encT_Str_Str q]))], 1⟩) ?_
    refine x_skip ?_
    refine x_tn ?_
    obtain ⟨x8, hx8, h⟩ := bind_some h
    obtain ⟨x9, hx9, h⟩ := bind_some h
    refine x_rg (rg0 [hE, hE, hE, hE, hE, hE, hN (.cal [] (.usl none (List.map PV.str x8)) true), hE, hE, hE, hE, hE, hE, hN (.cal [] (.usl none (List.map PV.str x9)) true), hE, hE] (⟨[(7, oL 0 PV.str x8), (8, oL 1 PV.str x9)], [(0, rL none PV.str x8), (1, rL none PV.str x9)], 2⟩) (.cons (c20 hx8) (.cons (c21 hx9) .nil))) ?_
    refine x_seq ?_
    refine x_rg (rg0 (obs := [((((List.map PV.str x8).length : Nat) : Int) = (List.length x8 : Int)), ((((List.map PV.str x9).length : Nat) : Int) = (List.length x9 : Int))]) [hE, hN (.len (List.length x8 : Int)), hE, hN (.len (List.length x9 : Int)), hE] (⟨[(7, oL 0 PV.str x8), (8, oL 1 PV.str x9), (49, pB (!decide ((List.length x8 : Int) = (List.length x9 : Int))))], [(0, rL none PV.str x8), (1, rL none PV.str x9)], 2⟩) (.cons (by rw [List.length_map]) (.cons (by rw [List.length_map]) .nil))) ?_
    refine x_cond _ rfl (fun hc10 => ?_) (fun hc10 => ?_)
    ·replace h := ite_t h hc10
     refine x_rg (rgn [hE] (⟨[(6, pB false)], [], 0⟩)) ?_
     refine x_toret ?_
     refine x_tr ?_
     obtain rfl := Option.some.inj h
     exact ret0 (.bool false) (.refl _) (fun _ => rfl)
    ·replace h := ite_f h hc10
     refine kw0 (⟨[(7, oL 0 PV.str x8), (8, oL 1 PV.str x9)], [(0, rL none PV.str x8), (1, rL none PV.str x9)], 2⟩) ?_
     refine x_skip ?_
     refine x_tn ?_
     refine x_seq ?_
     refine x_rg (rg0 (obs := [((((List.map PV.str x8).length : Nat) : Int) = (List.length x8 : Int))]) [hE, hN (.len (List.length x8 : Int)), hE] (⟨[(7, oL 0 PV.str x8), (8, oL 1 PV.str x9), (51, pI (List.length x8 : Int)), (52, pI 0)], [(0, rL none PV.str x8), (1, rL none PV.str x9)], 2⟩) (.cons (by rw [List.length_map]) .nil)) ?_
     refine x_block ?_
     refine kw0 (⟨[(7, oL 0 PV.str x8), (8, oL 1 PV.str x9), (51, pI (List.length x8 : Int)), (52, pI 0)], [(0, rL none PV.str x8), (1, rL none PV.str x9)], 2⟩) ?_
     refine x_loop (σ := Int) h (fun s => ⟨[(7, oL 0 PV.str x8), (8, oL 1 PV.str x9), (51, pI (List.length x8 : Int)), (52, pI s)], [(0, rL none PV.str x8), (1, rL none PV.str x9)], 2⟩) (by kernel_rfl) ?_ ?_
     ·rintro v15
      kernel_rfl
     ·rintro v15 x16 h hx16
      replace h : law27_DialQueries_L16 x8 x9 v15 = some x16 := h
      unfold law27_DialQueries_L16 at h
      refine x_rg (rgn [hE] (⟨[(7, oL 0 PV.str x8), (8, oL 1 PV.str x9), (51, pI (List.length x8 : Int)), (52, pI v15), (53, pB (decide (v15 < (List.length x8 : Int))))], [(0, rL none PV.str x8), (1, rL none PV.str x9)], 2⟩)) ?_
      refine x_seq ?_
      refine x_cond _ rfl (fun hc17 => ?_) (fun hc17 => ?_)
      ·replace h := ite_t h hc17
       refine kw0 (⟨[(7, oL 0 PV.str x8), (8, oL 1 PV.str x9), (51, pI (List.length x8 : Int)), (52, pI v15)], [(0, rL none PV.str x8), (1, rL none PV.str x9)], 2⟩) ?_
       refine x_skip ?_
       refine x_tn ?_
       refine x_seq ?_
       refine x_block ?_
       refine x_rg (rgn [hE, hE] (⟨[(7, oL 0 PV.str x8), (8, oL 1 PV.str x9), (9, pI v15), (51, pI (List.length x8 : Int)), (52, pI v15)], [(0, rL none PV.str x8), (1, rL none PV.str x9)], 2⟩)) ?_
       obtain ⟨x18, hx18, h⟩ := bind_some h
       obtain ⟨x19, hx19, h⟩ := bind_some h
       refine x_rg (rg0 (obs := [(0 ≤ (v15 : Int) ∧ Int.toNat v15 < (List.map PV.str x8).length), ((List.map PV.str x8)[(0 + Int.toNat v15)]? = some (.str x18)), (0 ≤ (v15 : Int) ∧ Int.toNat v15 < (List.map PV.str x9).length), ((List.map PV.str x9)[(0 + Int.toNat v15)]? = some (.str x19))]) [hE, hE, hN .rAt, hN (.ld (.str x18)), hE, hE, hN .rAt, hN (.ld (.str x19)), hE] (⟨[(7, oL 0 PV.str x8), (8, oL 1 PV.str x9), (51, pI (List.length x8 : Int)), (52, pI v15), (63, pB (!decide (x18 = x19)))], [(0, rL none PV.str x8), (1, rL none PV.str x9)], 2⟩) (.cons (rAt_ob hx18 (by simp)) (.cons (ownAt hx18) (.cons (rAt_ob hx19 (by simp)) (.cons (ownAt hx19) .nil))))) ?_
       refine x_cond _ rfl (fun hc20 => ?_) (fun hc20 => ?_)
       ·replace h := ite_t h hc20
        refine x_rg (rgn [hE] (⟨[(6, pB false)], [], 0⟩)) ?_
        refine x_toret ?_
        refine x_br ?_
        refine x_tr ?_
        refine x_tr ?_
        replace h := done_leaf h hx16
        refine x_br ?_
        refine x_tr ?_
        obtain rfl := Option.some.inj h
        exact ret0 (.bool false) (.refl _) (fun _ => rfl)
       ·replace h := ite_f h hc20
        refine kw0 (⟨[(7, oL 0 PV.str x8), (8, oL 1 PV.str x9), (51, pI (List.length x8 : Int)), (52, pI v15)], [(0, rL none PV.str x8), (1, rL none PV.str x9)], 2⟩) ?_
        refine x_skip ?_
        refine x_bn ?_
        refine x_tn ?_
        refine x_rgt (rgn [hE, hE] (⟨[(7, oL 0 PV.str x8), (8, oL 1 PV.str x9), (51, pI (List.length x8 : Int)), (52, pI (IntKind.wrap .i64 (v15 + 1)))], [(0, rL none PV.str x8), (1, rL none PV.str x9)], 2⟩)) ?_
        refine x_tn ?_
        exact ⟨_, (Option.some.inj h).symm, by kernel_rfl⟩
      ·replace h := ite_f h hc17
       refine kw0 (⟨[], [], 0⟩) ?_
       refine x_exit ?_
       refine x_te ?_
       refine x_te ?_
       replace h := done_map h hx16
       unfold law27_DialQueries_A22 at h
       refine x_bh ?_
       refine x_tn ?_
       obtain ⟨x21, hx21, h⟩ := bind_some h
       refine x_rg (rg0 [hN (.cal [] (.bool x21) true), hE] (⟨[(6, pB x21)], [], 0⟩) (.cons (c11 hx21) .nil)) ?_
       refine x_toret ?_
       obtain rfl := Option.some.inj h
       exact ret0 (.bool x21) (.refl _) (fun _ => rfl)

end Go.Proofs.YtphblddgbbgdnaaDoor
