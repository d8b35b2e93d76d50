/- The functions of the program compute what their plain forms compute; printed by a program of the claim's author. -/
import Derived.Test.YtphblddgbbgdnaaDoorC
import Derived.Test.YtphblddgbbgdnaaDoorS
import Derived.Test.YtphblddgbbgdnaaDoorShelf
import Derived.Test.YtphblddgbbgdnaaDoorVmB
import Derived.Test.YtphblddgbbgdnaaDoorB
namespace Go.Proofs.YtphblddgbbgdnaaDoor
open Go.Vm
set_option autoImplicit false
set_option linter.unusedVariables false
set_option linter.unusedSimpArgs false
set_option maxRecDepth 100000

theorem c12 {s_ : Str} {r : (api_Addr × Int)} (h : dial_Parse s_ = some r) : CallOK Tryd.prog 12 [.str s_] (.tup [enc_api_Addr r.1, .int .i64 r.2]) true := by
  apply ok12
  unfold dial_Parse at h
  refine x_rg (rgn [hE, hE] (⟨[(0, pS s_), (2, .optr 0 0 0)], [(0, some (.p (some 3) [.agg [.str [], .str [], .str []]]))], 1⟩)) ?_
  obtain ⟨x1, hx1, h⟩ := bind_some h
  refine x_rg (rg0 [hE, hN (.cal [] (.usl none (List.map PV.str x1)) true), hE] (⟨[(2, .optr 0 0 0), (4, oL 1 PV.str x1)], [(0, some (.p (some 3) [.agg [.str [], .str [], .str []]])), (1, rL none PV.str x1)], 2⟩) (.cons (c31 hx1) .nil)) ?_
  refine x_seq ?_
  refine x_rg (st2 := ⟨[(2, .optr 0 0 0), (4, oL 1 PV.str x1), (15, pB ((decide ((List.length x1 : Int) < 2)) || (decide (3 < (List.length x1 : Int)))))], [(0, some (.p (some 3) [.agg [.str [], .str [], .str []]])), (1, rL none PV.str x1)], 2⟩) ?_ ?_
  ·rcases Bool.eq_false_or_eq_true (decide ((List.length x1 : Int) < 2)) with hg2 | hg2
   ·exact rg (obs := [((((List.map PV.str x1).length : Nat) : Int) = (List.length x1 : Int)), ((decide ((List.length x1 : Int) < 2)) = true), ((decide ((List.length x1 : Int) < 2)) = true), ((decide ((List.length x1 : Int) < 2)) = true), ((decide ((List.length x1 : Int) < 2)) = true)]) [hE, hN (.len (List.length x1 : Int)), hE, hE, hS, hS, hS, hN (.pk true)] (⟨[(2, .optr 0 0 0), (4, oL 1 PV.str x1), (15, pB true)], [(0, some (.p (some 3) [.agg [.str [], .str [], .str []]])), (1, rL none PV.str x1)], 2⟩) (.cons (by rw [List.length_map]) (.cons hg2 (.cons hg2 (.cons hg2 (.cons hg2 .nil))))) (.of_eq (by simp only [hg2, bs, reduceIte]))
   ·exact rg (obs := [((((List.map PV.str x1).length : Nat) : Int) = (List.length x1 : Int)), ((decide ((List.length x1 : Int) < 2)) = false), ((decide ((List.length x1 : Int) < 2)) = false), ((((List.map PV.str x1).length : Nat) : Int) = (List.length x1 : Int)), ((decide ((List.length x1 : Int) < 2)) = false), ((decide ((List.length x1 : Int) < 2)) = false)]) [hE, hN (.len (List.length x1 : Int)), hE, hE, hY, (.y, (.len (List.length x1 : Int))), hY, hN (.pk false)] (⟨[(2, .optr 0 0 0), (4, oL 1 PV.str x1), (15, pB (decide (3 < (List.length x1 : Int))))], [(0, some (.p (some 3) [.agg [.str [], .str [], .str []]])), (1, rL none PV.str x1)], 2⟩) (.cons (by rw [List.length_map]) (.cons hg2 (.cons hg2 (.cons (by rw [List.length_map]) (.cons hg2 (.cons hg2 .nil)))))) (.of_eq (by simp only [hg2, bs, reduceIte]))
  ·refine x_cond _ rfl (fun hc4 => ?_) (fun hc4 => ?_)
   ·replace h := ite_t h hc4
    refine x_rg (rgn [hE, hE, hE] (⟨[(2, .optr 0 0 0), (3, pI 36)], [(0, some (.p (some 3) [.agg [.str [], .str [], .str []]]))], 1⟩)) ?_
    refine x_toret ?_
    refine x_tr ?_
    obtain rfl := Option.some.inj h
    exact ret0 (.tup [.agg [.str [], .str [], .str []], .int .i64 36]) (.tup (.cons (.refl _) (.cons (.refl _) .nil))) (fun _ => rfl)
   ·replace h := ite_f h hc4
    refine kw0 (⟨[(2, .optr 0 0 0), (4, oL 1 PV.str x1)], [(0, some (.p (some 3) [.agg [.str [], .str [], .str []]])), (1, rL none PV.str x1)], 2⟩) ?_
    refine x_skip ?_
    refine x_tn ?_
    obtain ⟨x5, hx5, h⟩ := bind_some h
    obtain ⟨x6, hx6, h⟩ := bind_some h
    refine x_rg (rg0 (obs := [(0 ≤ (0 : Int) ∧ Int.toNat 0 < (List.map PV.str x1).length), ((List.map PV.str x1)[(0 + Int.toNat 0)]? = some (.str x5)), (0 ≤ (1 : Int) ∧ Int.toNat 1 < (List.map PV.str x1).length), ((List.map PV.str x1)[(0 + Int.toNat 1)]? = some (.str x6))]) [hE, hN .rAt, hN (.ld (.str x5)), hE, hN .rAt, hN (.ld (.str x6)), hE, hE, hE] (⟨[(2, .optr 0 0 0), (4, oL 1 PV.str x1), (5, .optr 2 0 0)], [(0, some (.p (some 3) [.agg [.str [], .str [], .str []]])), (1, rL none PV.str x1), (2, some (.p (some 3) [.agg [.str x5, .str x6, .str []]]))], 3⟩) (.cons (rAt_ob hx5 (by simp)) (.cons (ownAt hx5) (.cons (rAt_ob hx6 (by simp)) (.cons (ownAt hx6) .nil))))) ?_
    refine x_join (τ := Str) (fun t => dial_Parse_K7 x1 x5 x6 t = some r) (fun t => { tm := [(2, .optr 0 0 0), (4, .osl 1 0 (List.map PV.str x1).length), (5, .optr 2 0 0)], hp := [(0, some (.p (some 3) [.agg [.str [], .str [], .str []]])), (1, some (.p none (List.map PV.str x1))), (2, some (.p (some 3) [.agg [.str x5, .str x6, .str t]]))], nx := 3 }) ?_ ?_
    ·rintro p8 h
     replace h : dial_Parse_K7 x1 x5 x6 p8 = some r := h
     unfold dial_Parse_K7 at h
     refine x_seq ?_
     obtain ⟨x9, hx9, h⟩ := bind_some h
     refine x_rg (st2 := ⟨[(2, .optr 0 0 0), (5, .optr 1 0 0), (43, pB ((!x9) || ((decide ((List.length x1 : Int) = 3)) && (decide (p8 = [])))))], [(0, some (.p (some 3) [.agg [.str [], .str [], .str []]])), (1, some (.p (some 3) [.agg [.str x5, .str x6, .str p8]]))], 2⟩) ?_ ?_
     ·rcases Bool.eq_false_or_eq_true (!x9) with hg10 | hg10
      ·exact rg [hE, hN (.cal [] (.bool x9) true), hE, hE, hS, hS, hS, hS, (.u, .e), (.u, .e), (.u, .e), hS, hN (.pk true)] (⟨[(2, .optr 0 0 0), (5, .optr 1 0 0), (43, pB true)], [(0, some (.p (some 3) [.agg [.str [], .str [], .str []]])), (1, some (.p (some 3) [.agg [.str x5, .str x6, .str p8]]))], 2⟩) (.cons (c32 hx9) (.cons hg10 (.cons hg10 (.cons hg10 (.cons hg10 (.cons hg10 (.cons hg10 .nil))))))) (.of_eq (by simp only [hg10, bs, reduceIte]))
      ·rcases Bool.eq_false_or_eq_true (decide ((List.length x1 : Int) = 3)) with hg11 | hg11
       ·exact rg (obs := [(CallOK Tryd.prog 32 [.agg [.str x5, .str x6, .str p8]] (.bool x9) true), ((!x9) = false), ((!x9) = false), ((((List.map PV.str x1).length : Nat) : Int) = (List.length x1 : Int)), ((!x9) = false), ((!x9) = false), ((decide ((List.length x1 : Int) = 3)) = true), ((decide ((List.length x1 : Int) = 3)) = true), ((decide ((List.length x1 : Int) = 3)) = true), ((!x9) = false), ((decide ((List.length x1 : Int) = 3)) = true), ((!x9) = false)]) [hE, hN (.cal [] (.bool x9) true), hE, hE, hY, (.y, (.len (List.length x1 : Int))), hY, hY, hY, hY, hY, (.y, (.pk true)), hN (.pk false)] (⟨[(2, .optr 0 0 0), (5, .optr 1 0 0), (43, pB (decide (p8 = [])))], [(0, some (.p (some 3) [.agg [.str [], .str [], .str []]])), (1, some (.p (some 3) [.agg [.str x5, .str x6, .str p8]]))], 2⟩) (.cons (c32 hx9) (.cons hg10 (.cons hg10 (.cons (by rw [List.length_map]) (.cons hg10 (.cons hg10 (.cons hg11 (.cons hg11 (.cons hg11 (.cons hg10 (.cons hg11 (.cons hg10 .nil)))))))))))) (.of_eq (by simp only [hg10, hg11, bs, reduceIte]))
       ·exact rg (obs := [(CallOK Tryd.prog 32 [.agg [.str x5, .str x6, .str p8]] (.bool x9) true), ((!x9) = false), ((!x9) = false), ((((List.map PV.str x1).length : Nat) : Int) = (List.length x1 : Int)), ((!x9) = false), ((!x9) = false), ((decide ((List.length x1 : Int) = 3)) = false), ((decide ((List.length x1 : Int) = 3)) = false), ((decide ((List.length x1 : Int) = 3)) = false), ((!x9) = false), ((decide ((List.length x1 : Int) = 3)) = false), ((!x9) = false)]) [hE, hN (.cal [] (.bool x9) true), hE, hE, hY, (.y, (.len (List.length x1 : Int))), hY, hY, hS, hS, hS, (.y, (.pk false)), hN (.pk false)] (⟨[(2, .optr 0 0 0), (5, .optr 1 0 0), (43, pB false)], [(0, some (.p (some 3) [.agg [.str [], .str [], .str []]])), (1, some (.p (some 3) [.agg [.str x5, .str x6, .str p8]]))], 2⟩) (.cons (c32 hx9) (.cons hg10 (.cons hg10 (.cons (by rw [List.length_map]) (.cons hg10 (.cons hg10 (.cons hg11 (.cons hg11 (.cons hg11 (.cons hg10 (.cons hg11 (.cons hg10 .nil)))))))))))) (.of_eq (by simp only [hg10, hg11, bs, reduceIte]))
     ·refine x_cond _ rfl (fun hc13 => ?_) (fun hc13 => ?_)
      ·replace h := ite_t h hc13
       refine x_rg (rgn [hE, hE, hE] (⟨[(2, .optr 0 0 0), (3, pI 36)], [(0, some (.p (some 3) [.agg [.str [], .str [], .str []]]))], 1⟩)) ?_
       refine x_toret ?_
       refine x_tr ?_
       obtain rfl := Option.some.inj h
       exact ret0 (.tup [.agg [.str [], .str [], .str []], .int .i64 36]) (.tup (.cons (.refl _) (.cons (.refl _) .nil))) (fun _ => rfl)
      ·replace h := ite_f h hc13
       refine kw0 (⟨[(2, .optr 0 0 0), (5, .optr 1 0 0)], [(0, some (.p (some 3) [.agg [.str [], .str [], .str []]])), (1, some (.p (some 3) [.agg [.str x5, .str x6, .str p8]]))], 2⟩) ?_
       refine x_skip ?_
       refine x_tn ?_
       refine x_rg (rgn [hE, hE, hE] (⟨[(2, .optr 0 0 0), (3, pI 0)], [(0, some (.p (some 3) [.agg [.str x5, .str x6, .str p8]]))], 1⟩)) ?_
       refine x_toret ?_
       obtain rfl := Option.some.inj h
       exact ret0 (.tup [.agg [.str x5, .str x6, .str p8], .int .i64 0]) (.tup (.cons (.refl _) (.cons (.refl _) .nil))) (fun _ => rfl)
    ·refine x_rg (rg0 (obs := [((((List.map PV.str x1).length : Nat) : Int) = (List.length x1 : Int))]) [hE, hN (.len (List.length x1 : Int)), hE] (⟨[(2, .optr 0 0 0), (4, oL 1 PV.str x1), (5, .optr 2 0 0), (26, pB (decide ((List.length x1 : Int) = 3)))], [(0, some (.p (some 3) [.agg [.str [], .str [], .str []]])), (1, rL none PV.str x1), (2, some (.p (some 3) [.agg [.str x5, .str x6, .str []]]))], 3⟩) (.cons (by rw [List.length_map]) .nil)) ?_
     refine x_cond _ rfl (fun hc14 => ?_) (fun hc14 => ?_)
     ·replace h := ite_t h hc14
      obtain ⟨x15, hx15, h⟩ := bind_some h
      refine x_rgt (rg0 (obs := [(0 ≤ (2 : Int) ∧ Int.toNat 2 < (List.map PV.str x1).length), ((List.map PV.str x1)[(0 + Int.toNat 2)]? = some (.str x15))]) [hE, hN .rAt, hN (.ld (.str x15)), hE, hE] (⟨[(2, .optr 0 0 0), (4, oL 1 PV.str x1), (5, .optr 2 0 0)], [(0, some (.p (some 3) [.agg [.str [], .str [], .str []]])), (1, rL none PV.str x1), (2, some (.p (some 3) [.agg [.str x5, .str x6, .str x15]]))], 3⟩) (.cons (rAt_ob hx15 (by simp)) (.cons (ownAt hx15) .nil))) ?_
      refine x_tn ?_
      exact ⟨x15, h, by kernel_rfl⟩
     ·replace h := ite_f h hc14
      refine kw0 (⟨[(2, .optr 0 0 0), (4, oL 1 PV.str x1), (5, .optr 2 0 0)], [(0, some (.p (some 3) [.agg [.str [], .str [], .str []]])), (1, rL none PV.str x1), (2, some (.p (some 3) [.agg [.str x5, .str x6, .str []]]))], 3⟩) ?_
      refine x_skip ?_
      refine x_tn ?_
      exact ⟨[], h, by kernel_rfl⟩

theorem c11 {r : Bool} (h : law27_awake = some r) : CallOK Tryd.prog 11 [] (.bool r) true := by
  apply ok11
  unfold law27_awake at h
  refine x_rg (rgn [hE] (⟨[], [], 0⟩)) ?_
  obtain ⟨x1, hx1, h⟩ := bind_some h
  refine x_rg (rg0 [hN (.cal [] (.tup [.usl (some 1) (List.map enc_api_Entry x1.1), .int .i64 x1.2.1, .int .i64 x1.2.2]) false), hE, hE, hE, hE, hE, hE, hE] (⟨[(1, oL 0 enc_api_Entry x1.1), (2, pI x1.2.1), (3, pI x1.2.2)], [(0, rL (some 1) enc_api_Entry x1.1)], 1⟩) (.cons (c16 hx1) .nil)) ?_
  refine x_seq ?_
  obtain ⟨t6, ht, h⟩ := bind_some h
  refine x_rg (st2 := ⟨[(1, oL 0 enc_api_Entry x1.1), (31, pB t6)], [(0, rL (some 1) enc_api_Entry x1.1)], 1⟩) ?_ ?_
  ·rcases Bool.eq_false_or_eq_true (!decide (x1.2.2 = 0)) with hg2 | hg2
   ·replace ht := ite_t ht hg2
    have e := Option.some.inj ht
    subst e
    exact rg0 [hE, hE, hE, hS, hS, hN (.pk true), hE, hS, hS, hS, hE, hE, hS, hS, hS, hS, hS, hS, hE] (⟨[(1, oL 0 enc_api_Entry x1.1), (31, pB true)], [(0, rL (some 1) enc_api_Entry x1.1)], 1⟩) (.cons hg2 (.cons hg2 (.cons hg2 (.cons tt (.cons tt (.cons tt (.cons tt (.cons tt (.cons tt (.cons tt (.cons tt (.cons tt .nil))))))))))))
   ·replace ht := ite_f ht hg2
    rcases Bool.eq_false_or_eq_true (!decide (x1.2.1 = 0)) with hg3 | hg3
    ·replace ht := ite_t ht hg3
     have e := Option.some.inj ht
     subst e
     exact rg0 [hE, hE, hE, hY, hY, hN (.pk false), hE, hS, hS, hS, hN (.pk true), hE, hS, hS, hS, hS, hS, hS, hE] (⟨[(1, oL 0 enc_api_Entry x1.1), (31, pB true)], [(0, rL (some 1) enc_api_Entry x1.1)], 1⟩) (.cons hg2 (.cons hg2 (.cons hg2 (.cons hg3 (.cons hg3 (.cons hg3 (.cons hg3 (.cons tt (.cons tt (.cons tt (.cons tt (.cons tt (.cons tt .nil)))))))))))))
    ·replace ht := ite_f ht hg3
     rcases Bool.eq_false_or_eq_true (!decide ((List.length x1.1 : Int) = 3)) with hg4 | hg4
     ·replace ht := ite_t ht hg4
      have e := Option.some.inj ht
      subst e
      exact rg0 (obs := [((!decide (x1.2.2 = 0)) = false), ((!decide (x1.2.2 = 0)) = false), ((!decide (x1.2.2 = 0)) = false), ((!decide (x1.2.1 = 0)) = false), ((!decide (x1.2.1 = 0)) = false), ((((List.map enc_api_Entry x1.1).length : Nat) : Int) = (List.length x1.1 : Int)), ((!decide (x1.2.1 = 0)) = false), ((!decide (x1.2.1 = 0)) = false), ((!decide ((List.length x1.1 : Int) = 3)) = true), ((!decide ((List.length x1.1 : Int) = 3)) = true), ((!decide ((List.length x1.1 : Int) = 3)) = true), ((!decide ((List.length x1.1 : Int) = 3)) = true), ((!decide ((List.length x1.1 : Int) = 3)) = true), ((!decide ((List.length x1.1 : Int) = 3)) = true), ((!decide ((List.length x1.1 : Int) = 3)) = true)]) [hE, hE, hE, hY, hY, hN (.pk false), hE, hY, (.y, (.len (List.length x1.1 : Int))), hY, hN (.pk false), hE, hS, hS, hS, hS, hS, hS, hN (.pk true)] (⟨[(1, oL 0 enc_api_Entry x1.1), (31, pB true)], [(0, rL (some 1) enc_api_Entry x1.1)], 1⟩) (.cons hg2 (.cons hg2 (.cons hg2 (.cons hg3 (.cons hg3 (.cons (by rw [List.length_map]) (.cons hg3 (.cons hg3 (.cons hg4 (.cons hg4 (.cons hg4 (.cons hg4 (.cons hg4 (.cons hg4 (.cons hg4 .nil)))))))))))))))
     ·replace ht := ite_f ht hg4
      obtain ⟨x5, hx5, ht⟩ := bind_some ht
      have e := Option.some.inj ht
      subst e
      exact rg0 (obs := [((!decide (x1.2.2 = 0)) = false), ((!decide (x1.2.2 = 0)) = false), ((!decide (x1.2.2 = 0)) = false), ((!decide (x1.2.1 = 0)) = false), ((!decide (x1.2.1 = 0)) = false), ((((List.map enc_api_Entry x1.1).length : Nat) : Int) = (List.length x1.1 : Int)), ((!decide (x1.2.1 = 0)) = false), ((!decide (x1.2.1 = 0)) = false), ((!decide ((List.length x1.1 : Int) = 3)) = false), ((!decide ((List.length x1.1 : Int) = 3)) = false), (0 ≤ (1 : Int) ∧ Int.toNat 1 < (List.map enc_api_Entry x1.1).length), ((!decide ((List.length x1.1 : Int) = 3)) = false), ((!decide ((List.length x1.1 : Int) = 3)) = false), ((List.map enc_api_Entry x1.1)[(0 + Int.toNat 1)]? = some (enc_api_Entry x5)), ((!decide ((List.length x1.1 : Int) = 3)) = false), ((List.length (List.map enc_api_Attr x5.Attrs) : Int) = (List.length x5.Attrs : Int)), ((!decide ((List.length x1.1 : Int) = 3)) = false), ((!decide ((List.length x1.1 : Int) = 3)) = false)]) [hE, hE, hE, hY, hY, hN (.pk false), hE, hY, (.y, (.len (List.length x1.1 : Int))), hY, hN (.pk false), hE, hY, (.y, .rAt), hY, (.y, (.ld (enc_api_Entry x5))), (.y, (.len (List.length x5.Attrs : Int))), hY, hN (.pk false)] (⟨[(1, oL 0 enc_api_Entry x1.1), (31, pB (!decide ((List.length x5.Attrs : Int) = 2)))], [(0, rL (some 1) enc_api_Entry x1.1)], 1⟩) (.cons hg2 (.cons hg2 (.cons hg2 (.cons hg3 (.cons hg3 (.cons (by rw [List.length_map]) (.cons hg3 (.cons hg3 (.cons hg4 (.cons hg4 (.cons (rAt_ob hx5 (by simp)) (.cons hg4 (.cons hg4 (.cons (ownAt hx5) (.cons hg4 (.cons (by rw [List.length_map]) (.cons hg4 (.cons hg4 .nil))))))))))))))))))
  ·clear ht
   refine x_cond _ rfl (fun hc7 => ?_) (fun hc7 => ?_)
   ·replace h := ite_t h hc7
    refine x_rg (rgn [hE] (⟨[(0, pB false)], [], 0⟩)) ?_
    refine x_toret ?_
    refine x_tr ?_
    obtain rfl := Option.some.inj h
    exact ret0 (.bool false) (.refl _) (fun _ => rfl)
   ·replace h := ite_f h hc7
    refine kw0 (⟨[(1, oL 0 enc_api_Entry x1.1)], [(0, rL (some 1) enc_api_Entry x1.1)], 1⟩) ?_
    refine x_skip ?_
    refine x_tn ?_
    obtain ⟨x8, hx8, h⟩ := bind_some h
    refine x_rg (rg0 (obs := [(LesA [.sl (some 1) (List.take (List.map enc_api_Entry x1.1).length (List.drop 0 (List.map enc_api_Entry x1.1))), .str [116, 101, 114, 109], .agg [.str [110, 101, 116], .str [102, 115], .str []]] [.sl (some 1) (List.map enc_api_Entry x1.1), .str [116, 101, 114, 109], .agg [.str [110, 101, 116], .str [102, 115], .str []]]), (CallOK Tryd.prog 22 [.sl (some 1) (List.map enc_api_Entry x1.1), .str [116, 101, 114, 109], .agg [.str [110, 101, 116], .str [102, 115], .str []]] (.tup [.usl (some 3) (List.map enc_api_Addr x8.1), .int .i64 x8.2]) true), (0 + (List.map enc_api_Entry x1.1).length ≤ List.length (List.map enc_api_Entry x1.1))]) [hE, hE, hN (.call [] [.sl (some 1) (List.map enc_api_Entry x1.1), .str [116, 101, 114, 109], .agg [.str [110, 101, 116], .str [102, 115], .str []]] (.tup [.usl (some 3) (List.map enc_api_Addr x8.1), .int .i64 x8.2]) true), hE, hE, hE, hE, hE] (⟨[(3, pI x8.2), (4, oL 0 enc_api_Addr x8.1)], [(0, rL (some 3) enc_api_Addr x8.1)], 1⟩) (.cons (.cons (.of_eq (by rw [List.drop_zero, List.take_length])) (.cons (.refl _) (.cons (.refl _) .nil))) (.cons (c22 hx8) (.cons (by simp) .nil)))) ?_
    refine x_seq ?_
    refine x_rg (st2 := ⟨[(4, oL 0 enc_api_Addr x8.1), (44, pB ((!decide (x8.2 = 0)) || (!decide ((List.length x8.1 : Int) = 1))))], [(0, rL (some 3) enc_api_Addr x8.1)], 1⟩) ?_ ?_
    ·rcases Bool.eq_false_or_eq_true (!decide (x8.2 = 0)) with hg9 | hg9
     ·exact rg [hE, hE, hE, hS, hS, hS, hN (.pk true)] (⟨[(4, oL 0 enc_api_Addr x8.1), (44, pB true)], [(0, rL (some 3) enc_api_Addr x8.1)], 1⟩) (.cons hg9 (.cons hg9 (.cons hg9 (.cons hg9 .nil)))) (.of_eq (by simp only [hg9, bs, reduceIte]))
     ·exact rg (obs := [((!decide (x8.2 = 0)) = false), ((!decide (x8.2 = 0)) = false), ((((List.map enc_api_Addr x8.1).length : Nat) : Int) = (List.length x8.1 : Int)), ((!decide (x8.2 = 0)) = false), ((!decide (x8.2 = 0)) = false)]) [hE, hE, hE, hY, (.y, (.len (List.length x8.1 : Int))), hY, hN (.pk false)] (⟨[(4, oL 0 enc_api_Addr x8.1), (44, pB (!decide ((List.length x8.1 : Int) = 1)))], [(0, rL (some 3) enc_api_Addr x8.1)], 1⟩) (.cons hg9 (.cons hg9 (.cons (by rw [List.length_map]) (.cons hg9 (.cons hg9 .nil))))) (.of_eq (by simp only [hg9, bs, reduceIte]))
    ·refine x_cond _ rfl (fun hc11 => ?_) (fun hc11 => ?_)
     ·replace h := ite_t h hc11
      refine x_rg (rgn [hE] (⟨[(0, pB false)], [], 0⟩)) ?_
      refine x_toret ?_
      refine x_tr ?_
      obtain rfl := Option.some.inj h
      exact ret0 (.bool false) (.refl _) (fun _ => rfl)
     ·replace h := ite_f h hc11
      refine kw0 (⟨[(4, oL 0 enc_api_Addr x8.1)], [(0, rL (some 3) enc_api_Addr x8.1)], 1⟩) ?_
      refine x_skip ?_
      refine x_tn ?_
      obtain ⟨x12, hx12, h⟩ := bind_some h
      obtain ⟨x13, hx13, h⟩ := bind_some h
      refine x_rg (rg0 (obs := [(0 ≤ (0 : Int) ∧ Int.toNat 0 < (List.map enc_api_Addr x8.1).length), ((List.map enc_api_Addr x8.1)[(0 + Int.toNat 0)]? = some (enc_api_Addr x12)), (CallOK Tryd.prog 14 [enc_api_Addr x12] (.tup [.str x13.1, .int .i64 x13.2]) true)]) [hE, hN .rAt, hN (.ld (enc_api_Addr x12)), hN (.cal [] (.tup [.str x13.1, .int .i64 x13.2]) true), hE, hE, hE, hE, hE] (⟨[(3, pI x13.2), (4, oL 0 enc_api_Addr x8.1), (5, pS x13.1)], [(0, rL (some 3) enc_api_Addr x8.1)], 1⟩) (.cons (rAt_ob hx12 (by simp)) (.cons (ownAt hx12) (.cons (c14 hx13) .nil)))) ?_
      obtain ⟨x14, hx14, h⟩ := bind_some h
      refine x_rg (rg0 [hN (.cal [] (.tup [enc_api_Addr x14.1, .int .i64 x14.2]) true), hE, hE, hE, hE, hE, hE] (⟨[(3, pI x13.2), (4, oL 0 enc_api_Addr x8.1), (5, pS x13.1), (6, .optr 1 0 0), (7, pI x14.2)], [(0, rL (some 3) enc_api_Addr x8.1), (1, some (.p (some 3) [enc_api_Addr x14.1]))], 2⟩) (.cons (c12 hx14) .nil)) ?_
      obtain ⟨t19, ht, h⟩ := bind_some h
      refine x_rg (st2 := ⟨[(0, pB t19)], [], 0⟩) ?_ ?_
      ·rcases Bool.eq_false_or_eq_true (decide (x13.1 = [116, 99, 112, 33, 102, 115, 33, 53, 54, 52])) with hg15 | hg15
       ·replace ht := ite_t ht hg15
        rcases Bool.eq_false_or_eq_true (decide (x13.2 = 0)) with hg16 | hg16
        ·replace ht := ite_t ht hg16
         obtain ⟨x17, hx17, ht⟩ := bind_some ht
         rcases Bool.eq_false_or_eq_true (decide (x14.1.Net = x17.Net) && (decide (x14.1.Host = x17.Host) && (decide (x14.1.Service = x17.Service) && true))) with hg18 | hg18
         ·replace ht := ite_t ht hg18
          have e := Option.some.inj ht
          subst e
          exact rg0 (obs := [((decide (x13.1 = [116, 99, 112, 33, 102, 115, 33, 53, 54, 52])) = true), ((decide (x13.1 = [116, 99, 112, 33, 102, 115, 33, 53, 54, 52])) = true), ((decide (x13.1 = [116, 99, 112, 33, 102, 115, 33, 53, 54, 52])) = true), ((decide (x13.2 = 0)) = true), ((decide (x13.2 = 0)) = true), ((decide (x13.2 = 0)) = true), (0 ≤ (0 : Int) ∧ Int.toNat 0 < (List.map enc_api_Addr x8.1).length), ((decide (x13.2 = 0)) = true), ((List.map enc_api_Addr x8.1)[(0 + Int.toNat 0)]? = some (enc_api_Addr x17)), ((decide (x13.2 = 0)) = true), ((decide (x13.2 = 0)) = true), ((decide (x14.1.Net = x17.Net) && (decide (x14.1.Host = x17.Host) && (decide (x14.1.Service = x17.Service) && true))) = true), ((decide (x14.1.Net = x17.Net) && (decide (x14.1.Host = x17.Host) && (decide (x14.1.Service = x17.Service) && true))) = true), ((decide (x14.1.Net = x17.Net) && (decide (x14.1.Host = x17.Host) && (decide (x14.1.Service = x17.Service) && true))) = true)]) [hE, hE, hE, hY, hY, hN (.pk true), hE, hY, hY, (.y, .rAt), (.y, (.ld (enc_api_Addr x17))), hY, hN (.pk true), hE, hY, hY, hN (.pk true), hE] (⟨[(0, pB (decide (x14.2 = 0)))], [], 0⟩) (.cons hg15 (.cons hg15 (.cons hg15 (.cons hg16 (.cons hg16 (.cons hg16 (.cons (rAt_ob hx17 (by simp)) (.cons hg16 (.cons (ownAt hx17) (.cons hg16 (.cons hg16 (.cons hg18 (.cons hg18 (.cons hg18 .nil))))))))))))))
         ·replace ht := ite_f ht hg18
          have e := Option.some.inj ht
          subst e
          exact rg0 (obs := [((decide (x13.1 = [116, 99, 112, 33, 102, 115, 33, 53, 54, 52])) = true), ((decide (x13.1 = [116, 99, 112, 33, 102, 115, 33, 53, 54, 52])) = true), ((decide (x13.1 = [116, 99, 112, 33, 102, 115, 33, 53, 54, 52])) = true), ((decide (x13.2 = 0)) = true), ((decide (x13.2 = 0)) = true), ((decide (x13.2 = 0)) = true), (0 ≤ (0 : Int) ∧ Int.toNat 0 < (List.map enc_api_Addr x8.1).length), ((decide (x13.2 = 0)) = true), ((List.map enc_api_Addr x8.1)[(0 + Int.toNat 0)]? = some (enc_api_Addr x17)), ((decide (x13.2 = 0)) = true), ((decide (x13.2 = 0)) = true), ((decide (x14.1.Net = x17.Net) && (decide (x14.1.Host = x17.Host) && (decide (x14.1.Service = x17.Service) && true))) = false), ((decide (x14.1.Net = x17.Net) && (decide (x14.1.Host = x17.Host) && (decide (x14.1.Service = x17.Service) && true))) = false), ((decide (x14.1.Net = x17.Net) && (decide (x14.1.Host = x17.Host) && (decide (x14.1.Service = x17.Service) && true))) = false)]) [hE, hE, hE, hY, hY, hN (.pk true), hE, hY, hY, (.y, .rAt), (.y, (.ld (enc_api_Addr x17))), hY, hN (.pk true), hE, hS, hS, hN (.pk false), hE] (⟨[(0, pB false)], [], 0⟩) (.cons hg15 (.cons hg15 (.cons hg15 (.cons hg16 (.cons hg16 (.cons hg16 (.cons (rAt_ob hx17 (by simp)) (.cons hg16 (.cons (ownAt hx17) (.cons hg16 (.cons hg16 (.cons hg18 (.cons hg18 (.cons hg18 .nil))))))))))))))
        ·replace ht := ite_f ht hg16
         have e := Option.some.inj ht
         subst e
         exact rg0 (obs := [((decide (x13.1 = [116, 99, 112, 33, 102, 115, 33, 53, 54, 52])) = true), ((decide (x13.1 = [116, 99, 112, 33, 102, 115, 33, 53, 54, 52])) = true), ((decide (x13.1 = [116, 99, 112, 33, 102, 115, 33, 53, 54, 52])) = true), ((decide (x13.2 = 0)) = false), ((decide (x13.2 = 0)) = false), ((decide (x13.2 = 0)) = false), ((decide (x13.2 = 0)) = false), ((decide (x13.2 = 0)) = false), ((decide (x13.2 = 0)) = false), (false = false), (false = false)]) [hE, hE, hE, hY, hY, hN (.pk true), hE, hS, hS, hS, hS, hS, hN (.pk false), hE, hS, hS, hE, hE] (⟨[(0, pB false)], [], 0⟩) (.cons hg15 (.cons hg15 (.cons hg15 (.cons hg16 (.cons hg16 (.cons hg16 (.cons hg16 (.cons hg16 (.cons hg16 (.cons rfl (.cons rfl .nil)))))))))))
       ·replace ht := ite_f ht hg15
        have e := Option.some.inj ht
        subst e
        exact rg0 (obs := [((decide (x13.1 = [116, 99, 112, 33, 102, 115, 33, 53, 54, 52])) = false), ((decide (x13.1 = [116, 99, 112, 33, 102, 115, 33, 53, 54, 52])) = false), ((decide (x13.1 = [116, 99, 112, 33, 102, 115, 33, 53, 54, 52])) = false), (false = false), (false = false), (false = false), (false = false), (false = false), (false = false), (false = false)]) [hE, hE, hE, hS, hS, hN (.pk false), hE, hS, hS, hS, hS, hS, hE, hE, hS, hS, hE, hE] (⟨[(0, pB false)], [], 0⟩) (.cons hg15 (.cons hg15 (.cons hg15 (.cons rfl (.cons rfl (.cons rfl (.cons rfl (.cons rfl (.cons rfl (.cons rfl .nil))))))))))
      ·clear ht
       refine x_toret ?_
       obtain rfl := Option.some.inj h
       exact ret0 (.bool t19) (.refl _) (fun _ => rfl)

theorem c37 {s_ : Str} {r : (List Str)} (h : ref27_lines s_ = some r) : CallOK Tryd.prog 37 [.str s_] (.usl none (List.map PV.str r)) true := by
  apply ok37
  unfold ref27_lines at h
  refine x_rg (rgn [hE] (⟨[(0, pS s_)], [], 0⟩)) ?_
  refine x_rg (st2 := { tm := [(0, .pv (.str s_)), (3, .osl 0 0 (List.map PV.str ([] : List Str)).length)], hp := [(0, some (.p none (List.map PV.str ([] : List Str))))], nx := 1 }) (rg [hE] ({ tm := [(0, .pv (.str s_)), (3, .pv (.nilsl))], hp := [], nx := 0 }) .nil ((Sub.keep (ks := [0, 3]) (st := ownSt 3 none ({ tm := [(0, .pv (.str s_)), (3, .pv (.nilsl))], hp := [], nx := 0 })) (st' := { tm := [(0, .pv (.str s_)), (3, .osl 0 0 (List.map PV.str ([] : List Str)).length)], hp := [(0, some (.p none (List.map PV.str ([] : List Str))))], nx := 1 }) (by kernel_rfl)).trans (own_sound 3 none ({ tm := [(0, .pv (.str s_)), (3, .pv (.nilsl))], hp := [], nx := 0 })))) ?_
  refine x_rg (rgn [hE] (⟨[(0, pS s_), (3, oL 0 PV.str ([] : List Str)), (4, pI 0)], [(0, rL none PV.str ([] : List Str))], 1⟩)) ?_
  refine x_seq ?_
  refine x_rg (rgn [hE] (⟨[(0, pS s_), (3, oL 0 PV.str ([] : List Str)), (4, pI 0), (5, pI 0)], [(0, rL none PV.str ([] : List Str))], 1⟩)) ?_
  refine x_block ?_
  refine kw0 (⟨[(0, pS s_), (3, oL 0 PV.str ([] : List Str)), (4, pI 0), (5, pI 0)], [(0, rL none PV.str ([] : List Str))], 1⟩) ?_
  refine x_loop (σ := (Int × Int × (List Str))) h (fun s => ⟨[(0, pS s_), (3, oL 0 PV.str s.2.2), (4, pI s.1), (5, pI s.2.1)], [(0, rL none PV.str s.2.2)], 1⟩) (by kernel_rfl) ?_ ?_
  ·rintro ⟨from_, i, out⟩
   kernel_rfl
  ·rintro ⟨from_, i, out⟩ x9 h hx9
   replace h : ref27_lines_L9 s_ from_ i out = some x9 := h
   unfold ref27_lines_L9 at h
   refine x_seq ?_
   refine x_rg (rgn [hE, hE, hE, hE] (⟨[(0, pS s_), (3, oL 0 PV.str out), (4, pI from_), (5, pI i), (9, pB (decide (i < (List.length s_ : Int))))], [(0, rL none PV.str out)], 1⟩)) ?_
   refine x_cond _ rfl (fun hc10 => ?_) (fun hc10 => ?_)
   ·replace h := ite_t h hc10
    refine kw0 (⟨[(0, pS s_), (3, oL 0 PV.str out), (4, pI from_), (5, pI i)], [(0, rL none PV.str out)], 1⟩) ?_
    refine x_skip ?_
    refine x_tn ?_
    refine x_seq ?_
    refine x_block ?_
    obtain ⟨c11, hc11, h⟩ := bind_some h
    refine x_rg (rg0 [hE, hE, hN (.sAt c11), hE] (⟨[(0, pS s_), (3, oL 0 PV.str out), (4, pI from_), (5, pI i), (15, pB (decide ((c11.toNat : Int) = 10)))], [(0, rL none PV.str out)], 1⟩) (.cons hc11 .nil)) ?_
    refine x_cond _ rfl (fun hc12 => ?_) (fun hc12 => ?_)
    ·replace h := ite_t h hc12
     obtain ⟨x13, hx13, h⟩ := bind_some h
     obtain ⟨x14, hx14, h⟩ := bind_some h
     refine x_rg (rg0 (obs := [(cut s_ from_ i = some x13), (List.take (List.map PV.str out).length (List.map PV.str out) ++ List.take 1 (List.drop 0 ([.str x13] : List PV)) = (List.map PV.str x14)), (List.length (List.map PV.str x14) * 16 ≤ 140737488355328), (List.length (List.map PV.str x14) ≤ 9223372036854775807), ((List.map PV.str out).length ≤ List.length (List.map PV.str out)), (0 + 1 ≤ List.length ([.str x13] : List PV))]) [hE, hE, hE, hE, hN (.cutS x13), hE, hN (.app (List.map PV.str x14)), hE] (⟨[(0, pS s_), (3, oL 0 PV.str x14), (5, pI i)], [(0, rL none PV.str x14)], 1⟩) (.cons hx13 (.cons (app_ob hx14 (.all _) (.rfl _)) (.cons (by rw [List.length_map]; exact (appL_ok hx14).2.1) (.cons (by rw [List.length_map]; exact (appL_ok hx14).2.2) (.cons (Nat.le_refl _) (.cons (by simp) .nil))))))) ?_
     refine x_rgt (rgn [hE, hE, hE] (⟨[(0, pS s_), (3, oL 0 PV.str x14), (4, pI (IntKind.wrap .i64 (i + 1))), (5, pI i)], [(0, rL none PV.str x14)], 1⟩)) ?_
     refine x_bn ?_
     refine x_tn ?_
     refine x_rgt (rgn [hE, hE, hE] (⟨[(0, pS s_), (3, oL 0 PV.str x14), (4, pI (IntKind.wrap .i64 (i + 1))), (5, pI (IntKind.wrap .i64 (i + 1)))], [(0, rL none PV.str x14)], 1⟩)) ?_
     refine x_tn ?_
     exact ⟨_, (Option.some.inj h).symm, by kernel_rfl⟩
    ·replace h := ite_f h hc12
     refine kw0 (⟨[(0, pS s_), (3, oL 0 PV.str out), (4, pI from_), (5, pI i)], [(0, rL none PV.str out)], 1⟩) ?_
     refine x_skip ?_
     refine x_bn ?_
     refine x_tn ?_
     refine x_rgt (rgn [hE, hE, hE] (⟨[(0, pS s_), (3, oL 0 PV.str out), (4, pI from_), (5, pI (IntKind.wrap .i64 (i + 1)))], [(0, rL none PV.str out)], 1⟩)) ?_
     refine x_tn ?_
     exact ⟨_, (Option.some.inj h).symm, by kernel_rfl⟩
   ·replace h := ite_f h hc10
    refine kw0 (⟨[(0, pS s_), (3, oL 0 PV.str out), (4, pI from_)], [(0, rL none PV.str out)], 1⟩) ?_
    refine x_exit ?_
    refine x_te ?_
    refine x_te ?_
    replace h := done_map h hx9
    unfold ref27_lines_A18 at h
    refine x_bh ?_
    refine x_tn ?_
    refine x_seq ?_
    refine x_rg (rgn [hE, hE, hE, hE] (⟨[(0, pS s_), (3, oL 0 PV.str out), (4, pI from_), (28, pB (decide (from_ < (List.length s_ : Int))))], [(0, rL none PV.str out)], 1⟩)) ?_
    refine x_cond _ rfl (fun hc15 => ?_) (fun hc15 => ?_)
    ·replace h := ite_t h hc15
     obtain ⟨x16, hx16, h⟩ := bind_some h
     obtain ⟨x17, hx17, h⟩ := bind_some h
     refine x_rgt (rg0 (obs := [(cut s_ from_ (List.length s_ : Int) = some x16), (List.take (List.map PV.str out).length (List.map PV.str out) ++ List.take 1 (List.drop 0 ([.str x16] : List PV)) = (List.map PV.str x17)), (List.length (List.map PV.str x17) * 16 ≤ 140737488355328), (List.length (List.map PV.str x17) ≤ 9223372036854775807), ((List.map PV.str out).length ≤ List.length (List.map PV.str out)), (0 + 1 ≤ List.length ([.str x16] : List PV))]) [hE, hE, hE, hN (.cutS x16), hE, hN (.app (List.map PV.str x17)), hE] (⟨[(3, oL 0 PV.str x17)], [(0, rL none PV.str x17)], 1⟩) (.cons hx16 (.cons (app_ob hx17 (.all _) (.rfl _)) (.cons (by rw [List.length_map]; exact (appL_ok hx17).2.1) (.cons (by rw [List.length_map]; exact (appL_ok hx17).2.2) (.cons (Nat.le_refl _) (.cons (by simp) .nil))))))) ?_
     refine x_tn ?_
     refine x_rg (rgn [hE, hE] (⟨[(2, oL 0 PV.str x17)], [(0, rL none PV.str x17)], 1⟩)) ?_
     refine x_toret ?_
     obtain rfl := Option.some.inj h
     exact x_ret (.usl none (List.take (List.map PV.str x17).length (List.map PV.str x17))) [0] [(List.map PV.str x17).length ≤ List.length (List.map PV.str x17)] (by kernel_rfl) (.cons (Nat.le_refl _) .nil) (by decide) (.of_eq (by rw [List.take_length])) (fun _ => (usl_ns (sh := none) (fun _ => rfl)))
    ·replace h := ite_f h hc15
     refine kw0 (⟨[(3, oL 0 PV.str out)], [(0, rL none PV.str out)], 1⟩) ?_
     refine x_skip ?_
     refine x_tn ?_
     refine x_rg (rgn [hE, hE] (⟨[(2, oL 0 PV.str out)], [(0, rL none PV.str out)], 1⟩)) ?_
     refine x_toret ?_
     obtain rfl := Option.some.inj h
     exact x_ret (.usl none (List.take (List.map PV.str out).length (List.map PV.str out))) [0] [(List.map PV.str out).length ≤ List.length (List.map PV.str out)] (by kernel_rfl) (.cons (Nat.le_refl _) .nil) (by decide) (.of_eq (by rw [List.take_length])) (fun _ => (usl_ns (sh := none) (fun _ => rfl)))

theorem c38 {s_ : Str} {r : Bool} (h : ref27_ignored s_ = some r) : CallOK Tryd.prog 38 [.str s_] (.bool r) true := by
  apply ok38
  unfold ref27_ignored at h
  refine x_rg (rgn [hE] (⟨[(0, pS s_)], [], 0⟩)) ?_
  refine x_seq ?_
  obtain ⟨t3, ht, h⟩ := bind_some h
  refine x_rg (st2 := ⟨[(0, pS s_), (11, pB t3)], [], 0⟩) ?_ ?_
  ·rcases Bool.eq_false_or_eq_true (decide (0 < (List.length s_ : Int))) with hg1 | hg1
   ·replace ht := ite_t ht hg1
    obtain ⟨c2, hc2, ht⟩ := bind_some ht
    have e := Option.some.inj ht
    subst e
    exact rg0 [hE, hE, hE, hE, hY, (.y, (.sAt c2)), hY, hN (.pk true)] (⟨[(0, pS s_), (11, pB (decide ((c2.toNat : Int) = 35)))], [], 0⟩) (.cons hg1 (.cons hg1 (.cons hc2 (.cons hg1 (.cons hg1 .nil)))))
   ·replace ht := ite_f ht hg1
    have e := Option.some.inj ht
    subst e
    exact rg0 [hE, hE, hE, hE, hS, hS, hS, hN (.pk false)] (⟨[(0, pS s_), (11, pB false)], [], 0⟩) (.cons hg1 (.cons hg1 (.cons hg1 (.cons hg1 .nil))))
  ·clear ht
   refine x_cond _ rfl (fun hc4 => ?_) (fun hc4 => ?_)
   ·replace h := ite_t h hc4
    refine x_rg (rgn [hE] (⟨[(2, pB true)], [], 0⟩)) ?_
    refine x_toret ?_
    refine x_tr ?_
    obtain rfl := Option.some.inj h
    exact ret0 (.bool true) (.refl _) (fun _ => rfl)
   ·replace h := ite_f h hc4
    refine kw0 (⟨[(0, pS s_)], [], 0⟩) ?_
    refine x_skip ?_
    refine x_tn ?_
    refine x_seq ?_
    refine x_rg (rgn [hE] (⟨[(0, pS s_), (3, pI 0)], [], 0⟩)) ?_
    refine x_block ?_
    refine kw0 (⟨[(0, pS s_), (3, pI 0)], [], 0⟩) ?_
    refine x_loop (σ := Int) h (fun s => ⟨[(0, pS s_), (3, pI s)], [], 0⟩) (by kernel_rfl) ?_ ?_
    ·rintro i
     kernel_rfl
    ·rintro i x12 h hx12
     replace h : ref27_ignored_L12 s_ i = some x12 := h
     unfold ref27_ignored_L12 at h
     refine x_seq ?_
     refine x_rg (rgn [hE, hE, hE, hE] (⟨[(0, pS s_), (3, pI i), (15, pB (decide (i < (List.length s_ : Int))))], [], 0⟩)) ?_
     refine x_cond _ rfl (fun hc13 => ?_) (fun hc13 => ?_)
     ·replace h := ite_t h hc13
      refine kw0 (⟨[(0, pS s_), (3, pI i)], [], 0⟩) ?_
      refine x_skip ?_
      refine x_tn ?_
      refine x_seq ?_
      refine x_block ?_
      obtain ⟨c14, hc14, h⟩ := bind_some h
      obtain ⟨t17, ht, h⟩ := bind_some h
      refine x_rg (st2 := ⟨[(0, pS s_), (3, pI i), (27, pB t17)], [], 0⟩) ?_ ?_
      ·rcases Bool.eq_false_or_eq_true (!decide ((c14.toNat : Int) = 32)) with hg15 | hg15
       ·replace ht := ite_t ht hg15
        obtain ⟨c16, hc16, ht⟩ := bind_some ht
        have e := Option.some.inj ht
        subst e
        exact rg0 [hE, hE, hN (.sAt c14), hE, hE, hY, hY, (.y, (.sAt c16)), hY, hN (.pk true)] (⟨[(0, pS s_), (3, pI i), (27, pB (!decide ((c16.toNat : Int) = 9)))], [], 0⟩) (.cons hc14 (.cons hg15 (.cons hg15 (.cons hg15 (.cons hc16 (.cons hg15 (.cons hg15 .nil)))))))
       ·replace ht := ite_f ht hg15
        have e := Option.some.inj ht
        subst e
        exact rg0 [hE, hE, hN (.sAt c14), hE, hE, hS, hS, hS, hS, hN (.pk false)] (⟨[(0, pS s_), (3, pI i), (27, pB false)], [], 0⟩) (.cons hc14 (.cons hg15 (.cons hg15 (.cons hg15 (.cons hg15 (.cons hg15 .nil))))))
      ·clear ht
       refine x_cond _ rfl (fun hc18 => ?_) (fun hc18 => ?_)
       ·replace h := ite_t h hc18
        refine x_rg (rgn [hE] (⟨[(2, pB false)], [], 0⟩)) ?_
        refine x_toret ?_
        refine x_br ?_
        refine x_tr ?_
        refine x_tr ?_
        replace h := done_leaf h hx12
        refine x_br ?_
        refine x_tr ?_
        obtain rfl := Option.some.inj h
        exact ret0 (.bool false) (.refl _) (fun _ => rfl)
       ·replace h := ite_f h hc18
        refine kw0 (⟨[(0, pS s_), (3, pI i)], [], 0⟩) ?_
        refine x_skip ?_
        refine x_bn ?_
        refine x_tn ?_
        refine x_rgt (rgn [hE, hE, hE] (⟨[(0, pS s_), (3, pI (IntKind.wrap .i64 (i + 1)))], [], 0⟩)) ?_
        refine x_tn ?_
        exact ⟨_, (Option.some.inj h).symm, by kernel_rfl⟩
     ·replace h := ite_f h hc13
      refine kw0 (⟨[], [], 0⟩) ?_
      refine x_exit ?_
      refine x_te ?_
      refine x_te ?_
      replace h := done_leaf h hx12
      refine x_bh ?_
      refine x_tn ?_
      refine x_rg (rgn [hE] (⟨[(2, pB true)], [], 0⟩)) ?_
      refine x_toret ?_
      obtain rfl := Option.some.inj h
      exact ret0 (.bool true) (.refl _) (fun _ => rfl)

theorem c70 {c : Int} {r : Bool} (h : ref22_space c = some r) : CallOK Tryd.prog 70 [.int .u8 c] (.bool r) true := by
  apply ok70
  unfold ref22_space at h
  refine x_rg (rgn [hE] (⟨[(0, .pv (.int .u8 c))], [], 0⟩)) ?_
  refine x_rg (st2 := ⟨[(2, pB ((decide (c = 32)) || (decide (c = 9))))], [], 0⟩) ?_ ?_
  ·rcases Bool.eq_false_or_eq_true (decide (c = 32)) with hg1 | hg1
   ·exact rg [hE, hE, hE, hS, hS, hN (.pk true), hE] (⟨[(2, pB true)], [], 0⟩) (.cons hg1 (.cons hg1 (.cons hg1 .nil))) (.of_eq (by simp only [hg1, bs, reduceIte]))
   ·exact rg [hE, hE, hE, hY, hY, hN (.pk false), hE] (⟨[(2, pB (decide (c = 9)))], [], 0⟩) (.cons hg1 (.cons hg1 (.cons hg1 .nil))) (.of_eq (by simp only [hg1, bs, reduceIte]))
  ·refine x_toret ?_
   obtain rfl := Option.some.inj h
   exact ret0 (.bool ((decide (c = 32)) || (decide (c = 9)))) (.refl _) (fun _ => rfl)

theorem c97 {s_ : Str} {at_ : Int} {r : Bool} (h : ref22_ends s_ at_ = some r) : CallOK Tryd.prog 97 [.str s_, .int .i64 at_] (.bool r) true := by
  apply ok97
  unfold ref22_ends at h
  refine x_rg (rgn [hE] (⟨[(0, pS s_), (1, pI at_)], [], 0⟩)) ?_
  obtain ⟨t4, ht, h⟩ := bind_some h
  refine x_rg (st2 := ⟨[(4, pB t4)], [], 0⟩) ?_ ?_
  ·rcases Bool.eq_false_or_eq_true (decide (at_ = (List.length s_ : Int))) with hg1 | hg1
   ·replace ht := ite_t ht hg1
    have e := Option.some.inj ht
    subst e
    exact rg0 [hE, hE, hE, hE, hE, hS, hS, hS, hS, hN (.pk true), hE] (⟨[(4, pB true)], [], 0⟩) (.cons hg1 (.cons hg1 (.cons hg1 (.cons hg1 (.cons hg1 .nil)))))
   ·replace ht := ite_f ht hg1
    obtain ⟨c2, hc2, ht⟩ := bind_some ht
    obtain ⟨x3, hx3, ht⟩ := bind_some ht
    have e := Option.some.inj ht
    subst e
    exact rg0 [hE, hE, hE, hE, hE, hY, hY, (.y, (.sAt c2)), (.y, (.cal [] (.bool x3) true)), hN (.pk false), hE] (⟨[(4, pB x3)], [], 0⟩) (.cons hg1 (.cons hg1 (.cons hg1 (.cons hc2 (.cons hg1 (.cons (c70 hx3) (.cons hg1 .nil)))))))
  ·clear ht
   refine x_toret ?_
   obtain rfl := Option.some.inj h
   exact ret0 (.bool t4) (.refl _) (fun _ => rfl)

theorem c98 {s_ : Str} {at_ : Int} {r : (Str × Int × Int)} (h : ref22_quoted s_ at_ = some r) : CallOK Tryd.prog 98 [.str s_, .int .i64 at_] (.tup [.str r.1, .int .i64 r.2.1, .int .i64 r.2.2]) true := by
  apply ok98
  unfold ref22_quoted at h
  refine x_rg (rgn [hE, hE, hE] (⟨[(0, pS s_), (1, pI at_)], [], 0⟩)) ?_
  refine x_rg (rgn [hE] (⟨[(0, pS s_), (1, pI at_), (7, pS [])], [], 0⟩)) ?_
  refine x_seq ?_
  refine x_block ?_
  refine kw0 (⟨[(0, pS s_), (1, pI at_), (7, pS [])], [], 0⟩) ?_
  refine x_loop (σ := (Int × Str)) h (fun s => ⟨[(0, pS s_), (1, pI s.1), (7, pS s.2)], [], 0⟩) (by kernel_rfl) ?_ ?_
  ·rintro ⟨at__1, out⟩
   kernel_rfl
  ·rintro ⟨at__1, out⟩ x13 h hx13
   replace h : ref22_quoted_L13 s_ at__1 out = some x13 := h
   unfold ref22_quoted_L13 at h
   refine x_seq ?_
   refine x_rg (rgn [hE, hE, hE, hE] (⟨[(0, pS s_), (1, pI at__1), (7, pS out), (11, pB (decide (at__1 < (List.length s_ : Int))))], [], 0⟩)) ?_
   refine x_cond _ rfl (fun hc14 => ?_) (fun hc14 => ?_)
   ·replace h := ite_t h hc14
    refine kw0 (⟨[(0, pS s_), (1, pI at__1), (7, pS out)], [], 0⟩) ?_
    refine x_skip ?_
    refine x_tn ?_
    refine x_block ?_
    refine x_seq ?_
    obtain ⟨c15, hc15, h⟩ := bind_some h
    refine x_rg (rg0 [hE, hE, hN (.sAt c15), hE] (⟨[(0, pS s_), (1, pI at__1), (7, pS out), (15, pB (!decide ((c15.toNat : Int) = 39)))], [], 0⟩) (.cons hc15 .nil)) ?_
    refine x_cond _ rfl (fun hc16 => ?_) (fun hc16 => ?_)
    ·replace h := ite_t h hc16
     obtain ⟨x17, hx17, h⟩ := bind_some h
     obtain ⟨x18, hx18, h⟩ := bind_some h
     refine x_rg (rg0 [hE, hE, hE, hE, hE, hN (.cutS x17), hN (.cat x18), hE] (⟨[(0, pS s_), (1, pI at__1), (7, pS x18)], [], 0⟩) (.cons hx17 (.cons hx18 .nil))) ?_
     refine x_rg (rgn [hE, hE, hE] (⟨[(0, pS s_), (1, pI (IntKind.wrap .i64 (at__1 + 1))), (7, pS x18)], [], 0⟩)) ?_
     refine kw0 (⟨[(0, pS s_), (1, pI (IntKind.wrap .i64 (at__1 + 1))), (7, pS x18)], [], 0⟩) ?_
     refine x_exit ?_
     refine x_te ?_
     refine x_bh ?_
     refine x_tn ?_
     exact ⟨_, (Option.some.inj h).symm, by kernel_rfl⟩
    ·replace h := ite_f h hc16
     refine kw0 (⟨[(0, pS s_), (1, pI at__1), (7, pS out)], [], 0⟩) ?_
     refine x_skip ?_
     refine x_tn ?_
     refine x_seq ?_
     obtain ⟨t21, ht, h⟩ := bind_some h
     refine x_rg (st2 := ⟨[(0, pS s_), (1, pI at__1), (7, pS out), (36, pB t21)], [], 0⟩) ?_ ?_
     ·rcases Bool.eq_false_or_eq_true (decide ((IntKind.wrap .i64 (at__1 + 1)) = (List.length s_ : Int))) with hg19 | hg19
      ·replace ht := ite_t ht hg19
       have e := Option.some.inj ht
       subst e
       exact rg0 [hE, hE, hE, hE, hE, hE, hS, hS, hS, hS, hS, hN (.pk true)] (⟨[(0, pS s_), (1, pI at__1), (7, pS out), (36, pB true)], [], 0⟩) (.cons hg19 (.cons hg19 (.cons hg19 (.cons hg19 (.cons hg19 (.cons hg19 .nil))))))
      ·replace ht := ite_f ht hg19
       obtain ⟨c20, hc20, ht⟩ := bind_some ht
       have e := Option.some.inj ht
       subst e
       exact rg0 [hE, hE, hE, hE, hE, hE, hY, hY, hY, (.y, (.sAt c20)), hY, hN (.pk false)] (⟨[(0, pS s_), (1, pI at__1), (7, pS out), (36, pB (!decide ((c20.toNat : Int) = 39)))], [], 0⟩) (.cons hg19 (.cons hg19 (.cons hg19 (.cons hg19 (.cons hc20 (.cons hg19 (.cons hg19 .nil)))))))
     ·clear ht
      refine x_cond _ rfl (fun hc22 => ?_) (fun hc22 => ?_)
      ·replace h := ite_t h hc22
       refine x_rg (rgn [hE, hE, hE, hE, hE, hE] (⟨[(4, pS out), (5, pI (IntKind.wrap .i64 (at__1 + 1))), (6, pI 0)], [], 0⟩)) ?_
       refine x_toret ?_
       refine x_tr ?_
       refine x_br ?_
       refine x_tr ?_
       replace h := done_leaf h hx13
       refine x_br ?_
       refine x_tr ?_
       obtain rfl := Option.some.inj h
       exact ret0 (.tup [.str out, .int .i64 (IntKind.wrap .i64 (at__1 + 1)), .int .i64 0]) (.tup (.cons (.refl _) (.cons (.refl _) (.cons (.refl _) .nil)))) (fun _ => rfl)
      ·replace h := ite_f h hc22
       refine kw0 (⟨[(0, pS s_), (1, pI at__1), (7, pS out)], [], 0⟩) ?_
       refine x_skip ?_
       refine x_tn ?_
       obtain ⟨x23, hx23, h⟩ := bind_some h
       refine x_rg (rg0 [hE, hN (.cat x23), hE] (⟨[(0, pS s_), (1, pI at__1), (7, pS x23)], [], 0⟩) (.cons hx23 .nil)) ?_
       refine x_rgt (rgn [hE, hE, hE] (⟨[(0, pS s_), (1, pI (IntKind.wrap .i64 (at__1 + 2))), (7, pS x23)], [], 0⟩)) ?_
       refine x_bn ?_
       refine x_tn ?_
       exact ⟨_, (Option.some.inj h).symm, by kernel_rfl⟩
   ·replace h := ite_f h hc14
    refine kw0 (⟨[(1, pI at__1)], [], 0⟩) ?_
    refine x_exit ?_
    refine x_te ?_
    refine x_te ?_
    replace h := done_leaf h hx13
    refine x_bh ?_
    refine x_tn ?_
    refine x_rg (rgn [hE, hE, hE, hE] (⟨[(4, pS []), (5, pI at__1), (6, pI 48)], [], 0⟩)) ?_
    refine x_toret ?_
    obtain rfl := Option.some.inj h
    exact ret0 (.tup [.str [], .int .i64 at__1, .int .i64 48]) (.tup (.cons (.refl _) (.cons (.refl _) (.cons (.refl _) .nil)))) (fun _ => rfl)

theorem c71 {s_ : Str} {at_ : Int} {r : (api_Attr × Int × Int)} (h : ref22_read s_ at_ = some r) : CallOK Tryd.prog 71 [.str s_, .int .i64 at_] (.tup [enc_api_Attr r.1, .int .i64 r.2.1, .int .i64 r.2.2]) true := by
  apply ok71
  unfold ref22_read at h
  refine x_rg (rgn [hE, hE, hE] (⟨[(0, pS s_), (1, pI at_), (4, .optr 0 0 0)], [(0, some (.p (some 3) [.agg [.str [], .str [], .bool false]]))], 1⟩)) ?_
  refine x_rg (rgn [hE, hE] (⟨[(0, pS s_), (1, pI at_), (4, .optr 0 0 0), (7, pI at_)], [(0, some (.p (some 3) [.agg [.str [], .str [], .bool false]]))], 1⟩)) ?_
  refine x_seq ?_
  refine x_block ?_
  refine kw0 (⟨[(0, pS s_), (1, pI at_), (4, .optr 0 0 0), (7, pI at_)], [(0, some (.p (some 3) [.agg [.str [], .str [], .bool false]]))], 1⟩) ?_
  refine x_loop (σ := Int) h (fun s => ⟨[(0, pS s_), (1, pI s), (4, .optr 0 0 0), (7, pI at_)], [(0, some (.p (some 3) [.agg [.str [], .str [], .bool false]]))], 1⟩) (by kernel_rfl) ?_ ?_
  ·rintro at__1
   kernel_rfl
  ·rintro at__1 x13 h hx13
   replace h : ref22_read_L13 s_ at_ at__1 = some x13 := h
   unfold ref22_read_L13 at h
   refine x_seq ?_
   obtain ⟨t23, ht, h⟩ := bind_some h
   refine x_rg (st2 := ⟨[(0, pS s_), (1, pI at__1), (4, .optr 0 0 0), (7, pI at_), (41, pB t23)], [(0, some (.p (some 3) [.agg [.str [], .str [], .bool false]]))], 1⟩) ?_ ?_
   ·rcases Bool.eq_false_or_eq_true (decide (at__1 < (List.length s_ : Int))) with hg14 | hg14
    ·replace ht := ite_t ht hg14
     obtain ⟨c15, hc15, ht⟩ := bind_some ht
     obtain ⟨x16, hx16, ht⟩ := bind_some ht
     rcases Bool.eq_false_or_eq_true (!x16) with hg17 | hg17
     ·replace ht := ite_t ht hg17
      obtain ⟨c18, hc18, ht⟩ := bind_some ht
      rcases Bool.eq_false_or_eq_true (!decide ((c18.toNat : Int) = 61)) with hg19 | hg19
      ·replace ht := ite_t ht hg19
       obtain ⟨c20, hc20, ht⟩ := bind_some ht
       rcases Bool.eq_false_or_eq_true (!decide ((c20.toNat : Int) = 63)) with hg21 | hg21
       ·replace ht := ite_t ht hg21
        obtain ⟨c22, hc22, ht⟩ := bind_some ht
        have e := Option.some.inj ht
        subst e
        exact rg0 [hE, hE, hE, hE, hE, hY, hY, (.y, (.sAt c15)), (.y, (.cal [] (.bool x16) true)), hY, hN (.pk true), hE, hY, hY, (.y, (.sAt c18)), hY, hN (.pk true), hE, hY, hY, (.y, (.sAt c20)), hY, hN (.pk true), hE, hY, hY, (.y, (.sAt c22)), hY, hN (.pk true)] (⟨[(0, pS s_), (1, pI at__1), (4, .optr 0 0 0), (7, pI at_), (41, pB (!decide ((c22.toNat : Int) = 39)))], [(0, some (.p (some 3) [.agg [.str [], .str [], .bool false]]))], 1⟩) (.cons hg14 (.cons hg14 (.cons hg14 (.cons hc15 (.cons hg14 (.cons (c70 hx16) (.cons hg14 (.cons hg14 (.cons hg17 (.cons hg17 (.cons hg17 (.cons hc18 (.cons hg17 (.cons hg17 (.cons hg19 (.cons hg19 (.cons hg19 (.cons hc20 (.cons hg19 (.cons hg19 (.cons hg21 (.cons hg21 (.cons hg21 (.cons hc22 (.cons hg21 (.cons hg21 .nil))))))))))))))))))))))))))
       ·replace ht := ite_f ht hg21
        have e := Option.some.inj ht
        subst e
        exact rg0 [hE, hE, hE, hE, hE, hY, hY, (.y, (.sAt c15)), (.y, (.cal [] (.bool x16) true)), hY, hN (.pk true), hE, hY, hY, (.y, (.sAt c18)), hY, hN (.pk true), hE, hY, hY, (.y, (.sAt c20)), hY, hN (.pk true), hE, hS, hS, hS, hS, hN (.pk false)] (⟨[(0, pS s_), (1, pI at__1), (4, .optr 0 0 0), (7, pI at_), (41, pB false)], [(0, some (.p (some 3) [.agg [.str [], .str [], .bool false]]))], 1⟩) (.cons hg14 (.cons hg14 (.cons hg14 (.cons hc15 (.cons hg14 (.cons (c70 hx16) (.cons hg14 (.cons hg14 (.cons hg17 (.cons hg17 (.cons hg17 (.cons hc18 (.cons hg17 (.cons hg17 (.cons hg19 (.cons hg19 (.cons hg19 (.cons hc20 (.cons hg19 (.cons hg19 (.cons hg21 (.cons hg21 (.cons hg21 (.cons hg21 (.cons hg21 .nil)))))))))))))))))))))))))
      ·replace ht := ite_f ht hg19
       have e := Option.some.inj ht
       subst e
       exact rg0 (obs := [((decide (at__1 < (List.length s_ : Int))) = true), ((decide (at__1 < (List.length s_ : Int))) = true), ((decide (at__1 < (List.length s_ : Int))) = true), (strAt s_ at__1 = some c15), ((decide (at__1 < (List.length s_ : Int))) = true), (CallOK Tryd.prog 70 [.int .u8 (c15.toNat : Int)] (.bool x16) true), ((decide (at__1 < (List.length s_ : Int))) = true), ((decide (at__1 < (List.length s_ : Int))) = true), ((!x16) = true), ((!x16) = true), ((!x16) = true), (strAt s_ at__1 = some c18), ((!x16) = true), ((!x16) = true), ((!decide ((c18.toNat : Int) = 61)) = false), ((!decide ((c18.toNat : Int) = 61)) = false), ((!decide ((c18.toNat : Int) = 61)) = false), ((!decide ((c18.toNat : Int) = 61)) = false), ((!decide ((c18.toNat : Int) = 61)) = false), (false = false), (false = false), (false = false), (false = false)]) [hE, hE, hE, hE, hE, hY, hY, (.y, (.sAt c15)), (.y, (.cal [] (.bool x16) true)), hY, hN (.pk true), hE, hY, hY, (.y, (.sAt c18)), hY, hN (.pk true), hE, hS, hS, hS, hS, hN (.pk false), hE, hS, hS, hS, hS, hE] (⟨[(0, pS s_), (1, pI at__1), (4, .optr 0 0 0), (7, pI at_), (41, pB false)], [(0, some (.p (some 3) [.agg [.str [], .str [], .bool false]]))], 1⟩) (.cons hg14 (.cons hg14 (.cons hg14 (.cons hc15 (.cons hg14 (.cons (c70 hx16) (.cons hg14 (.cons hg14 (.cons hg17 (.cons hg17 (.cons hg17 (.cons hc18 (.cons hg17 (.cons hg17 (.cons hg19 (.cons hg19 (.cons hg19 (.cons hg19 (.cons hg19 (.cons rfl (.cons rfl (.cons rfl (.cons rfl .nil)))))))))))))))))))))))
     ·replace ht := ite_f ht hg17
      have e := Option.some.inj ht
      subst e
      exact rg0 (obs := [((decide (at__1 < (List.length s_ : Int))) = true), ((decide (at__1 < (List.length s_ : Int))) = true), ((decide (at__1 < (List.length s_ : Int))) = true), (strAt s_ at__1 = some c15), ((decide (at__1 < (List.length s_ : Int))) = true), (CallOK Tryd.prog 70 [.int .u8 (c15.toNat : Int)] (.bool x16) true), ((decide (at__1 < (List.length s_ : Int))) = true), ((decide (at__1 < (List.length s_ : Int))) = true), ((!x16) = false), ((!x16) = false), ((!x16) = false), ((!x16) = false), ((!x16) = false), (false = false), (false = false), (false = false), (false = false), (false = false), (false = false), (false = false), (false = false)]) [hE, hE, hE, hE, hE, hY, hY, (.y, (.sAt c15)), (.y, (.cal [] (.bool x16) true)), hY, hN (.pk true), hE, hS, hS, hS, hS, hN (.pk false), hE, hS, hS, hS, hS, hE, hE, hS, hS, hS, hS, hE] (⟨[(0, pS s_), (1, pI at__1), (4, .optr 0 0 0), (7, pI at_), (41, pB false)], [(0, some (.p (some 3) [.agg [.str [], .str [], .bool false]]))], 1⟩) (.cons hg14 (.cons hg14 (.cons hg14 (.cons hc15 (.cons hg14 (.cons (c70 hx16) (.cons hg14 (.cons hg14 (.cons hg17 (.cons hg17 (.cons hg17 (.cons hg17 (.cons hg17 (.cons rfl (.cons rfl (.cons rfl (.cons rfl (.cons rfl (.cons rfl (.cons rfl (.cons rfl .nil)))))))))))))))))))))
    ·replace ht := ite_f ht hg14
     have e := Option.some.inj ht
     subst e
     exact rg0 (obs := [((decide (at__1 < (List.length s_ : Int))) = false), ((decide (at__1 < (List.length s_ : Int))) = false), ((decide (at__1 < (List.length s_ : Int))) = false), ((decide (at__1 < (List.length s_ : Int))) = false), ((decide (at__1 < (List.length s_ : Int))) = false), ((decide (at__1 < (List.length s_ : Int))) = false), (false = false), (false = false), (false = false), (false = false), (false = false), (false = false), (false = false), (false = false), (false = false), (false = false), (false = false), (false = false)]) [hE, hE, hE, hE, hE, hS, hS, hS, hS, hS, hN (.pk false), hE, hS, hS, hS, hS, hE, hE, hS, hS, hS, hS, hE, hE, hS, hS, hS, hS, hE] (⟨[(0, pS s_), (1, pI at__1), (4, .optr 0 0 0), (7, pI at_), (41, pB false)], [(0, some (.p (some 3) [.agg [.str [], .str [], .bool false]]))], 1⟩) (.cons hg14 (.cons hg14 (.cons hg14 (.cons hg14 (.cons hg14 (.cons hg14 (.cons rfl (.cons rfl (.cons rfl (.cons rfl (.cons rfl (.cons rfl (.cons rfl (.cons rfl (.cons rfl (.cons rfl (.cons rfl (.cons rfl .nil))))))))))))))))))
   ·clear ht
    refine x_cond _ rfl (fun hc24 => ?_) (fun hc24 => ?_)
    ·replace h := ite_t h hc24
     refine kw0 (⟨[(0, pS s_), (1, pI at__1), (4, .optr 0 0 0), (7, pI at_)], [(0, some (.p (some 3) [.agg [.str [], .str [], .bool false]]))], 1⟩) ?_
     refine x_skip ?_
     refine x_tn ?_
     refine x_block ?_
     refine x_rgt (rgn [hE, hE, hE] (⟨[(0, pS s_), (1, pI (IntKind.wrap .i64 (at__1 + 1))), (4, .optr 0 0 0), (7, pI at_)], [(0, some (.p (some 3) [.agg [.str [], .str [], .bool false]]))], 1⟩)) ?_
     refine x_bn ?_
     refine x_tn ?_
     exact ⟨_, (Option.some.inj h).symm, by kernel_rfl⟩
    ·replace h := ite_f h hc24
     refine kw0 (⟨[(0, pS s_), (1, pI at__1), (4, .optr 0 0 0), (7, pI at_)], [(0, some (.p (some 3) [.agg [.str [], .str [], .bool false]]))], 1⟩) ?_
     refine x_exit ?_
     refine x_te ?_
     refine x_te ?_
     replace h := done_map h hx13
     unfold ref22_read_A59 at h
     refine x_bh ?_
     refine x_tn ?_
     obtain ⟨x25, hx25, h⟩ := bind_some h
     refine x_rg (rg0 [hE, hE, hE, hN (.cutS x25), hE, hE, hE] (⟨[(0, pS s_), (1, pI at__1), (4, .optr 0 0 0), (8, .optr 1 0 0)], [(0, some (.p (some 3) [.agg [.str [], .str [], .bool false]])), (1, some (.p (some 3) [.agg [.str x25, .str [], .bool false]]))], 2⟩) (.cons hx25 .nil)) ?_
     refine x_seq ?_
     obtain ⟨t30, ht, h⟩ := bind_some h
     refine x_rg (st2 := ⟨[(0, pS s_), (1, pI at__1), (4, .optr 0 0 0), (8, .optr 1 0 0), (64, pB t30)], [(0, some (.p (some 3) [.agg [.str [], .str [], .bool false]])), (1, some (.p (some 3) [.agg [.str x25, .str [], .bool false]]))], 2⟩) ?_ ?_
     ·rcases Bool.eq_false_or_eq_true (decide (at__1 < (List.length s_ : Int))) with hg26 | hg26
      ·replace ht := ite_t ht hg26
       obtain ⟨c27, hc27, ht⟩ := bind_some ht
       rcases Bool.eq_false_or_eq_true (decide ((c27.toNat : Int) = 63)) with hg28 | hg28
       ·replace ht := ite_t ht hg28
        obtain ⟨x29, hx29, ht⟩ := bind_some ht
        have e := Option.some.inj ht
        subst e
        exact rg0 [hE, hE, hE, hE, hE, hY, hY, (.y, (.sAt c27)), hY, hN (.pk true), hE, hY, hY, hY, (.y, (.cal [] (.bool x29) true)), hN (.pk true)] (⟨[(0, pS s_), (1, pI at__1), (4, .optr 0 0 0), (8, .optr 1 0 0), (64, pB x29)], [(0, some (.p (some 3) [.agg [.str [], .str [], .bool false]])), (1, some (.p (some 3) [.agg [.str x25, .str [], .bool false]]))], 2⟩) (.cons hg26 (.cons hg26 (.cons hg26 (.cons hc27 (.cons hg26 (.cons hg26 (.cons hg28 (.cons hg28 (.cons hg28 (.cons hg28 (.cons (c97 hx29) (.cons hg28 .nil))))))))))))
       ·replace ht := ite_f ht hg28
        have e := Option.some.inj ht
        subst e
        exact rg0 [hE, hE, hE, hE, hE, hY, hY, (.y, (.sAt c27)), hY, hN (.pk true), hE, hS, hS, hS, hS, hN (.pk false)] (⟨[(0, pS s_), (1, pI at__1), (4, .optr 0 0 0), (8, .optr 1 0 0), (64, pB false)], [(0, some (.p (some 3) [.agg [.str [], .str [], .bool false]])), (1, some (.p (some 3) [.agg [.str x25, .str [], .bool false]]))], 2⟩) (.cons hg26 (.cons hg26 (.cons hg26 (.cons hc27 (.cons hg26 (.cons hg26 (.cons hg28 (.cons hg28 (.cons hg28 (.cons hg28 (.cons hg28 .nil)))))))))))
      ·replace ht := ite_f ht hg26
       have e := Option.some.inj ht
       subst e
       exact rg0 (obs := [((decide (at__1 < (List.length s_ : Int))) = false), ((decide (at__1 < (List.length s_ : Int))) = false), ((decide (at__1 < (List.length s_ : Int))) = false), ((decide (at__1 < (List.length s_ : Int))) = false), ((decide (at__1 < (List.length s_ : Int))) = false), (false = false), (false = false), (false = false), (false = false)]) [hE, hE, hE, hE, hE, hS, hS, hS, hS, hN (.pk false), hE, hS, hS, hS, hS, hE] (⟨[(0, pS s_), (1, pI at__1), (4, .optr 0 0 0), (8, .optr 1 0 0), (64, pB false)], [(0, some (.p (some 3) [.agg [.str [], .str [], .bool false]])), (1, some (.p (some 3) [.agg [.str x25, .str [], .bool false]]))], 2⟩) (.cons hg26 (.cons hg26 (.cons hg26 (.cons hg26 (.cons hg26 (.cons rfl (.cons rfl (.cons rfl (.cons rfl .nil)))))))))
     ·clear ht
      refine x_cond _ rfl (fun hc31 => ?_) (fun hc31 => ?_)
      ·replace h := ite_t h hc31
       refine x_rg (rgn [hE, hE] (⟨[(1, pI at__1), (4, .optr 0 0 0), (8, .optr 1 0 0)], [(0, some (.p (some 3) [.agg [.str [], .str [], .bool false]])), (1, some (.p (some 3) [.agg [.str x25, .str [], .bool true]]))], 2⟩)) ?_
       refine x_rg (rgn [hE, hE, hE, hE, hE, hE] (⟨[(4, .optr 0 0 0), (5, pI (IntKind.wrap .i64 (at__1 + 1))), (6, pI 0)], [(0, some (.p (some 3) [.agg [.str x25, .str [], .bool true]]))], 1⟩)) ?_
       refine x_toret ?_
       refine x_tr ?_
       obtain rfl := Option.some.inj h
       exact ret0 (.tup [.agg [.str x25, .str [], .bool true], .int .i64 (IntKind.wrap .i64 (at__1 + 1)), .int .i64 0]) (.tup (.cons (.refl _) (.cons (.refl _) (.cons (.refl _) .nil)))) (fun _ => rfl)
      ·replace h := ite_f h hc31
       refine kw0 (⟨[(0, pS s_), (1, pI at__1), (4, .optr 0 0 0), (8, .optr 1 0 0)], [(0, some (.p (some 3) [.agg [.str [], .str [], .bool false]])), (1, some (.p (some 3) [.agg [.str x25, .str [], .bool false]]))], 2⟩) ?_
       refine x_skip ?_
       refine x_tn ?_
       refine x_seq ?_
       obtain ⟨t34, ht, h⟩ := bind_some h
       refine x_rg (st2 := ⟨[(0, pS s_), (1, pI at__1), (4, .optr 0 0 0), (8, .optr 1 0 0), (78, pB t34)], [(0, some (.p (some 3) [.agg [.str [], .str [], .bool false]])), (1, some (.p (some 3) [.agg [.str x25, .str [], .bool false]]))], 2⟩) ?_ ?_
       ·rcases Bool.eq_false_or_eq_true (decide (at__1 = (List.length s_ : Int))) with hg32 | hg32
        ·replace ht := ite_t ht hg32
         have e := Option.some.inj ht
         subst e
         exact rg0 [hE, hE, hE, hE, hE, hS, hS, hS, hS, hN (.pk true)] (⟨[(0, pS s_), (1, pI at__1), (4, .optr 0 0 0), (8, .optr 1 0 0), (78, pB true)], [(0, some (.p (some 3) [.agg [.str [], .str [], .bool false]])), (1, some (.p (some 3) [.agg [.str x25, .str [], .bool false]]))], 2⟩) (.cons hg32 (.cons hg32 (.cons hg32 (.cons hg32 (.cons hg32 .nil)))))
        ·replace ht := ite_f ht hg32
         obtain ⟨c33, hc33, ht⟩ := bind_some ht
         have e := Option.some.inj ht
         subst e
         exact rg0 [hE, hE, hE, hE, hE, hY, hY, (.y, (.sAt c33)), hY, hN (.pk false)] (⟨[(0, pS s_), (1, pI at__1), (4, .optr 0 0 0), (8, .optr 1 0 0), (78, pB (!decide ((c33.toNat : Int) = 61)))], [(0, some (.p (some 3) [.agg [.str [], .str [], .bool false]])), (1, some (.p (some 3) [.agg [.str x25, .str [], .bool false]]))], 2⟩) (.cons hg32 (.cons hg32 (.cons hg32 (.cons hc33 (.cons hg32 (.cons hg32 .nil))))))
       ·clear ht
        refine x_cond _ rfl (fun hc35 => ?_) (fun hc35 => ?_)
        ·replace h := ite_t h hc35
         refine x_rg (rgn [hE, hE, hE, hE, hE] (⟨[(4, .optr 0 0 0), (5, pI at__1), (6, pI 2)], [(0, some (.p (some 3) [.agg [.str x25, .str [], .bool false]]))], 1⟩)) ?_
         refine x_toret ?_
         refine x_tr ?_
         obtain rfl := Option.some.inj h
         exact ret0 (.tup [.agg [.str x25, .str [], .bool false], .int .i64 at__1, .int .i64 2]) (.tup (.cons (.refl _) (.cons (.refl _) (.cons (.refl _) .nil)))) (fun _ => rfl)
        ·replace h := ite_f h hc35
         refine kw0 (⟨[(0, pS s_), (1, pI at__1), (4, .optr 0 0 0), (8, .optr 1 0 0)], [(0, some (.p (some 3) [.agg [.str [], .str [], .bool false]])), (1, some (.p (some 3) [.agg [.str x25, .str [], .bool false]]))], 2⟩) ?_
         refine x_skip ?_
         refine x_tn ?_
         refine x_rg (rgn [hE, hE, hE] (⟨[(0, pS s_), (1, pI (IntKind.wrap .i64 (at__1 + 1))), (4, .optr 0 0 0), (8, .optr 1 0 0)], [(0, some (.p (some 3) [.agg [.str [], .str [], .bool false]])), (1, some (.p (some 3) [.agg [.str x25, .str [], .bool false]]))], 2⟩)) ?_
         refine x_seq ?_
         obtain ⟨t38, ht, h⟩ := bind_some h
         refine x_rg (st2 := ⟨[(0, pS s_), (1, pI (IntKind.wrap .i64 (at__1 + 1))), (4, .optr 0 0 0), (8, .optr 1 0 0), (92, pB t38)], [(0, some (.p (some 3) [.agg [.str [], .str [], .bool false]])), (1, some (.p (some 3) [.agg [.str x25, .str [], .bool false]]))], 2⟩) ?_ ?_
         ·rcases Bool.eq_false_or_eq_true (decide ((IntKind.wrap .i64 (at__1 + 1)) < (List.length s_ : Int))) with hg36 | hg36
          ·replace ht := ite_t ht hg36
           obtain ⟨c37, hc37, ht⟩ := bind_some ht
           have e := Option.some.inj ht
           subst e
           exact rg0 [hE, hE, hE, hE, hE, hY, hY, (.y, (.sAt c37)), hY, hN (.pk true)] (⟨[(0, pS s_), (1, pI (IntKind.wrap .i64 (at__1 + 1))), (4, .optr 0 0 0), (8, .optr 1 0 0), (92, pB (decide ((c37.toNat : Int) = 39)))], [(0, some (.p (some 3) [.agg [.str [], .str [], .bool false]])), (1, some (.p (some 3) [.agg [.str x25, .str [], .bool false]]))], 2⟩) (.cons hg36 (.cons hg36 (.cons hg36 (.cons hc37 (.cons hg36 (.cons hg36 .nil))))))
          ·replace ht := ite_f ht hg36
           have e := Option.some.inj ht
           subst e
           exact rg0 [hE, hE, hE, hE, hE, hS, hS, hS, hS, hN (.pk false)] (⟨[(0, pS s_), (1, pI (IntKind.wrap .i64 (at__1 + 1))), (4, .optr 0 0 0), (8, .optr 1 0 0), (92, pB false)], [(0, some (.p (some 3) [.agg [.str [], .str [], .bool false]])), (1, some (.p (some 3) [.agg [.str x25, .str [], .bool false]]))], 2⟩) (.cons hg36 (.cons hg36 (.cons hg36 (.cons hg36 (.cons hg36 .nil)))))
         ·clear ht
          refine x_cond _ rfl (fun hc39 => ?_) (fun hc39 => ?_)
          ·replace h := ite_t h hc39
           obtain ⟨x40, hx40, h⟩ := bind_some h
           refine x_rg (rg0 [hE, hE, hE, hN (.cal [] (.tup [.str x40.1, .int .i64 x40.2.1, .int .i64 x40.2.2]) true), hE, hE, hE, hE, hE, hE, hE] (⟨[(0, pS s_), (4, .optr 0 0 0), (8, .optr 1 0 0), (9, pS x40.1), (10, pI x40.2.1), (11, pI x40.2.2)], [(0, some (.p (some 3) [.agg [.str [], .str [], .bool false]])), (1, some (.p (some 3) [.agg [.str x25, .str [], .bool false]]))], 2⟩) (.cons (c98 hx40) .nil)) ?_
           refine x_join (τ := Int) (fun t => ref22_read_K41 x25 x40 t = some r) (fun t => { tm := [(4, .optr 0 0 0), (8, .optr 1 0 0), (9, .pv (.str x40.1)), (10, .pv (.int .i64 x40.2.1)), (11, .pv (.int .i64 t))], hp := [(0, some (.p (some 3) [.agg [.str [], .str [], .bool false]])), (1, some (.p (some 3) [.agg [.str x25, .str [], .bool false]]))], nx := 2 }) ?_ ?_
           ·rintro p42 h
            replace h : ref22_read_K41 x25 x40 p42 = some r := h
            unfold ref22_read_K41 at h
            refine x_rg (rgn [hE, hE, hE] (⟨[(4, .optr 0 0 0), (8, .optr 1 0 0), (10, pI x40.2.1), (11, pI p42)], [(0, some (.p (some 3) [.agg [.str [], .str [], .bool false]])), (1, some (.p (some 3) [.agg [.str x25, .str x40.1, .bool false]]))], 2⟩)) ?_
            refine x_rg (rgn [hE, hE, hE, hE, hE, hE] (⟨[(4, .optr 0 0 0), (5, pI x40.2.1), (6, pI p42)], [(0, some (.p (some 3) [.agg [.str x25, .str x40.1, .bool false]]))], 1⟩)) ?_
            refine x_toret ?_
            refine x_tr ?_
            obtain rfl := Option.some.inj h
            exact ret0 (.tup [.agg [.str x25, .str x40.1, .bool false], .int .i64 x40.2.1, .int .i64 p42]) (.tup (.cons (.refl _) (.cons (.refl _) (.cons (.refl _) .nil)))) (fun _ => rfl)
           ·obtain ⟨t45, ht, h⟩ := bind_some h
            refine x_rg (st2 := ⟨[(4, .optr 0 0 0), (8, .optr 1 0 0), (9, pS x40.1), (10, pI x40.2.1), (11, pI x40.2.2), (108, pB t45)], [(0, some (.p (some 3) [.agg [.str [], .str [], .bool false]])), (1, some (.p (some 3) [.agg [.str x25, .str [], .bool false]]))], 2⟩) ?_ ?_
            ·rcases Bool.eq_false_or_eq_true (decide (x40.2.2 = 0)) with hg43 | hg43
             ·replace ht := ite_t ht hg43
              obtain ⟨x44, hx44, ht⟩ := bind_some ht
              have e := Option.some.inj ht
              subst e
              exact rg0 [hE, hE, hE, hY, hY, (.y, (.cal [] (.bool x44) true)), hY, hN (.pk true)] (⟨[(4, .optr 0 0 0), (8, .optr 1 0 0), (9, pS x40.1), (10, pI x40.2.1), (11, pI x40.2.2), (108, pB (!x44))], [(0, some (.p (some 3) [.agg [.str [], .str [], .bool false]])), (1, some (.p (some 3) [.agg [.str x25, .str [], .bool false]]))], 2⟩) (.cons hg43 (.cons hg43 (.cons hg43 (.cons (c97 hx44) (.cons hg43 (.cons hg43 .nil))))))
             ·replace ht := ite_f ht hg43
              have e := Option.some.inj ht
              subst e
              exact rg0 [hE, hE, hE, hS, hS, hS, hS, hN (.pk false)] (⟨[(4, .optr 0 0 0), (8, .optr 1 0 0), (9, pS x40.1), (10, pI x40.2.1), (11, pI x40.2.2), (108, pB false)], [(0, some (.p (some 3) [.agg [.str [], .str [], .bool false]])), (1, some (.p (some 3) [.agg [.str x25, .str [], .bool false]]))], 2⟩) (.cons hg43 (.cons hg43 (.cons hg43 (.cons hg43 (.cons hg43 .nil)))))
            ·clear ht
             refine x_cond _ rfl (fun hc46 => ?_) (fun hc46 => ?_)
             ·replace h := ite_t h hc46
              refine x_rgt (rgn [hE] (⟨[(4, .optr 0 0 0), (8, .optr 1 0 0), (9, pS x40.1), (10, pI x40.2.1), (11, pI 2)], [(0, some (.p (some 3) [.agg [.str [], .str [], .bool false]])), (1, some (.p (some 3) [.agg [.str x25, .str [], .bool false]]))], 2⟩)) ?_
              refine x_tn ?_
              exact ⟨2, h, by kernel_rfl⟩
             ·replace h := ite_f h hc46
              refine kw0 (⟨[(4, .optr 0 0 0), (8, .optr 1 0 0), (9, pS x40.1), (10, pI x40.2.1), (11, pI x40.2.2)], [(0, some (.p (some 3) [.agg [.str [], .str [], .bool false]])), (1, some (.p (some 3) [.agg [.str x25, .str [], .bool false]]))], 2⟩) ?_
              refine x_skip ?_
              refine x_tn ?_
              exact ⟨x40.2.2, h, by kernel_rfl⟩
          ·replace h := ite_f h hc39
           refine kw0 (⟨[(0, pS s_), (1, pI (IntKind.wrap .i64 (at__1 + 1))), (4, .optr 0 0 0), (8, .optr 1 0 0)], [(0, some (.p (some 3) [.agg [.str [], .str [], .bool false]])), (1, some (.p (some 3) [.agg [.str x25, .str [], .bool false]]))], 2⟩) ?_
           refine x_skip ?_
           refine x_tn ?_
           refine x_rg (rgn [hE, hE] (⟨[(0, pS s_), (1, pI (IntKind.wrap .i64 (at__1 + 1))), (4, .optr 0 0 0), (7, pI (IntKind.wrap .i64 (at__1 + 1))), (8, .optr 1 0 0)], [(0, some (.p (some 3) [.agg [.str [], .str [], .bool false]])), (1, some (.p (some 3) [.agg [.str x25, .str [], .bool false]]))], 2⟩)) ?_
           refine x_seq ?_
           refine x_block ?_
           refine kw0 (⟨[(0, pS s_), (1, pI (IntKind.wrap .i64 (at__1 + 1))), (4, .optr 0 0 0), (7, pI (IntKind.wrap .i64 (at__1 + 1))), (8, .optr 1 0 0)], [(0, some (.p (some 3) [.agg [.str [], .str [], .bool false]])), (1, some (.p (some 3) [.agg [.str x25, .str [], .bool false]]))], 2⟩) ?_
           refine x_loop (σ := Int) h (fun s => ⟨[(0, pS s_), (1, pI s), (4, .optr 0 0 0), (7, pI (IntKind.wrap .i64 (at__1 + 1))), (8, .optr 1 0 0)], [(0, some (.p (some 3) [.agg [.str [], .str [], .bool false]])), (1, some (.p (some 3) [.agg [.str x25, .str [], .bool false]]))], 2⟩) (by kernel_rfl) ?_ ?_
           ·rintro at__2
            kernel_rfl
           ·rintro at__2 x52 h hx52
            replace h : ref22_read_L52 s_ at__1 x25 at__2 = some x52 := h
            unfold ref22_read_L52 at h
            refine x_seq ?_
            obtain ⟨x53, hx53, h⟩ := bind_some h
            refine x_rg (rg0 [hE, hE, hN (.cal [] (.bool x53) true), hE] (⟨[(0, pS s_), (1, pI at__2), (4, .optr 0 0 0), (7, pI (IntKind.wrap .i64 (at__1 + 1))), (8, .optr 1 0 0), (118, pB (!x53))], [(0, some (.p (some 3) [.agg [.str [], .str [], .bool false]])), (1, some (.p (some 3) [.agg [.str x25, .str [], .bool false]]))], 2⟩) (.cons (c97 hx53) .nil)) ?_
            refine x_cond _ rfl (fun hc54 => ?_) (fun hc54 => ?_)
            ·replace h := ite_t h hc54
             refine kw0 (⟨[(0, pS s_), (1, pI at__2), (4, .optr 0 0 0), (7, pI (IntKind.wrap .i64 (at__1 + 1))), (8, .optr 1 0 0)], [(0, some (.p (some 3) [.agg [.str [], .str [], .bool false]])), (1, some (.p (some 3) [.agg [.str x25, .str [], .bool false]]))], 2⟩) ?_
             refine x_skip ?_
             refine x_tn ?_
             refine x_block ?_
             refine x_seq ?_
             obtain ⟨c55, hc55, h⟩ := bind_some h
             refine x_rg (rg0 [hE, hE, hN (.sAt c55), hE] (⟨[(0, pS s_), (1, pI at__2), (4, .optr 0 0 0), (7, pI (IntKind.wrap .i64 (at__1 + 1))), (8, .optr 1 0 0), (122, pB (decide ((c55.toNat : Int) = 39)))], [(0, some (.p (some 3) [.agg [.str [], .str [], .bool false]])), (1, some (.p (some 3) [.agg [.str x25, .str [], .bool false]]))], 2⟩) (.cons hc55 .nil)) ?_
             refine x_cond _ rfl (fun hc56 => ?_) (fun hc56 => ?_)
             ·replace h := ite_t h hc56
              refine x_rg (rgn [hE, hE, hE, hE, hE] (⟨[(4, .optr 0 0 0), (5, pI at__2), (6, pI 2)], [(0, some (.p (some 3) [.agg [.str x25, .str [], .bool false]]))], 1⟩)) ?_
              refine x_toret ?_
              refine x_tr ?_
              refine x_br ?_
              refine x_tr ?_
              replace h := done_leaf h hx52
              refine x_br ?_
              refine x_tr ?_
              obtain rfl := Option.some.inj h
              exact ret0 (.tup [.agg [.str x25, .str [], .bool false], .int .i64 at__2, .int .i64 2]) (.tup (.cons (.refl _) (.cons (.refl _) (.cons (.refl _) .nil)))) (fun _ => rfl)
             ·replace h := ite_f h hc56
              refine kw0 (⟨[(0, pS s_), (1, pI at__2), (4, .optr 0 0 0), (7, pI (IntKind.wrap .i64 (at__1 + 1))), (8, .optr 1 0 0)], [(0, some (.p (some 3) [.agg [.str [], .str [], .bool false]])), (1, some (.p (some 3) [.agg [.str x25, .str [], .bool false]]))], 2⟩) ?_
              refine x_skip ?_
              refine x_tn ?_
              refine x_rgt (rgn [hE, hE, hE] (⟨[(0, pS s_), (1, pI (IntKind.wrap .i64 (at__2 + 1))), (4, .optr 0 0 0), (7, pI (IntKind.wrap .i64 (at__1 + 1))), (8, .optr 1 0 0)], [(0, some (.p (some 3) [.agg [.str [], .str [], .bool false]])), (1, some (.p (some 3) [.agg [.str x25, .str [], .bool false]]))], 2⟩)) ?_
              refine x_bn ?_
              refine x_tn ?_
              exact ⟨_, (Option.some.inj h).symm, by kernel_rfl⟩
            ·replace h := ite_f h hc54
             refine kw0 (⟨[(0, pS s_), (1, pI at__2), (4, .optr 0 0 0), (7, pI (IntKind.wrap .i64 (at__1 + 1))), (8, .optr 1 0 0)], [(0, some (.p (some 3) [.agg [.str [], .str [], .bool false]])), (1, some (.p (some 3) [.agg [.str x25, .str [], .bool false]]))], 2⟩) ?_
             refine x_exit ?_
             refine x_te ?_
             refine x_te ?_
             replace h := done_map h hx52
             unfold ref22_read_A58 at h
             refine x_bh ?_
             refine x_tn ?_
             obtain ⟨x57, hx57, h⟩ := bind_some h
             refine x_rg (rg0 [hE, hE, hE, hN (.cutS x57), hE, hE] (⟨[(1, pI at__2), (4, .optr 0 0 0), (8, .optr 1 0 0)], [(0, some (.p (some 3) [.agg [.str [], .str [], .bool false]])), (1, some (.p (some 3) [.agg [.str x25, .str x57, .bool false]]))], 2⟩) (.cons hx57 .nil)) ?_
             refine x_rg (rgn [hE, hE, hE, hE, hE] (⟨[(4, .optr 0 0 0), (5, pI at__2), (6, pI 0)], [(0, some (.p (some 3) [.agg [.str x25, .str x57, .bool false]]))], 1⟩)) ?_
             refine x_toret ?_
             obtain rfl := Option.some.inj h
             exact ret0 (.tup [.agg [.str x25, .str x57, .bool false], .int .i64 at__2, .int .i64 0]) (.tup (.cons (.refl _) (.cons (.refl _) (.cons (.refl _) .nil)))) (fun _ => rfl)

theorem c108 {name : Str} {r : Bool} (h : ref22_Secret name = some r) : CallOK Tryd.prog 108 [.str name] (.bool r) true := by
  apply ok108
  unfold ref22_Secret at h
  refine x_rg (rgn [hE] (⟨[(0, pS name)], [], 0⟩)) ?_
  obtain ⟨t3, ht, h⟩ := bind_some h
  refine x_rg (st2 := ⟨[(2, pB t3)], [], 0⟩) ?_ ?_
  ·rcases Bool.eq_false_or_eq_true (decide (0 < (List.length name : Int))) with hg1 | hg1
   ·replace ht := ite_t ht hg1
    obtain ⟨c2, hc2, ht⟩ := bind_some ht
    have e := Option.some.inj ht
    subst e
    exact rg0 [hE, hE, hE, hE, hY, (.y, (.sAt c2)), hY, hN (.pk true), hE] (⟨[(2, pB (decide ((c2.toNat : Int) = 33)))], [], 0⟩) (.cons hg1 (.cons hg1 (.cons hc2 (.cons hg1 (.cons hg1 .nil)))))
   ·replace ht := ite_f ht hg1
    have e := Option.some.inj ht
    subst e
    exact rg0 [hE, hE, hE, hE, hS, hS, hS, hN (.pk false), hE] (⟨[(2, pB false)], [], 0⟩) (.cons hg1 (.cons hg1 (.cons hg1 (.cons hg1 .nil))))
  ·clear ht
   refine x_toret ?_
   obtain rfl := Option.some.inj h
   exact ret0 (.bool t3) (.refl _) (fun _ => rfl)

theorem c86 {s_ : Str} {r : Bool} (h : ref22_Name s_ = some r) : CallOK Tryd.prog 86 [.str s_] (.bool r) true := by
  apply ok86
  unfold ref22_Name at h
  refine x_rg (rgn [hE] (⟨[(0, pS s_)], [], 0⟩)) ?_
  refine x_join (τ := Str) (fun t => ref22_Name_K1 t = some r) (fun t => { tm := [(0, .pv (.str t))], hp := [], nx := 0 }) ?_ ?_
  ·rintro p2 h
   replace h : ref22_Name_K1 p2 = some r := h
   unfold ref22_Name_K1 at h
   refine x_seq ?_
   refine x_rg (rgn [hE] (⟨[(0, pS p2), (3, pI 0)], [], 0⟩)) ?_
   refine x_block ?_
   refine kw0 (⟨[(0, pS p2), (3, pI 0)], [], 0⟩) ?_
   refine x_loop (σ := Int) h (fun s => ⟨[(0, pS p2), (3, pI s)], [], 0⟩) (by kernel_rfl) ?_ ?_
   ·rintro i
    kernel_rfl
   ·rintro i x12 h hx12
    replace h : ref22_Name_L12 p2 i = some x12 := h
    unfold ref22_Name_L12 at h
    refine x_seq ?_
    refine x_rg (rgn [hE, hE, hE, hE] (⟨[(0, pS p2), (3, pI i), (12, pB (decide (i < (List.length p2 : Int))))], [], 0⟩)) ?_
    refine x_cond _ rfl (fun hc13 => ?_) (fun hc13 => ?_)
    ·replace h := ite_t h hc13
     refine kw0 (⟨[(0, pS p2), (3, pI i)], [], 0⟩) ?_
     refine x_skip ?_
     refine x_tn ?_
     refine x_seq ?_
     refine x_block ?_
     obtain ⟨c14, hc14, h⟩ := bind_some h
     obtain ⟨t17, ht, h⟩ := bind_some h
     refine x_rg (st2 := ⟨[(0, pS p2), (3, pI i), (4, pB t17)], [], 0⟩) ?_ ?_
     ·rcases Bool.eq_false_or_eq_true (decide (97 ≤ (c14.toNat : Int))) with hg15 | hg15
      ·replace ht := ite_t ht hg15
       obtain ⟨c16, hc16, ht⟩ := bind_some ht
       have e := Option.some.inj ht
       subst e
       exact rg0 [hE, hE, hN (.sAt c14), hE, hE, hY, hY, (.y, (.sAt c16)), hY, hN (.pk true), hE] (⟨[(0, pS p2), (3, pI i), (4, pB (decide ((c16.toNat : Int) ≤ 122)))], [], 0⟩) (.cons hc14 (.cons hg15 (.cons hg15 (.cons hg15 (.cons hc16 (.cons hg15 (.cons hg15 .nil)))))))
      ·replace ht := ite_f ht hg15
       have e := Option.some.inj ht
       subst e
       exact rg0 [hE, hE, hN (.sAt c14), hE, hE, hS, hS, hS, hS, hN (.pk false), hE] (⟨[(0, pS p2), (3, pI i), (4, pB false)], [], 0⟩) (.cons hc14 (.cons hg15 (.cons hg15 (.cons hg15 (.cons hg15 (.cons hg15 .nil))))))
     ·clear ht
      obtain ⟨t30, ht, h⟩ := bind_some h
      refine x_rg (st2 := ⟨[(0, pS p2), (3, pI i), (55, pB t30)], [], 0⟩) ?_ ?_
      ·rcases Bool.eq_false_or_eq_true (!t17) with hg18 | hg18
       ·replace ht := ite_t ht hg18
        rcases Bool.eq_false_or_eq_true (decide (i = 0)) with hg19 | hg19
        ·replace ht := ite_t ht hg19
         have e := Option.some.inj ht
         subst e
         exact rg0 [hE, hE, hE, hY, hY, hY, hS, hS, hS, hS, hS, (.u, .e), (.u, .e), (.u, .e), (.u, .e), hS, hS, (.u, .e), (.u, .e), (.u, .e), (.u, .e), hS, hS, (.u, .e), (.u, .e), (.u, .e), (.u, .e), hS, hS, (.y, (.pk true)), hN (.pk true)] (⟨[(0, pS p2), (3, pI i), (55, pB true)], [], 0⟩) (.cons hg18 (.cons hg18 (.cons hg18 (.cons hg19 (.cons hg19 (.cons hg19 (.cons hg19 (.cons hg19 (.cons hg19 (.cons hg19 (.cons hg19 (.cons hg19 (.cons hg19 (.cons hg19 (.cons hg18 (.cons hg19 (.cons hg18 .nil)))))))))))))))))
        ·replace ht := ite_f ht hg19
         obtain ⟨c20, hc20, ht⟩ := bind_some ht
         rcases Bool.eq_false_or_eq_true (decide (48 ≤ (c20.toNat : Int))) with hg21 | hg21
         ·replace ht := ite_t ht hg21
          obtain ⟨c22, hc22, ht⟩ := bind_some ht
          rcases Bool.eq_false_or_eq_true (decide ((c22.toNat : Int) ≤ 57)) with hg23 | hg23
          ·replace ht := ite_t ht hg23
           have e := Option.some.inj ht
           subst e
           exact rg0 [hE, hE, hE, hY, hY, hY, hY, hY, (.y, (.sAt c20)), hY, hY, hY, hY, (.y, (.sAt c22)), hY, (.y, (.pk true)), hY, hS, hS, hS, hS, (.y, (.pk true)), hY, hS, hS, hS, hS, hY, hY, (.y, (.pk false)), hN (.pk true)] (⟨[(0, pS p2), (3, pI i), (55, pB false)], [], 0⟩) (.cons hg18 (.cons hg18 (.cons hg18 (.cons hg19 (.cons hg19 (.cons hg19 (.cons hc20 (.cons hg19 (.cons hg19 (.cons hg21 (.cons hg21 (.cons hg21 (.cons hc22 (.cons hg21 (.cons hg19 (.cons hg21 (.cons hg19 (.cons hg23 (.cons hg23 (.cons hg23 (.cons hg23 (.cons hg19 (.cons hg23 (.cons hg19 (.cons tt (.cons tt (.cons tt (.cons tt (.cons hg19 (.cons hg19 (.cons hg18 (.cons hg19 (.cons hg18 .nil)))))))))))))))))))))))))))))))))
          ·replace ht := ite_f ht hg23
           obtain ⟨c24, hc24, ht⟩ := bind_some ht
           rcases Bool.eq_false_or_eq_true (decide ((c24.toNat : Int) = 45)) with hg25 | hg25
           ·replace ht := ite_t ht hg25
            have e := Option.some.inj ht
            subst e
            exact rg0 [hE, hE, hE, hY, hY, hY, hY, hY, (.y, (.sAt c20)), hY, hY, hY, hY, (.y, (.sAt c22)), hY, (.y, (.pk true)), hY, hY, hY, (.y, (.sAt c24)), hY, (.y, (.pk false)), hY, hS, hS, hS, hS, (.y, (.pk true)), hY, (.y, (.pk false)), hN (.pk true)] (⟨[(0, pS p2), (3, pI i), (55, pB false)], [], 0⟩) (.cons hg18 (.cons hg18 (.cons hg18 (.cons hg19 (.cons hg19 (.cons hg19 (.cons hc20 (.cons hg19 (.cons hg19 (.cons hg21 (.cons hg21 (.cons hg21 (.cons hc22 (.cons hg21 (.cons hg19 (.cons hg21 (.cons hg19 (.cons hg23 (.cons hg23 (.cons hg23 (.cons hc24 (.cons hg23 (.cons hg19 (.cons hg23 (.cons hg19 (.cons hg25 (.cons hg25 (.cons hg25 (.cons hg25 (.cons hg19 (.cons hg25 (.cons hg19 (.cons hg18 (.cons hg19 (.cons hg18 .nil)))))))))))))))))))))))))))))))))))
           ·replace ht := ite_f ht hg25
            obtain ⟨c26, hc26, ht⟩ := bind_some ht
            have e := Option.some.inj ht
            subst e
            exact rg0 [hE, hE, hE, hY, hY, hY, hY, hY, (.y, (.sAt c20)), hY, hY, hY, hY, (.y, (.sAt c22)), hY, (.y, (.pk true)), hY, hY, hY, (.y, (.sAt c24)), hY, (.y, (.pk false)), hY, hY, hY, (.y, (.sAt c26)), hY, (.y, (.pk false)), hY, (.y, (.pk false)), hN (.pk true)] (⟨[(0, pS p2), (3, pI i), (55, pB (!(decide ((c26.toNat : Int) = 95))))], [], 0⟩) (.cons hg18 (.cons hg18 (.cons hg18 (.cons hg19 (.cons hg19 (.cons hg19 (.cons hc20 (.cons hg19 (.cons hg19 (.cons hg21 (.cons hg21 (.cons hg21 (.cons hc22 (.cons hg21 (.cons hg19 (.cons hg21 (.cons hg19 (.cons hg23 (.cons hg23 (.cons hg23 (.cons hc24 (.cons hg23 (.cons hg19 (.cons hg23 (.cons hg19 (.cons hg25 (.cons hg25 (.cons hg25 (.cons hc26 (.cons hg25 (.cons hg19 (.cons hg25 (.cons hg19 (.cons hg18 (.cons hg19 (.cons hg18 .nil))))))))))))))))))))))))))))))))))))
         ·replace ht := ite_f ht hg21
          obtain ⟨c27, hc27, ht⟩ := bind_some ht
          rcases Bool.eq_false_or_eq_true (decide ((c27.toNat : Int) = 45)) with hg28 | hg28
          ·replace ht := ite_t ht hg28
           have e := Option.some.inj ht
           subst e
           exact rg0 (obs := [((!t17) = true), ((!t17) = true), ((!t17) = true), ((decide (i = 0)) = false), ((decide (i = 0)) = false), ((decide (i = 0)) = false), (strAt p2 i = some c20), ((decide (i = 0)) = false), ((decide (i = 0)) = false), ((decide (48 ≤ (c20.toNat : Int))) = false), ((decide (48 ≤ (c20.toNat : Int))) = false), ((decide (48 ≤ (c20.toNat : Int))) = false), ((decide (48 ≤ (c20.toNat : Int))) = false), ((decide (i = 0)) = false), ((decide (48 ≤ (c20.toNat : Int))) = false), ((decide (i = 0)) = false), (false = false), (false = false), (false = false), (strAt p2 i = some c27), (false = false), ((decide (i = 0)) = false), ((decide (i = 0)) = false), ((decide ((c27.toNat : Int) = 45)) = true), ((decide ((c27.toNat : Int) = 45)) = true), ((decide ((c27.toNat : Int) = 45)) = true), ((decide ((c27.toNat : Int) = 45)) = true), ((decide (i = 0)) = false), ((decide ((c27.toNat : Int) = 45)) = true), ((decide (i = 0)) = false), ((!t17) = true), ((decide (i = 0)) = false), ((!t17) = true)]) [hE, hE, hE, hY, hY, hY, hY, hY, (.y, (.sAt c20)), hY, hY, hS, hS, hS, hS, (.y, (.pk false)), hY, hY, hY, (.y, (.sAt c27)), hY, hY, hY, hS, hS, hS, hS, (.y, (.pk true)), hY, (.y, (.pk false)), hN (.pk true)] (⟨[(0, pS p2), (3, pI i), (55, pB false)], [], 0⟩) (.cons hg18 (.cons hg18 (.cons hg18 (.cons hg19 (.cons hg19 (.cons hg19 (.cons hc20 (.cons hg19 (.cons hg19 (.cons hg21 (.cons hg21 (.cons hg21 (.cons hg21 (.cons hg19 (.cons hg21 (.cons hg19 (.cons rfl (.cons rfl (.cons rfl (.cons hc27 (.cons rfl (.cons hg19 (.cons hg19 (.cons hg28 (.cons hg28 (.cons hg28 (.cons hg28 (.cons hg19 (.cons hg28 (.cons hg19 (.cons hg18 (.cons hg19 (.cons hg18 .nil)))))))))))))))))))))))))))))))))
          ·replace ht := ite_f ht hg28
           obtain ⟨c29, hc29, ht⟩ := bind_some ht
           have e := Option.some.inj ht
           subst e
           exact rg0 (obs := [((!t17) = true), ((!t17) = true), ((!t17) = true), ((decide (i = 0)) = false), ((decide (i = 0)) = false), ((decide (i = 0)) = false), (strAt p2 i = some c20), ((decide (i = 0)) = false), ((decide (i = 0)) = false), ((decide (48 ≤ (c20.toNat : Int))) = false), ((decide (48 ≤ (c20.toNat : Int))) = false), ((decide (48 ≤ (c20.toNat : Int))) = false), ((decide (48 ≤ (c20.toNat : Int))) = false), ((decide (i = 0)) = false), ((decide (48 ≤ (c20.toNat : Int))) = false), ((decide (i = 0)) = false), (false = false), (false = false), (false = false), (strAt p2 i = some c27), (false = false), ((decide (i = 0)) = false), ((decide (i = 0)) = false), ((decide ((c27.toNat : Int) = 45)) = false), ((decide ((c27.toNat : Int) = 45)) = false), ((decide ((c27.toNat : Int) = 45)) = false), (strAt p2 i = some c29), ((decide ((c27.toNat : Int) = 45)) = false), ((decide (i = 0)) = false), ((decide ((c27.toNat : Int) = 45)) = false), ((decide (i = 0)) = false), ((!t17) = true), ((decide (i = 0)) = false), ((!t17) = true)]) [hE, hE, hE, hY, hY, hY, hY, hY, (.y, (.sAt c20)), hY, hY, hS, hS, hS, hS, (.y, (.pk false)), hY, hY, hY, (.y, (.sAt c27)), hY, hY, hY, hY, hY, (.y, (.sAt c29)), hY, (.y, (.pk false)), hY, (.y, (.pk false)), hN (.pk true)] (⟨[(0, pS p2), (3, pI i), (55, pB (!(decide ((c29.toNat : Int) = 95))))], [], 0⟩) (.cons hg18 (.cons hg18 (.cons hg18 (.cons hg19 (.cons hg19 (.cons hg19 (.cons hc20 (.cons hg19 (.cons hg19 (.cons hg21 (.cons hg21 (.cons hg21 (.cons hg21 (.cons hg19 (.cons hg21 (.cons hg19 (.cons rfl (.cons rfl (.cons rfl (.cons hc27 (.cons rfl (.cons hg19 (.cons hg19 (.cons hg28 (.cons hg28 (.cons hg28 (.cons hc29 (.cons hg28 (.cons hg19 (.cons hg28 (.cons hg19 (.cons hg18 (.cons hg19 (.cons hg18 .nil))))))))))))))))))))))))))))))))))
       ·replace ht := ite_f ht hg18
        have e := Option.some.inj ht
        subst e
        exact rg0 [hE, hE, hE, hS, hS, hS, (.u, .e), (.u, .e), (.u, .e), (.u, .e), (.u, .e), (.u, .e), (.u, .e), (.u, .e), (.u, .e), (.u, .e), (.u, .e), (.u, .e), (.u, .e), (.u, .e), (.u, .e), (.u, .e), (.u, .e), (.u, .e), (.u, .e), (.u, .e), (.u, .e), (.u, .e), (.u, .e), hS, hN (.pk false)] (⟨[(0, pS p2), (3, pI i), (55, pB false)], [], 0⟩) (.cons hg18 (.cons hg18 (.cons hg18 (.cons hg18 (.cons hg18 .nil)))))
      ·clear ht
       refine x_cond _ rfl (fun hc31 => ?_) (fun hc31 => ?_)
       ·replace h := ite_t h hc31
        refine x_rg (rgn [hE] (⟨[(2, pB false)], [], 0⟩)) ?_
        refine x_toret ?_
        refine x_br ?_
        refine x_tr ?_
        refine x_tr ?_
        replace h := done_leaf h hx12
        refine x_br ?_
        refine x_tr ?_
        obtain rfl := Option.some.inj h
        exact ret0 (.bool false) (.refl _) (fun _ => rfl)
       ·replace h := ite_f h hc31
        refine kw0 (⟨[(0, pS p2), (3, pI i)], [], 0⟩) ?_
        refine x_skip ?_
        refine x_bn ?_
        refine x_tn ?_
        refine x_rgt (rgn [hE, hE, hE] (⟨[(0, pS p2), (3, pI (IntKind.wrap .i64 (i + 1)))], [], 0⟩)) ?_
        refine x_tn ?_
        exact ⟨_, (Option.some.inj h).symm, by kernel_rfl⟩
    ·replace h := ite_f h hc13
     refine kw0 (⟨[(0, pS p2)], [], 0⟩) ?_
     refine x_exit ?_
     refine x_te ?_
     refine x_te ?_
     replace h := done_leaf h hx12
     refine x_bh ?_
     refine x_tn ?_
     refine x_rg (st2 := ⟨[(2, pB ((decide (1 ≤ (List.length p2 : Int))) && (decide ((List.length p2 : Int) ≤ 32))))], [], 0⟩) ?_ ?_
     ·rcases Bool.eq_false_or_eq_true (decide (1 ≤ (List.length p2 : Int))) with hg32 | hg32
      ·exact rg [hE, hE, hE, hE, hY, hY, hY, hN (.pk true), hE] (⟨[(2, pB (decide ((List.length p2 : Int) ≤ 32)))], [], 0⟩) (.cons hg32 (.cons hg32 (.cons hg32 (.cons hg32 .nil)))) (.of_eq (by simp only [hg32, bs, reduceIte]))
      ·exact rg [hE, hE, hE, hE, hS, hS, hS, hN (.pk false), hE] (⟨[(2, pB false)], [], 0⟩) (.cons hg32 (.cons hg32 (.cons hg32 (.cons hg32 .nil)))) (.of_eq (by simp only [hg32, bs, reduceIte]))
     ·refine x_toret ?_
      obtain rfl := Option.some.inj h
      exact ret0 (.bool ((decide (1 ≤ (List.length p2 : Int))) && (decide ((List.length p2 : Int) ≤ 32)))) (.refl _) (fun _ => rfl)
  ·obtain ⟨x34, hx34, h⟩ := bind_some h
   refine x_rg (rg0 [hE, hN (.cal [] (.bool x34) true)] (⟨[(0, pS s_), (6, pB x34)], [], 0⟩) (.cons (c108 hx34) .nil)) ?_
   refine x_cond _ rfl (fun hc35 => ?_) (fun hc35 => ?_)
   ·replace h := ite_t h hc35
    obtain ⟨x36, hx36, h⟩ := bind_some h
    refine x_rgt (rg0 [hE, hN (.cutS x36), hE] (⟨[(0, pS x36)], [], 0⟩) (.cons hx36 .nil)) ?_
    refine x_tn ?_
    exact ⟨x36, h, by kernel_rfl⟩
   ·replace h := ite_f h hc35
    refine kw0 (⟨[(0, pS s_)], [], 0⟩) ?_
    refine x_skip ?_
    refine x_tn ?_
    exact ⟨s_, h, by kernel_rfl⟩

theorem c87 {s_ : Str} {r : Bool} (h : ref22_plain s_ = some r) : CallOK Tryd.prog 87 [.str s_] (.bool r) true := by
  apply ok87
  unfold ref22_plain at h
  refine x_rg (rgn [hE] (⟨[(0, pS s_)], [], 0⟩)) ?_
  refine x_seq ?_
  refine x_rg (rgn [hE] (⟨[(0, pS s_), (3, pI 0)], [], 0⟩)) ?_
  refine x_block ?_
  refine kw0 (⟨[(0, pS s_), (3, pI 0)], [], 0⟩) ?_
  refine x_loop (σ := Int) h (fun s => ⟨[(0, pS s_), (3, pI s)], [], 0⟩) (by kernel_rfl) ?_ ?_
  ·rintro i
   kernel_rfl
  ·rintro i x10 h hx10
   replace h : ref22_plain_L10 s_ i = some x10 := h
   unfold ref22_plain_L10 at h
   refine x_seq ?_
   refine x_rg (rgn [hE, hE, hE, hE] (⟨[(0, pS s_), (3, pI i), (7, pB (decide (i < (List.length s_ : Int))))], [], 0⟩)) ?_
   refine x_cond _ rfl (fun hc11 => ?_) (fun hc11 => ?_)
   ·replace h := ite_t h hc11
    refine kw0 (⟨[(0, pS s_), (3, pI i)], [], 0⟩) ?_
    refine x_skip ?_
    refine x_tn ?_
    refine x_seq ?_
    refine x_block ?_
    obtain ⟨c12, hc12, h⟩ := bind_some h
    obtain ⟨t17, ht, h⟩ := bind_some h
    refine x_rg (st2 := ⟨[(0, pS s_), (3, pI i), (25, pB t17)], [], 0⟩) ?_ ?_
    ·rcases Bool.eq_false_or_eq_true (decide ((c12.toNat : Int) = 0)) with hg13 | hg13
     ·replace ht := ite_t ht hg13
      have e := Option.some.inj ht
      subst e
      exact rg0 [hE, hE, hN (.sAt c12), hE, hE, hS, hS, hS, hS, hN (.pk true), hE, hS, hS, hS, hS, hE] (⟨[(0, pS s_), (3, pI i), (25, pB true)], [], 0⟩) (.cons hc12 (.cons hg13 (.cons hg13 (.cons hg13 (.cons hg13 (.cons hg13 (.cons tt (.cons tt (.cons tt (.cons tt .nil))))))))))
     ·replace ht := ite_f ht hg13
      obtain ⟨c14, hc14, ht⟩ := bind_some ht
      rcases Bool.eq_false_or_eq_true (decide ((c14.toNat : Int) = 10)) with hg15 | hg15
      ·replace ht := ite_t ht hg15
       have e := Option.some.inj ht
       subst e
       exact rg0 [hE, hE, hN (.sAt c12), hE, hE, hY, hY, (.y, (.sAt c14)), hY, hN (.pk false), hE, hS, hS, hS, hS, hN (.pk true)] (⟨[(0, pS s_), (3, pI i), (25, pB true)], [], 0⟩) (.cons hc12 (.cons hg13 (.cons hg13 (.cons hg13 (.cons hc14 (.cons hg13 (.cons hg13 (.cons hg15 (.cons hg15 (.cons hg15 (.cons hg15 (.cons hg15 .nil))))))))))))
      ·replace ht := ite_f ht hg15
       obtain ⟨c16, hc16, ht⟩ := bind_some ht
       have e := Option.some.inj ht
       subst e
       exact rg0 [hE, hE, hN (.sAt c12), hE, hE, hY, hY, (.y, (.sAt c14)), hY, hN (.pk false), hE, hY, hY, (.y, (.sAt c16)), hY, hN (.pk false)] (⟨[(0, pS s_), (3, pI i), (25, pB (decide ((c16.toNat : Int) = 13)))], [], 0⟩) (.cons hc12 (.cons hg13 (.cons hg13 (.cons hg13 (.cons hc14 (.cons hg13 (.cons hg13 (.cons hg15 (.cons hg15 (.cons hg15 (.cons hc16 (.cons hg15 (.cons hg15 .nil)))))))))))))
    ·clear ht
     refine x_cond _ rfl (fun hc18 => ?_) (fun hc18 => ?_)
     ·replace h := ite_t h hc18
      refine x_rg (rgn [hE] (⟨[(2, pB false)], [], 0⟩)) ?_
      refine x_toret ?_
      refine x_br ?_
      refine x_tr ?_
      refine x_tr ?_
      replace h := done_leaf h hx10
      refine x_br ?_
      refine x_tr ?_
      obtain rfl := Option.some.inj h
      exact ret0 (.bool false) (.refl _) (fun _ => rfl)
     ·replace h := ite_f h hc18
      refine kw0 (⟨[(0, pS s_), (3, pI i)], [], 0⟩) ?_
      refine x_skip ?_
      refine x_bn ?_
      refine x_tn ?_
      refine x_rgt (rgn [hE, hE, hE] (⟨[(0, pS s_), (3, pI (IntKind.wrap .i64 (i + 1)))], [], 0⟩)) ?_
      refine x_tn ?_
      exact ⟨_, (Option.some.inj h).symm, by kernel_rfl⟩
   ·replace h := ite_f h hc11
    refine kw0 (⟨[], [], 0⟩) ?_
    refine x_exit ?_
    refine x_te ?_
    refine x_te ?_
    replace h := done_leaf h hx10
    refine x_bh ?_
    refine x_tn ?_
    refine x_rg (rgn [hE] (⟨[(2, pB true)], [], 0⟩)) ?_
    refine x_toret ?_
    obtain rfl := Option.some.inj h
    exact ret0 (.bool true) (.refl _) (fun _ => rfl)

theorem c61 {before : (List api_Attr)} {a : api_Attr} {r : Int} (h : ref22_one before a = some r) : CallOK Tryd.prog 61 [.sl (some 3) (List.map enc_api_Attr before), enc_api_Attr a] (.int .i64 r) true := by
  apply ok61
  unfold ref22_one at h
  refine x_rg (rgn [hE, hE] (⟨[(0, pL (some 3) enc_api_Attr before), (3, .optr 0 0 0)], [(0, some (.p (some 3) [enc_api_Attr a]))], 1⟩)) ?_
  refine x_seq ?_
  refine x_block ?_
  refine x_rg (rg0 [hE, hN (.len (List.length before : Int)), hE, hE] (⟨[(0, pL (some 3) enc_api_Attr before), (3, .optr 0 0 0), (6, pB (decide (32 ≤ (List.length before : Int))))], [(0, some (.p (some 3) [enc_api_Attr a]))], 1⟩) (.cons (lenM enc_api_Attr before) .nil)) ?_
  refine x_cond _ rfl (fun hc1 => ?_) (fun hc1 => ?_)
  ·replace h := ite_t h hc1
   refine x_rg (rgn [hE] (⟨[(4, pI 22)], [], 0⟩)) ?_
   refine x_toret ?_
   refine x_br ?_
   refine x_tr ?_
   obtain rfl := Option.some.inj h
   exact ret0 (.int .i64 22) (.refl _) (fun _ => rfl)
  ·replace h := ite_f h hc1
   obtain ⟨x2, hx2, h⟩ := bind_some h
   refine x_rg (rg0 [hE, hE, hN (.cal [] (.bool x2) true), hE, hE] (⟨[(0, pL (some 3) enc_api_Attr before), (3, .optr 0 0 0), (10, pB (!x2))], [(0, some (.p (some 3) [enc_api_Attr a]))], 1⟩) (.cons (c86 hx2) .nil)) ?_
   refine x_cond _ rfl (fun hc3 => ?_) (fun hc3 => ?_)
   ·replace h := ite_t h hc3
    refine x_rg (rgn [hE] (⟨[(4, pI 6)], [], 0⟩)) ?_
    refine x_toret ?_
    refine x_br ?_
    refine x_tr ?_
    obtain rfl := Option.some.inj h
    exact ret0 (.int .i64 6) (.refl _) (fun _ => rfl)
   ·replace h := ite_f h hc3
    obtain ⟨t8, ht, h⟩ := bind_some h
    refine x_rg (st2 := ⟨[(0, pL (some 3) enc_api_Attr before), (3, .optr 0 0 0), (15, pB t8)], [(0, some (.p (some 3) [enc_api_Attr a]))], 1⟩) ?_ ?_
    ·rcases Bool.eq_false_or_eq_true a.Query with hg4 | hg4
     ·replace ht := ite_t ht hg4
      rcases Bool.eq_false_or_eq_true (!decide (a.Value = [])) with hg5 | hg5
      ·replace ht := ite_t ht hg5
       have e := Option.some.inj ht
       subst e
       exact rg0 [hE, hE, hE, hY, hY, hY, hN (.pk true), hE, hS, hS, hS, hS, hN (.pk true), hE] (⟨[(0, pL (some 3) enc_api_Attr before), (3, .optr 0 0 0), (15, pB true)], [(0, some (.p (some 3) [enc_api_Attr a]))], 1⟩) (.cons hg4 (.cons hg4 (.cons hg4 (.cons hg4 (.cons hg5 (.cons hg5 (.cons hg5 (.cons hg5 (.cons hg5 .nil)))))))))
      ·replace ht := ite_f ht hg5
       obtain ⟨x6, hx6, ht⟩ := bind_some ht
       have e := Option.some.inj ht
       subst e
       exact rg0 [hE, hE, hE, hY, hY, hY, hN (.pk true), hE, hY, hY, (.y, (.cal [] (.bool x6) true)), hY, hN (.pk false), hE] (⟨[(0, pL (some 3) enc_api_Attr before), (3, .optr 0 0 0), (15, pB (!x6))], [(0, some (.p (some 3) [enc_api_Attr a]))], 1⟩) (.cons hg4 (.cons hg4 (.cons hg4 (.cons hg4 (.cons hg5 (.cons hg5 (.cons hg5 (.cons (c87 hx6) (.cons hg5 (.cons hg5 .nil))))))))))
     ·replace ht := ite_f ht hg4
      obtain ⟨x7, hx7, ht⟩ := bind_some ht
      have e := Option.some.inj ht
      subst e
      exact rg0 (obs := [(a.Query = false), (a.Query = false), (a.Query = false), (a.Query = false), (false = false), (false = false), (false = false), (CallOK Tryd.prog 87 [.str a.Value] (.bool x7) true), (false = false)]) [hE, hE, hE, hS, hS, hS, hN (.pk false), hE, hY, hY, (.y, (.cal [] (.bool x7) true)), hY, hE, hE] (⟨[(0, pL (some 3) enc_api_Attr before), (3, .optr 0 0 0), (15, pB (!x7))], [(0, some (.p (some 3) [enc_api_Attr a]))], 1⟩) (.cons hg4 (.cons hg4 (.cons hg4 (.cons hg4 (.cons rfl (.cons rfl (.cons rfl (.cons (c87 hx7) (.cons rfl .nil)))))))))
    ·clear ht
     refine x_cond _ rfl (fun hc9 => ?_) (fun hc9 => ?_)
     ·replace h := ite_t h hc9
      refine x_rg (rgn [hE] (⟨[(4, pI 2)], [], 0⟩)) ?_
      refine x_toret ?_
      refine x_br ?_
      refine x_tr ?_
      obtain rfl := Option.some.inj h
      exact ret0 (.int .i64 2) (.refl _) (fun _ => rfl)
     ·replace h := ite_f h hc9
      refine x_rg (rgn [hE, hE, hE, hE, hE] (⟨[(0, pL (some 3) enc_api_Attr before), (3, .optr 0 0 0), (29, pB (decide (1024 < (List.length a.Value : Int))))], [(0, some (.p (some 3) [enc_api_Attr a]))], 1⟩)) ?_
      refine x_cond _ rfl (fun hc10 => ?_) (fun hc10 => ?_)
      ·replace h := ite_t h hc10
       refine x_rg (rgn [hE] (⟨[(4, pI 4)], [], 0⟩)) ?_
       refine x_toret ?_
       refine x_br ?_
       refine x_tr ?_
       obtain rfl := Option.some.inj h
       exact ret0 (.int .i64 4) (.refl _) (fun _ => rfl)
      ·replace h := ite_f h hc10
       refine kw0 (⟨[(0, pL (some 3) enc_api_Attr before), (3, .optr 0 0 0)], [(0, some (.p (some 3) [enc_api_Attr a]))], 1⟩) ?_
       refine x_skip ?_
       refine x_bn ?_
       refine x_tn ?_
       refine x_seq ?_
       refine x_rg (rgn [hE] (⟨[(0, pL (some 3) enc_api_Attr before), (3, .optr 0 0 0), (5, pI 0)], [(0, some (.p (some 3) [enc_api_Attr a]))], 1⟩)) ?_
       refine x_block ?_
       refine kw0 (⟨[(0, pL (some 3) enc_api_Attr before), (3, .optr 0 0 0), (5, pI 0)], [(0, some (.p (some 3) [enc_api_Attr a]))], 1⟩) ?_
       refine x_loop (σ := Int) h (fun s => ⟨[(0, pL (some 3) enc_api_Attr before), (3, .optr 0 0 0), (5, pI s)], [(0, some (.p (some 3) [enc_api_Attr a]))], 1⟩) (by kernel_rfl) ?_ ?_
       ·rintro i
        kernel_rfl
       ·rintro i x15 h hx15
        replace h : ref22_one_L15 before a i = some x15 := h
        unfold ref22_one_L15 at h
        refine x_seq ?_
        refine x_rg (rg0 [hE, hE, hN (.len (List.length before : Int)), hE] (⟨[(0, pL (some 3) enc_api_Attr before), (3, .optr 0 0 0), (5, pI i), (37, pB (decide (i < (List.length before : Int))))], [(0, some (.p (some 3) [enc_api_Attr a]))], 1⟩) (.cons (lenM enc_api_Attr before) .nil)) ?_
        refine x_cond _ rfl (fun hc16 => ?_) (fun hc16 => ?_)
        ·replace h := ite_t h hc16
         refine kw0 (⟨[(0, pL (some 3) enc_api_Attr before), (3, .optr 0 0 0), (5, pI i)], [(0, some (.p (some 3) [enc_api_Attr a]))], 1⟩) ?_
         refine x_skip ?_
         refine x_tn ?_
         refine x_seq ?_
         refine x_block ?_
         obtain ⟨x17, hx17, h⟩ := bind_some h
         refine x_rg (rg0 [hE, hE, hN (.pAt (enc_api_Attr x17)), hE, hE, hE, hE, hE] (⟨[(0, pL (some 3) enc_api_Attr before), (3, .optr 0 0 0), (5, pI i), (47, pB (decide (x17.Name = a.Name)))], [(0, some (.p (some 3) [enc_api_Attr a]))], 1⟩) (.cons (lsAt_map (f := enc_api_Attr) hx17) .nil)) ?_
         refine x_cond _ rfl (fun hc18 => ?_) (fun hc18 => ?_)
         ·replace h := ite_t h hc18
          refine x_rg (rgn [hE] (⟨[(4, pI 7)], [], 0⟩)) ?_
          refine x_toret ?_
          refine x_br ?_
          refine x_tr ?_
          refine x_tr ?_
          replace h := done_leaf h hx15
          refine x_br ?_
          refine x_tr ?_
          obtain rfl := Option.some.inj h
          exact ret0 (.int .i64 7) (.refl _) (fun _ => rfl)
         ·replace h := ite_f h hc18
          refine kw0 (⟨[(0, pL (some 3) enc_api_Attr before), (3, .optr 0 0 0), (5, pI i)], [(0, some (.p (some 3) [enc_api_Attr a]))], 1⟩) ?_
          refine x_skip ?_
          refine x_bn ?_
          refine x_tn ?_
          refine x_rgt (rgn [hE, hE, hE] (⟨[(0, pL (some 3) enc_api_Attr before), (3, .optr 0 0 0), (5, pI (IntKind.wrap .i64 (i + 1)))], [(0, some (.p (some 3) [enc_api_Attr a]))], 1⟩)) ?_
          refine x_tn ?_
          exact ⟨_, (Option.some.inj h).symm, by kernel_rfl⟩
        ·replace h := ite_f h hc16
         refine kw0 (⟨[], [], 0⟩) ?_
         refine x_exit ?_
         refine x_te ?_
         refine x_te ?_
         replace h := done_leaf h hx15
         refine x_bh ?_
         refine x_tn ?_
         refine x_rg (rgn [hE] (⟨[(4, pI 0)], [], 0⟩)) ?_
         refine x_toret ?_
         obtain rfl := Option.some.inj h
         exact ret0 (.int .i64 0) (.refl _) (fun _ => rfl)

theorem c39 {s_ : Str} {r : ((List api_Attr) × Int × Int)} (h : ref22_Parse s_ = some r) : CallOK Tryd.prog 39 [.str s_] (.tup [.usl (some 3) (List.map enc_api_Attr r.1), .int .i64 r.2.1, .int .i64 r.2.2]) true := by
  apply ok39
  unfold ref22_Parse at h
  refine x_rg (rgn [hE, hE, hE] (⟨[(0, pS s_)], [], 0⟩)) ?_
  refine x_rg (st2 := { tm := [(0, .pv (.str s_)), (5, .osl 0 0 (List.map enc_api_Attr ([] : List api_Attr)).length)], hp := [(0, some (.p (some 3) (List.map enc_api_Attr ([] : List api_Attr))))], nx := 1 }) (rg [hE] ({ tm := [(0, .pv (.str s_)), (5, .pv (.nilsl))], hp := [], nx := 0 }) .nil ((Sub.keep (ks := [0, 5]) (st := ownSt 5 (some 3) ({ tm := [(0, .pv (.str s_)), (5, .pv (.nilsl))], hp := [], nx := 0 })) (st' := { tm := [(0, .pv (.str s_)), (5, .osl 0 0 (List.map enc_api_Attr ([] : List api_Attr)).length)], hp := [(0, some (.p (some 3) (List.map enc_api_Attr ([] : List api_Attr))))], nx := 1 }) (by kernel_rfl)).trans (own_sound 5 (some 3) ({ tm := [(0, .pv (.str s_)), (5, .pv (.nilsl))], hp := [], nx := 0 })))) ?_
  refine x_rg (rgn [hE] (⟨[(0, pS s_), (5, oL 0 enc_api_Attr ([] : List api_Attr)), (6, pI 0)], [(0, rL (some 3) enc_api_Attr ([] : List api_Attr))], 1⟩)) ?_
  refine x_block ?_
  refine kw0 (⟨[(0, pS s_), (5, oL 0 enc_api_Attr ([] : List api_Attr)), (6, pI 0)], [(0, rL (some 3) enc_api_Attr ([] : List api_Attr))], 1⟩) ?_
  refine x_loop (σ := (Int × (List api_Attr))) h (fun s => ⟨[(0, pS s_), (5, oL 0 enc_api_Attr s.2), (6, pI s.1)], [(0, rL (some 3) enc_api_Attr s.2)], 1⟩) (by kernel_rfl) ?_ ?_
  ·rintro ⟨at_, out⟩
   kernel_rfl
  ·rintro ⟨at_, out⟩ x24 h hx24
   replace h : ref22_Parse_L24 s_ at_ out = some x24 := h
   unfold ref22_Parse_L24 at h
   refine x_block ?_
   refine x_seq ?_
   refine x_block ?_
   refine kw0 (⟨[(0, pS s_), (5, oL 0 enc_api_Attr out), (6, pI at_)], [(0, rL (some 3) enc_api_Attr out)], 1⟩) ?_
   refine x_loop (σ := Int) h (fun s => ⟨[(0, pS s_), (5, oL 0 enc_api_Attr out), (6, pI s)], [(0, rL (some 3) enc_api_Attr out)], 1⟩) (by kernel_rfl) ?_ ?_
   ·rintro at__1
    kernel_rfl
   ·rintro at__1 x31 h hx31
    replace h : ref22_Parse_L31 s_ out at__1 = some x31 := h
    unfold ref22_Parse_L31 at h
    refine x_seq ?_
    obtain ⟨t35, ht, h⟩ := bind_some h
    refine x_rg (st2 := ⟨[(0, pS s_), (5, oL 0 enc_api_Attr out), (6, pI at__1), (19, pB t35)], [(0, rL (some 3) enc_api_Attr out)], 1⟩) ?_ ?_
    ·rcases Bool.eq_false_or_eq_true (decide (at__1 < (List.length s_ : Int))) with hg32 | hg32
     ·replace ht := ite_t ht hg32
      obtain ⟨c33, hc33, ht⟩ := bind_some ht
      obtain ⟨x34, hx34, ht⟩ := bind_some ht
      have e := Option.some.inj ht
      subst e
      exact rg0 [hE, hE, hE, hE, hE, hY, hY, (.y, (.sAt c33)), (.y, (.cal [] (.bool x34) true)), hN (.pk true)] (⟨[(0, pS s_), (5, oL 0 enc_api_Attr out), (6, pI at__1), (19, pB x34)], [(0, rL (some 3) enc_api_Attr out)], 1⟩) (.cons hg32 (.cons hg32 (.cons hg32 (.cons hc33 (.cons hg32 (.cons (c70 hx34) (.cons hg32 .nil)))))))
     ·replace ht := ite_f ht hg32
      have e := Option.some.inj ht
      subst e
      exact rg0 [hE, hE, hE, hE, hE, hS, hS, hS, hS, hN (.pk false)] (⟨[(0, pS s_), (5, oL 0 enc_api_Attr out), (6, pI at__1), (19, pB false)], [(0, rL (some 3) enc_api_Attr out)], 1⟩) (.cons hg32 (.cons hg32 (.cons hg32 (.cons hg32 (.cons hg32 .nil)))))
    ·clear ht
     refine x_cond _ rfl (fun hc36 => ?_) (fun hc36 => ?_)
     ·replace h := ite_t h hc36
      refine kw0 (⟨[(0, pS s_), (5, oL 0 enc_api_Attr out), (6, pI at__1)], [(0, rL (some 3) enc_api_Attr out)], 1⟩) ?_
      refine x_skip ?_
      refine x_tn ?_
      refine x_block ?_
      refine x_rgt (rgn [hE, hE, hE] (⟨[(0, pS s_), (5, oL 0 enc_api_Attr out), (6, pI (IntKind.wrap .i64 (at__1 + 1)))], [(0, rL (some 3) enc_api_Attr out)], 1⟩)) ?_
      refine x_bn ?_
      refine x_tn ?_
      exact ⟨_, (Option.some.inj h).symm, by kernel_rfl⟩
     ·replace h := ite_f h hc36
      refine kw0 (⟨[(0, pS s_), (5, oL 0 enc_api_Attr out), (6, pI at__1)], [(0, rL (some 3) enc_api_Attr out)], 1⟩) ?_
      refine x_exit ?_
      refine x_te ?_
      refine x_te ?_
      replace h := done_map h hx31
      unfold ref22_Parse_A45 at h
      refine x_bh ?_
      refine x_tn ?_
      refine x_seq ?_
      refine x_rg (rgn [hE, hE, hE, hE] (⟨[(0, pS s_), (5, oL 0 enc_api_Attr out), (6, pI at__1), (25, pB (decide (at__1 = (List.length s_ : Int))))], [(0, rL (some 3) enc_api_Attr out)], 1⟩)) ?_
      refine x_cond _ rfl (fun hc37 => ?_) (fun hc37 => ?_)
      ·replace h := ite_t h hc37
       refine x_rg (rgn [hE, hE, hE, hE] (⟨[(2, oL 0 enc_api_Attr out), (3, pI 0), (4, pI 0)], [(0, rL (some 3) enc_api_Attr out)], 1⟩)) ?_
       refine x_toret ?_
       refine x_tr ?_
       refine x_br ?_
       refine x_tr ?_
       replace h := done_leaf h hx24
       refine x_br ?_
       obtain rfl := Option.some.inj h
       exact x_ret (.tup [.usl (some 3) (List.take (List.map enc_api_Attr out).length (List.map enc_api_Attr out)), .int .i64 0, .int .i64 0]) [0] [(List.map enc_api_Attr out).length ≤ List.length (List.map enc_api_Attr out)] (by kernel_rfl) (.cons (Nat.le_refl _) .nil) (by decide) (.tup (.cons (.of_eq (by rw [List.take_length])) (.cons (.refl _) (.cons (.refl _) .nil)))) (fun _ => tup_ns (.cons (usl_ns (sh := (some 3)) (fun _ => rfl)) (.cons rfl (.cons rfl .nil))))
      ·replace h := ite_f h hc37
       refine kw0 (⟨[(0, pS s_), (5, oL 0 enc_api_Attr out), (6, pI at__1)], [(0, rL (some 3) enc_api_Attr out)], 1⟩) ?_
       refine x_skip ?_
       refine x_tn ?_
       obtain ⟨x38, hx38, h⟩ := bind_some h
       refine x_rg (rg0 [hE, hE, hN (.cal [] (.tup [enc_api_Attr x38.1, .int .i64 x38.2.1, .int .i64 x38.2.2]) true), hE, hE, hE, hE, hE, hE, hE, hE] (⟨[(0, pS s_), (5, oL 0 enc_api_Attr out), (6, pI at__1), (7, .optr 1 0 0), (8, pI x38.2.1), (9, pI x38.2.2)], [(0, rL (some 3) enc_api_Attr out), (1, some (.p (some 3) [enc_api_Attr x38.1]))], 2⟩) (.cons (c71 hx38) .nil)) ?_
       refine x_join (τ := Int) (fun t => ref22_Parse_K39 out at__1 x38 t = some x24) (fun t => { tm := [(0, .pv (.str s_)), (5, .osl 0 0 (List.map enc_api_Attr out).length), (6, .pv (.int .i64 at__1)), (7, .optr 1 0 0), (8, .pv (.int .i64 x38.2.1)), (9, .pv (.int .i64 t))], hp := [(0, some (.p (some 3) (List.map enc_api_Attr out))), (1, some (.p (some 3) [enc_api_Attr x38.1]))], nx := 2 }) ?_ ?_
       ·rintro p40 h
        replace h : ref22_Parse_K39 out at__1 x38 p40 = some x24 := h
        unfold ref22_Parse_K39 at h
        refine x_seq ?_
        refine x_rg (rgn [hE, hE] (⟨[(0, pS s_), (5, oL 0 enc_api_Attr out), (6, pI at__1), (7, .optr 1 0 0), (8, pI x38.2.1), (9, pI p40), (40, pB (!decide (p40 = 0)))], [(0, rL (some 3) enc_api_Attr out), (1, some (.p (some 3) [enc_api_Attr x38.1]))], 2⟩)) ?_
        refine x_cond _ rfl (fun hc41 => ?_) (fun hc41 => ?_)
        ·replace h := ite_t h hc41
         refine x_rg (rgn [hE, hE, hE, hE, hE] (⟨[(2, .pv (.nilsl)), (3, pI at__1), (4, pI p40)], [], 0⟩)) ?_
         refine x_toret ?_
         refine x_tr ?_
         refine x_br ?_
         refine x_tr ?_
         replace h := done_leaf h hx24
         refine x_br ?_
         obtain rfl := Option.some.inj h
         exact ret0 (.tup [.nilsl, .int .i64 at__1, .int .i64 p40]) (.tup (.cons (.nilUsl _) (.cons (.refl _) (.cons (.refl _) .nil)))) (fun _ => tup_ns (.cons (usl_ns (sh := (some 3)) (fun _ => rfl)) (.cons rfl (.cons rfl .nil))))
        ·replace h := ite_f h hc41
         refine kw0 (⟨[(0, pS s_), (5, oL 0 enc_api_Attr out), (7, .optr 1 0 0), (8, pI x38.2.1)], [(0, rL (some 3) enc_api_Attr out), (1, some (.p (some 3) [enc_api_Attr x38.1]))], 2⟩) ?_
         refine x_skip ?_
         refine x_tn ?_
         obtain ⟨x42, hx42, h⟩ := bind_some h
         refine x_rg (rg0 (obs := [(List.take (List.map enc_api_Attr out).length (List.map enc_api_Attr out) ++ List.take 1 (List.drop 0 ([enc_api_Attr x38.1] : List PV)) = (List.map enc_api_Attr x42)), (List.length (List.map enc_api_Attr x42) * 40 ≤ 140737488355328), (List.length (List.map enc_api_Attr x42) ≤ 9223372036854775807), ((List.map enc_api_Attr out).length ≤ List.length (List.map enc_api_Attr out)), (0 + 1 ≤ List.length ([enc_api_Attr x38.1] : List PV))]) [hE, hE, hE, hN (.app (List.map enc_api_Attr x42)), hE] (⟨[(0, pS s_), (5, oL 0 enc_api_Attr x42), (8, pI x38.2.1)], [(0, rL (some 3) enc_api_Attr x42)], 1⟩) (.cons (app_ob hx42 (.all _) (.rfl _)) (.cons (by rw [List.length_map]; exact (appL_ok hx42).2.1) (.cons (by rw [List.length_map]; exact (appL_ok hx42).2.2) (.cons (Nat.le_refl _) (.cons (by simp) .nil)))))) ?_
         refine x_rgt (rgn [hE, hE] (⟨[(0, pS s_), (5, oL 0 enc_api_Attr x42), (6, pI x38.2.1)], [(0, rL (some 3) enc_api_Attr x42)], 1⟩)) ?_
         refine x_bn ?_
         refine x_tn ?_
         exact ⟨_, (Option.some.inj h).symm, by kernel_rfl⟩
       ·refine x_rg (rgn [hE, hE] (⟨[(0, pS s_), (5, oL 0 enc_api_Attr out), (6, pI at__1), (7, .optr 1 0 0), (8, pI x38.2.1), (9, pI x38.2.2), (35, pB (decide (x38.2.2 = 0)))], [(0, rL (some 3) enc_api_Attr out), (1, some (.p (some 3) [enc_api_Attr x38.1]))], 2⟩)) ?_
        refine x_cond _ rfl (fun hc43 => ?_) (fun hc43 => ?_)
        ·replace h := ite_t h hc43
         obtain ⟨x44, hx44, h⟩ := bind_some h
         refine x_rgt (rg0 (obs := [(LesA [.sl (some 3) (List.take (List.map enc_api_Attr out).length (List.drop 0 (List.map enc_api_Attr out))), enc_api_Attr x38.1] [.sl (some 3) (List.map enc_api_Attr out), enc_api_Attr x38.1]), (CallOK Tryd.prog 61 [.sl (some 3) (List.map enc_api_Attr out), enc_api_Attr x38.1] (.int .i64 x44) true), (0 + (List.map enc_api_Attr out).length ≤ List.length (List.map enc_api_Attr out))]) [hE, hE, hN (.call [] [.sl (some 3) (List.map enc_api_Attr out), enc_api_Attr x38.1] (.int .i64 x44) true), hE] (⟨[(0, pS s_), (5, oL 0 enc_api_Attr out), (6, pI at__1), (7, .optr 1 0 0), (8, pI x38.2.1), (9, pI x44)], [(0, rL (some 3) enc_api_Attr out), (1, some (.p (some 3) [enc_api_Attr x38.1]))], 2⟩) (.cons (.cons (.of_eq (by rw [List.drop_zero, List.take_length])) (.cons (.refl _) .nil)) (.cons (c61 hx44) (.cons (by simp) .nil)))) ?_
         refine x_tn ?_
         exact ⟨x44, h, by kernel_rfl⟩
        ·replace h := ite_f h hc43
         refine kw0 (⟨[(0, pS s_), (5, oL 0 enc_api_Attr out), (6, pI at__1), (7, .optr 1 0 0), (8, pI x38.2.1), (9, pI x38.2.2)], [(0, rL (some 3) enc_api_Attr out), (1, some (.p (some 3) [enc_api_Attr x38.1]))], 2⟩) ?_
         refine x_skip ?_
         refine x_tn ?_
         exact ⟨x38.2.2, h, by kernel_rfl⟩

theorem c40 {l : (List api_Attr)} {r : Bool} (h : ref27_asks l = some r) : CallOK Tryd.prog 40 [.sl (some 3) (List.map enc_api_Attr l)] (.bool r) true := by
  apply ok40
  unfold ref27_asks at h
  refine x_rg (rgn [hE] (⟨[(0, pL (some 3) enc_api_Attr l)], [], 0⟩)) ?_
  refine x_seq ?_
  refine x_rg (rgn [hE] (⟨[(0, pL (some 3) enc_api_Attr l), (3, pI 0)], [], 0⟩)) ?_
  refine x_block ?_
  refine kw0 (⟨[(0, pL (some 3) enc_api_Attr l), (3, pI 0)], [], 0⟩) ?_
  refine x_loop (σ := Int) h (fun s => ⟨[(0, pL (some 3) enc_api_Attr l), (3, pI s)], [], 0⟩) (by kernel_rfl) ?_ ?_
  ·rintro i
   kernel_rfl
  ·rintro i x5 h hx5
   replace h : ref27_asks_L5 l i = some x5 := h
   unfold ref27_asks_L5 at h
   refine x_seq ?_
   refine x_rg (rg0 [hE, hE, hN (.len (List.length l : Int)), hE] (⟨[(0, pL (some 3) enc_api_Attr l), (3, pI i), (7, pB (decide (i < (List.length l : Int))))], [], 0⟩) (.cons (lenM enc_api_Attr l) .nil)) ?_
   refine x_cond _ rfl (fun hc6 => ?_) (fun hc6 => ?_)
   ·replace h := ite_t h hc6
    refine kw0 (⟨[(0, pL (some 3) enc_api_Attr l), (3, pI i)], [], 0⟩) ?_
    refine x_skip ?_
    refine x_tn ?_
    refine x_seq ?_
    refine x_block ?_
    obtain ⟨x7, hx7, h⟩ := bind_some h
    refine x_rg (rg0 [hE, hE, hN (.pAt (enc_api_Attr x7)), hE, hE] (⟨[(0, pL (some 3) enc_api_Attr l), (3, pI i), (14, pB x7.Query)], [], 0⟩) (.cons (lsAt_map (f := enc_api_Attr) hx7) .nil)) ?_
    refine x_cond _ rfl (fun hc8 => ?_) (fun hc8 => ?_)
    ·replace h := ite_t h hc8
     refine x_rg (rgn [hE] (⟨[(2, pB true)], [], 0⟩)) ?_
     refine x_toret ?_
     refine x_br ?_
     refine x_tr ?_
     refine x_tr ?_
     replace h := done_leaf h hx5
     refine x_br ?_
     refine x_tr ?_
     obtain rfl := Option.some.inj h
     exact ret0 (.bool true) (.refl _) (fun _ => rfl)
    ·replace h := ite_f h hc8
     refine kw0 (⟨[(0, pL (some 3) enc_api_Attr l), (3, pI i)], [], 0⟩) ?_
     refine x_skip ?_
     refine x_bn ?_
     refine x_tn ?_
     refine x_rgt (rgn [hE, hE, hE] (⟨[(0, pL (some 3) enc_api_Attr l), (3, pI (IntKind.wrap .i64 (i + 1)))], [], 0⟩)) ?_
     refine x_tn ?_
     exact ⟨_, (Option.some.inj h).symm, by kernel_rfl⟩
   ·replace h := ite_f h hc6
    refine kw0 (⟨[], [], 0⟩) ?_
    refine x_exit ?_
    refine x_te ?_
    refine x_te ?_
    replace h := done_leaf h hx5
    refine x_bh ?_
    refine x_tn ?_
    refine x_rg (rgn [hE] (⟨[(2, pB false)], [], 0⟩)) ?_
    refine x_toret ?_
    obtain rfl := Option.some.inj h
    exact ret0 (.bool false) (.refl _) (fun _ => rfl)

theorem c30 {l : (List api_Attr)} {r : Int} (h : ref22_Check l = some r) : CallOK Tryd.prog 30 [.sl (some 3) (List.map enc_api_Attr l)] (.int .i64 r) true := by
  apply ok30
  unfold ref22_Check at h
  refine x_rg (rgn [hE] (⟨[(0, pL (some 3) enc_api_Attr l)], [], 0⟩)) ?_
  refine x_seq ?_
  refine x_rg (rgn [hE] (⟨[(0, pL (some 3) enc_api_Attr l), (3, pI 0)], [], 0⟩)) ?_
  refine x_block ?_
  refine kw0 (⟨[(0, pL (some 3) enc_api_Attr l), (3, pI 0)], [], 0⟩) ?_
  refine x_loop (σ := Int) h (fun s => ⟨[(0, pL (some 3) enc_api_Attr l), (3, pI s)], [], 0⟩) (by kernel_rfl) ?_ ?_
  ·rintro i
   kernel_rfl
  ·rintro i x7 h hx7
   replace h : ref22_Check_L7 l i = some x7 := h
   unfold ref22_Check_L7 at h
   refine x_seq ?_
   refine x_rg (rg0 [hE, hE, hN (.len (List.length l : Int)), hE] (⟨[(0, pL (some 3) enc_api_Attr l), (3, pI i), (8, pB (decide (i < (List.length l : Int))))], [], 0⟩) (.cons (lenM enc_api_Attr l) .nil)) ?_
   refine x_cond _ rfl (fun hc8 => ?_) (fun hc8 => ?_)
   ·replace h := ite_t h hc8
    refine kw0 (⟨[(0, pL (some 3) enc_api_Attr l), (3, pI i)], [], 0⟩) ?_
    refine x_skip ?_
    refine x_tn ?_
    refine x_seq ?_
    refine x_block ?_
    obtain ⟨x9, hx9, h⟩ := bind_some h
    obtain ⟨x10, hx10, h⟩ := bind_some h
    obtain ⟨x11, hx11, h⟩ := bind_some h
    refine x_rg (rg0 (obs := [(cut (List.map enc_api_Attr l) 0 i = some (List.map enc_api_Attr x9)), (lsAt (List.map enc_api_Attr l) i = some (enc_api_Attr x10)), (CallOK Tryd.prog 61 [.sl (some 3) (List.map enc_api_Attr x9), enc_api_Attr x10] (.int .i64 x11) true)]) [hE, hE, hN (.cutP (List.map enc_api_Attr x9)), hE, hE, hN (.pAt (enc_api_Attr x10)), hE, hN (.cal [] (.int .i64 x11) true), hE] (⟨[(0, pL (some 3) enc_api_Attr l), (3, pI i), (4, pI x11)], [], 0⟩) (.cons (cut_map hx9) (.cons (lsAt_map hx10) (.cons (c61 hx11) .nil)))) ?_
    refine x_rg (rgn [hE, hE] (⟨[(0, pL (some 3) enc_api_Attr l), (3, pI i), (4, pI x11), (20, pB (!decide (x11 = 0)))], [], 0⟩)) ?_
    refine x_cond _ rfl (fun hc12 => ?_) (fun hc12 => ?_)
    ·replace h := ite_t h hc12
     refine x_rg (rgn [hE, hE] (⟨[(2, pI x11)], [], 0⟩)) ?_
     refine x_toret ?_
     refine x_br ?_
     refine x_tr ?_
     refine x_tr ?_
     replace h := done_leaf h hx7
     refine x_br ?_
     refine x_tr ?_
     obtain rfl := Option.some.inj h
     exact ret0 (.int .i64 x11) (.refl _) (fun _ => rfl)
    ·replace h := ite_f h hc12
     refine kw0 (⟨[(0, pL (some 3) enc_api_Attr l), (3, pI i)], [], 0⟩) ?_
     refine x_skip ?_
     refine x_bn ?_
     refine x_tn ?_
     refine x_rgt (rgn [hE, hE, hE] (⟨[(0, pL (some 3) enc_api_Attr l), (3, pI (IntKind.wrap .i64 (i + 1)))], [], 0⟩)) ?_
     refine x_tn ?_
     exact ⟨_, (Option.some.inj h).symm, by kernel_rfl⟩
   ·replace h := ite_f h hc8
    refine kw0 (⟨[], [], 0⟩) ?_
    refine x_exit ?_
    refine x_te ?_
    refine x_te ?_
    replace h := done_leaf h hx7
    refine x_bh ?_
    refine x_tn ?_
    refine x_rg (rgn [hE] (⟨[(2, pI 0)], [], 0⟩)) ?_
    refine x_toret ?_
    obtain rfl := Option.some.inj h
    exact ret0 (.int .i64 0) (.refl _) (fun _ => rfl)

theorem c17 {s_ : Str} {r : ((List api_Entry) × Int × Int)} (h : ref27_Db s_ = some r) : CallOK Tryd.prog 17 [.str s_] (.tup [.usl (some 1) (List.map enc_api_Entry r.1), .int .i64 r.2.1, .int .i64 r.2.2]) false := by
  apply ok17
  unfold ref27_Db at h
  refine x_rg (rgn [hE, hE, hE] (⟨[(0, pS s_)], [], 0⟩)) ?_
  refine x_rg (st2 := { tm := [(0, .pv (.str s_)), (5, .osl 0 0 (List.map enc_api_Entry ([] : List api_Entry)).length)], hp := [(0, some (.p (some 1) (List.map enc_api_Entry ([] : List api_Entry))))], nx := 1 }) (rg [hE] ({ tm := [(0, .pv (.str s_)), (5, .pv (.nilsl))], hp := [], nx := 0 }) .nil ((Sub.keep (ks := [0, 5]) (st := ownSt 5 (some 1) ({ tm := [(0, .pv (.str s_)), (5, .pv (.nilsl))], hp := [], nx := 0 })) (st' := { tm := [(0, .pv (.str s_)), (5, .osl 0 0 (List.map enc_api_Entry ([] : List api_Entry)).length)], hp := [(0, some (.p (some 1) (List.map enc_api_Entry ([] : List api_Entry))))], nx := 1 }) (by kernel_rfl)).trans (own_sound 5 (some 1) ({ tm := [(0, .pv (.str s_)), (5, .pv (.nilsl))], hp := [], nx := 0 })))) ?_
  obtain ⟨x1, hx1, h⟩ := bind_some h
  refine x_rg (rg0 [hE, hN (.cal [] (.usl none (List.map PV.str x1)) true), hE] (⟨[(5, oL 0 enc_api_Entry ([] : List api_Entry)), (6, oL 1 PV.str x1)], [(0, rL (some 1) enc_api_Entry ([] : List api_Entry)), (1, rL none PV.str x1)], 2⟩) (.cons (c37 hx1) .nil)) ?_
  refine x_seq ?_
  refine x_rg (rgn [hE] (⟨[(5, oL 0 enc_api_Entry ([] : List api_Entry)), (6, oL 1 PV.str x1), (7, pI 0)], [(0, rL (some 1) enc_api_Entry ([] : List api_Entry)), (1, rL none PV.str x1)], 2⟩)) ?_
  refine x_block ?_
  refine kw0 (⟨[(5, oL 0 enc_api_Entry ([] : List api_Entry)), (6, oL 1 PV.str x1), (7, pI 0)], [(0, rL (some 1) enc_api_Entry ([] : List api_Entry)), (1, rL none PV.str x1)], 2⟩) ?_
  refine x_loop (σ := (Int × (List api_Entry))) h (fun s => ⟨[(5, oL 0 enc_api_Entry s.2), (6, oL 1 PV.str x1), (7, pI s.1)], [(0, rL (some 1) enc_api_Entry s.2), (1, rL none PV.str x1)], 2⟩) (by kernel_rfl) ?_ ?_
  ·rintro ⟨i, out⟩
   kernel_rfl
  ·rintro ⟨i, out⟩ x34 h hx34
   replace h : ref27_Db_L34 x1 i out = some x34 := h
   unfold ref27_Db_L34 at h
   refine x_seq ?_
   refine x_rg (rg0 (obs := [((((List.map PV.str x1).length : Nat) : Int) = (List.length x1 : Int))]) [hE, hE, hN (.len (List.length x1 : Int)), hE] (⟨[(5, oL 0 enc_api_Entry out), (6, oL 1 PV.str x1), (7, pI i), (19, pB (decide (i < (List.length x1 : Int))))], [(0, rL (some 1) enc_api_Entry out), (1, rL none PV.str x1)], 2⟩) (.cons (by rw [List.length_map]) .nil)) ?_
   refine x_cond _ rfl (fun hc35 => ?_) (fun hc35 => ?_)
   ·replace h := ite_t h hc35
    refine kw0 (⟨[(5, oL 0 enc_api_Entry out), (6, oL 1 PV.str x1), (7, pI i)], [(0, rL (some 1) enc_api_Entry out), (1, rL none PV.str x1)], 2⟩) ?_
    refine x_skip ?_
    refine x_tn ?_
    refine x_seq ?_
    refine x_block ?_
    refine x_seq ?_
    obtain ⟨x36, hx36, h⟩ := bind_some h
    obtain ⟨x37, hx37, h⟩ := bind_some h
    refine x_rg (rg0 (obs := [(0 ≤ (i : Int) ∧ Int.toNat i < (List.map PV.str x1).length), ((List.map PV.str x1)[(0 + Int.toNat i)]? = some (.str x36)), (CallOK Tryd.prog 38 [.str x36] (.bool x37) true)]) [hE, hE, hN .rAt, hN (.ld (.str x36)), hN (.cal [] (.bool x37) true)] (⟨[(5, oL 0 enc_api_Entry out), (6, oL 1 PV.str x1), (7, pI i), (26, pB x37)], [(0, rL (some 1) enc_api_Entry out), (1, rL none PV.str x1)], 2⟩) (.cons (rAt_ob hx36 (by simp)) (.cons (ownAt hx36) (.cons (c38 hx37) .nil)))) ?_
    refine x_cond _ rfl (fun hc38 => ?_) (fun hc38 => ?_)
    ·replace h := ite_t h hc38
     refine kw0 (⟨[(5, oL 0 enc_api_Entry out), (6, oL 1 PV.str x1), (7, pI i)], [(0, rL (some 1) enc_api_Entry out), (1, rL none PV.str x1)], 2⟩) ?_
     refine x_exit ?_
     refine x_te ?_
     refine x_bh ?_
     refine x_tn ?_
     refine x_rgt (rgn [hE, hE, hE] (⟨[(5, oL 0 enc_api_Entry out), (6, oL 1 PV.str x1), (7, pI (IntKind.wrap .i64 (i + 1)))], [(0, rL (some 1) enc_api_Entry out), (1, rL none PV.str x1)], 2⟩)) ?_
     refine x_tn ?_
     exact ⟨_, (Option.some.inj h).symm, by kernel_rfl⟩
    ·replace h := ite_f h hc38
     refine kw0 (⟨[(5, oL 0 enc_api_Entry out), (6, oL 1 PV.str x1), (7, pI i)], [(0, rL (some 1) enc_api_Entry out), (1, rL none PV.str x1)], 2⟩) ?_
     refine x_skip ?_
     refine x_tn ?_
     refine x_rg (rg0 (obs := [((((List.map enc_api_Entry out).length : Nat) : Int) = (List.length out : Int))]) [hE, hN (.len (List.length out : Int)), hE] (⟨[(5, oL 0 enc_api_Entry out), (6, oL 1 PV.str x1), (7, pI i), (8, pI (List.length out : Int))], [(0, rL (some 1) enc_api_Entry out), (1, rL none PV.str x1)], 2⟩) (.cons (by rw [List.length_map]) .nil)) ?_
     refine x_join (τ := Int) (fun t => ref27_Db_K39 x1 i out t = some x34) (fun t => { tm := [(5, .osl 0 0 (List.map enc_api_Entry out).length), (6, .osl 1 0 (List.map PV.str x1).length), (7, .pv (.int .i64 i)), (8, .pv (.int .i64 t))], hp := [(0, some (.p (some 1) (List.map enc_api_Entry out))), (1, some (.p none (List.map PV.str x1)))], nx := 2 }) ?_ ?_
     ·rintro p40 h
      replace h : ref27_Db_K39 x1 i out p40 = some x34 := h
      unfold ref27_Db_K39 at h
      refine x_seq ?_
      refine x_rg (rgn [hE, hE] (⟨[(5, oL 0 enc_api_Entry out), (6, oL 1 PV.str x1), (7, pI i), (8, pI p40), (49, pB (decide (256 ≤ p40)))], [(0, rL (some 1) enc_api_Entry out), (1, rL none PV.str x1)], 2⟩)) ?_
      refine x_cond _ rfl (fun hc41 => ?_) (fun hc41 => ?_)
      ·replace h := ite_t h hc41
       refine x_rg (rgn [hE, hE, hE, hE] (⟨[(2, .pv (.nilsl)), (3, pI i), (4, pI 22)], [], 0⟩)) ?_
       refine x_toret ?_
       refine x_tr ?_
       refine x_br ?_
       refine x_tr ?_
       refine x_tr ?_
       replace h := done_leaf h hx34
       refine x_br ?_
       refine x_tr ?_
       obtain rfl := Option.some.inj h
       exact ret0 (.tup [.nilsl, .int .i64 i, .int .i64 22]) (.tup (.cons (.nilUsl _) (.cons (.refl _) (.cons (.refl _) .nil)))) (fun h => nomatch h)
      ·replace h := ite_f h hc41
       refine kw0 (⟨[(5, oL 0 enc_api_Entry out), (6, oL 1 PV.str x1), (7, pI i), (8, pI p40)], [(0, rL (some 1) enc_api_Entry out), (1, rL none PV.str x1)], 2⟩) ?_
       refine x_skip ?_
       refine x_tn ?_
       obtain ⟨x42, hx42, h⟩ := bind_some h
       obtain ⟨x43, hx43, h⟩ := bind_some h
       refine x_rg (rg0 (obs := [(0 ≤ (i : Int) ∧ Int.toNat i < (List.map PV.str x1).length), ((List.map PV.str x1)[(0 + Int.toNat i)]? = some (.str x42)), (CallOK Tryd.prog 39 [.str x42] (.tup [.usl (some 3) (List.map enc_api_Attr x43.1), .int .i64 x43.2.1, .int .i64 x43.2.2]) true)]) [hE, hE, hN .rAt, hN (.ld (.str x42)), hN (.cal [] (.tup [.usl (some 3) (List.map enc_api_Attr x43.1), .int .i64 x43.2.1, .int .i64 x43.2.2]) true), hE, hE, hE, hE, hE, hE, hE] (⟨[(5, oL 0 enc_api_Entry out), (6, oL 1 PV.str x1), (7, pI i), (8, pI p40), (9, oL 2 enc_api_Attr x43.1), (11, pI x43.2.2)], [(0, rL (some 1) enc_api_Entry out), (1, rL none PV.str x1), (2, rL (some 3) enc_api_Attr x43.1)], 3⟩) (.cons (rAt_ob hx42 (by simp)) (.cons (ownAt hx42) (.cons (c39 hx43) .nil)))) ?_
       refine x_seq ?_
       refine x_rg (rgn [hE, hE] (⟨[(5, oL 0 enc_api_Entry out), (6, oL 1 PV.str x1), (7, pI i), (8, pI p40), (9, oL 2 enc_api_Attr x43.1), (11, pI x43.2.2), (61, pB (!decide (x43.2.2 = 0)))], [(0, rL (some 1) enc_api_Entry out), (1, rL none PV.str x1), (2, rL (some 3) enc_api_Attr x43.1)], 3⟩)) ?_
       refine x_cond _ rfl (fun hc44 => ?_) (fun hc44 => ?_)
       ·replace h := ite_t h hc44
        refine x_rg (rgn [hE, hE, hE, hE, hE] (⟨[(2, .pv (.nilsl)), (3, pI i), (4, pI x43.2.2)], [], 0⟩)) ?_
        refine x_toret ?_
        refine x_tr ?_
        refine x_br ?_
        refine x_tr ?_
        refine x_tr ?_
        replace h := done_leaf h hx34
        refine x_br ?_
        refine x_tr ?_
        obtain rfl := Option.some.inj h
        exact ret0 (.tup [.nilsl, .int .i64 i, .int .i64 x43.2.2]) (.tup (.cons (.nilUsl _) (.cons (.refl _) (.cons (.refl _) .nil)))) (fun h => nomatch h)
       ·replace h := ite_f h hc44
        refine kw0 (⟨[(5, oL 0 enc_api_Entry out), (6, oL 1 PV.str x1), (7, pI i), (8, pI p40), (9, oL 2 enc_api_Attr x43.1)], [(0, rL (some 1) enc_api_Entry out), (1, rL none PV.str x1), (2, rL (some 3) enc_api_Attr x43.1)], 3⟩) ?_
        refine x_skip ?_
        refine x_tn ?_
        refine x_seq ?_
        obtain ⟨x45, hx45, h⟩ := bind_some h
        refine x_rg (rg0 (obs := [(LesA [.sl (some 3) (List.take (List.map enc_api_Attr x43.1).length (List.drop 0 (List.map enc_api_Attr x43.1)))] [.sl (some 3) (List.map enc_api_Attr x43.1)]), (CallOK Tryd.prog 40 [.sl (some 3) (List.map enc_api_Attr x43.1)] (.bool x45) true), (0 + (List.map enc_api_Attr x43.1).length ≤ List.length (List.map enc_api_Attr x43.1))]) [hE, hN (.call [] [.sl (some 3) (List.map enc_api_Attr x43.1)] (.bool x45) true)] (⟨[(5, oL 0 enc_api_Entry out), (6, oL 1 PV.str x1), (7, pI i), (8, pI p40), (9, oL 2 enc_api_Attr x43.1), (65, pB x45)], [(0, rL (some 1) enc_api_Entry out), (1, rL none PV.str x1), (2, rL (some 3) enc_api_Attr x43.1)], 3⟩) (.cons (.cons (.of_eq (by rw [List.drop_zero, List.take_length])) .nil) (.cons (c40 hx45) (.cons (by simp) .nil)))) ?_
        refine x_cond _ rfl (fun hc46 => ?_) (fun hc46 => ?_)
        ·replace h := ite_t h hc46
         refine x_rg (rgn [hE, hE, hE, hE] (⟨[(2, .pv (.nilsl)), (3, pI i), (4, pI 2)], [], 0⟩)) ?_
         refine x_toret ?_
         refine x_tr ?_
         refine x_br ?_
         refine x_tr ?_
         refine x_tr ?_
         replace h := done_leaf h hx34
         refine x_br ?_
         refine x_tr ?_
         obtain rfl := Option.some.inj h
         exact ret0 (.tup [.nilsl, .int .i64 i, .int .i64 2]) (.tup (.cons (.nilUsl _) (.cons (.refl _) (.cons (.refl _) .nil)))) (fun h => nomatch h)
        ·replace h := ite_f h hc46
         refine kw0 (⟨[(5, oL 0 enc_api_Entry out), (6, oL 1 PV.str x1), (7, pI i), (8, pI p40), (9, oL 2 enc_api_Attr x43.1)], [(0, rL (some 1) enc_api_Entry out), (1, rL none PV.str x1), (2, rL (some 3) enc_api_Attr x43.1)], 3⟩) ?_
         refine x_skip ?_
         refine x_tn ?_
         refine x_rg (st2 := { tm := [(5, .osl 0 0 (List.map enc_api_Entry out).length), (6, .osl 1 0 (List.map PV.str x1).length), (7, .pv (.int .i64 i)), (8, .pv (.int .i64 p40)), (9, .osl 2 0 (List.map enc_api_Attr x43.1).length), (12, .osl 3 0 (List.map enc_api_Attr ([] : List api_Attr)).length)], hp := [(0, some (.p (some 1) (List.map enc_api_Entry out))), (1, some (.p none (List.map PV.str x1))), (2, some (.p (some 3) (List.map enc_api_Attr x43.1))), (3, some (.p (some 3) (List.map enc_api_Attr ([] : List api_Attr))))], nx := 4 }) (rg [hE] ({ tm := [(5, .osl 0 0 (List.map enc_api_Entry out).length), (6, .osl 1 0 (List.map PV.str x1).length), (7, .pv (.int .i64 i)), (8, .pv (.int .i64 p40)), (9, .osl 2 0 (List.map enc_api_Attr x43.1).length), (12, .pv (.nilsl))], hp := [(0, some (.p (some 1) (List.map enc_api_Entry out))), (1, some (.p none (List.map PV.str x1))), (2, some (.p (some 3) (List.map enc_api_Attr x43.1)))], nx := 3 }) .nil ((Sub.keep (ks := [5, 6, 7, 8, 9, 12]) (st := ownSt 12 (some 3) ({ tm := [(5, .osl 0 0 (List.map enc_api_Entry out).length), (6, .osl 1 0 (List.map PV.str x1).length), (7, .pv (.int .i64 i)), (8, .pv (.int .i64 p40)), (9, .osl 2 0 (List.map enc_api_Attr x43.1).length), (12, .pv (.nilsl))], hp := [(0, some (.p (some 1) (List.map enc_api_Entry out))), (1, some (.p none (List.map PV.str x1))), (2, some (.p (some 3) (List.map enc_api_Attr x43.1)))], nx := 3 })) (st' := { tm := [(5, .osl 0 0 (List.map enc_api_Entry out).length), (6, .osl 1 0 (List.map PV.str x1).length), (7, .pv (.int .i64 i)), (8, .pv (.int .i64 p40)), (9, .osl 2 0 (List.map enc_api_Attr x43.1).length), (12, .osl 3 0 (List.map enc_api_Attr ([] : List api_Attr)).length)], hp := [(0, some (.p (some 1) (List.map enc_api_Entry out))), (1, some (.p none (List.map PV.str x1))), (2, some (.p (some 3) (List.map enc_api_Attr x43.1))), (3, some (.p (some 3) (List.map enc_api_Attr ([] : List api_Attr))))], nx := 4 }) (by kernel_rfl)).trans (own_sound 12 (some 3) ({ tm := [(5, .osl 0 0 (List.map enc_api_Entry out).length), (6, .osl 1 0 (List.map PV.str x1).length), (7, .pv (.int .i64 i)), (8, .pv (.int .i64 p40)), (9, .osl 2 0 (List.map enc_api_Attr x43.1).length), (12, .pv (.nilsl))], hp := [(0, some (.p (some 1) (List.map enc_api_Entry out))), (1, some (.p none (List.map PV.str x1))), (2, some (.p (some 3) (List.map enc_api_Attr x43.1)))], nx := 3 })))) ?_
         refine x_join (τ := (List api_Attr)) (fun t => ref27_Db_K47 i out p40 x43 t = some x34) (fun t => { tm := [(5, .osl 0 0 (List.map enc_api_Entry out).length), (6, .osl 1 0 (List.map PV.str x1).length), (7, .pv (.int .i64 i)), (8, .pv (.int .i64 p40)), (9, .osl 2 0 (List.map enc_api_Attr x43.1).length), (12, .osl 3 0 (List.map enc_api_Attr t).length)], hp := [(0, some (.p (some 1) (List.map enc_api_Entry out))), (1, some (.p none (List.map PV.str x1))), (2, some (.p (some 3) (List.map enc_api_Attr x43.1))), (3, some (.p (some 3) (List.map enc_api_Attr t)))], nx := 4 }) ?_ ?_
         ·rintro p48 h
          replace h : ref27_Db_K47 i out p40 x43 p48 = some x34 := h
          unfold ref27_Db_K47 at h
          obtain ⟨x49, hx49, h⟩ := bind_some h
          refine x_rg (rg0 (obs := [(List.take (List.map enc_api_Attr p48).length (List.map enc_api_Attr p48) ++ List.take (List.map enc_api_Attr x43.1).length (List.drop 0 (List.map enc_api_Attr x43.1)) = (List.map enc_api_Attr x49)), (List.length (List.map enc_api_Attr x49) * 40 ≤ 140737488355328), (List.length (List.map enc_api_Attr x49) ≤ 9223372036854775807), ((List.map enc_api_Attr p48).length ≤ List.length (List.map enc_api_Attr p48)), (0 + (List.map enc_api_Attr x43.1).length ≤ List.length (List.map enc_api_Attr x43.1))]) [hE, hE, hN (.app (List.map enc_api_Attr x49)), hE] (⟨[(5, oL 0 enc_api_Entry out), (6, oL 1 PV.str x1), (7, pI i), (8, pI p40), (12, oL 2 enc_api_Attr x49)], [(0, rL (some 1) enc_api_Entry out), (1, rL none PV.str x1), (2, rL (some 3) enc_api_Attr x49)], 3⟩) (.cons (app_ob hx49 (.all _) (.part _)) (.cons (by rw [List.length_map]; exact (appL_ok hx49).2.1) (.cons (by rw [List.length_map]; exact (appL_ok hx49).2.2) (.cons (Nat.le_refl _) (.cons (by simp) .nil)))))) ?_
          refine x_seq ?_
          obtain ⟨x50, hx50, h⟩ := bind_some h
          refine x_rg (rg0 (obs := [(LesA [.sl (some 3) (List.take (List.map enc_api_Attr x49).length (List.drop 0 (List.map enc_api_Attr x49)))] [.sl (some 3) (List.map enc_api_Attr x49)]), (CallOK Tryd.prog 30 [.sl (some 3) (List.map enc_api_Attr x49)] (.int .i64 x50) true), (0 + (List.map enc_api_Attr x49).length ≤ List.length (List.map enc_api_Attr x49))]) [hE, hN (.call [] [.sl (some 3) (List.map enc_api_Attr x49)] (.int .i64 x50) true), hE] (⟨[(5, oL 0 enc_api_Entry out), (6, oL 1 PV.str x1), (7, pI i), (8, pI p40), (12, oL 2 enc_api_Attr x49), (13, pI x50)], [(0, rL (some 1) enc_api_Entry out), (1, rL none PV.str x1), (2, rL (some 3) enc_api_Attr x49)], 3⟩) (.cons (.cons (.of_eq (by rw [List.drop_zero, List.take_length])) .nil) (.cons (c30 hx50) (.cons (by simp) .nil)))) ?_
          refine x_rg (rgn [hE, hE] (⟨[(5, oL 0 enc_api_Entry out), (6, oL 1 PV.str x1), (7, pI i), (8, pI p40), (12, oL 2 enc_api_Attr x49), (13, pI x50), (84, pB (!decide (x50 = 0)))], [(0, rL (some 1) enc_api_Entry out), (1, rL none PV.str x1), (2, rL (some 3) enc_api_Attr x49)], 3⟩)) ?_
          refine x_cond _ rfl (fun hc51 => ?_) (fun hc51 => ?_)
          ·replace h := ite_t h hc51
           refine x_rg (rgn [hE, hE, hE, hE, hE] (⟨[(2, .pv (.nilsl)), (3, pI i), (4, pI x50)], [], 0⟩)) ?_
           refine x_toret ?_
           refine x_tr ?_
           refine x_br ?_
           refine x_tr ?_
           refine x_tr ?_
           replace h := done_leaf h hx34
           refine x_br ?_
           refine x_tr ?_
           obtain rfl := Option.some.inj h
           exact ret0 (.tup [.nilsl, .int .i64 i, .int .i64 x50]) (.tup (.cons (.nilUsl _) (.cons (.refl _) (.cons (.refl _) .nil)))) (fun h => nomatch h)
          ·replace h := ite_f h hc51
           refine x_kw (st2 := { tm := [(5, .osl 0 0 (List.map enc_api_Entry out).length), (6, .osl 1 0 (List.map PV.str x1).length), (7, .pv (.int .i64 i)), (8, .pv (.int .i64 p40)), (12, .pv (.sl (some 3) (List.map enc_api_Attr x49)))], hp := [(0, some (.p (some 1) (List.map enc_api_Entry out))), (1, some (.p none (List.map PV.str x1)))], nx := 2 }) ({ tm := [(5, .osl 0 0 (List.map enc_api_Entry out).length), (6, .osl 1 0 (List.map PV.str x1).length), (7, .pv (.int .i64 i)), (8, .pv (.int .i64 p40)), (12, .osl 2 0 (List.map enc_api_Attr x49).length)], hp := [(0, some (.p (some 1) (List.map enc_api_Entry out))), (1, some (.p none (List.map PV.str x1))), (2, some (.p (some 3) (List.map enc_api_Attr x49)))], nx := 3 }) (by kernel_rfl) ((Sub.keep (ks := [5, 6, 7, 8, 12]) (st := ⟨(12, .pv (.sl (some 3) (List.map enc_api_Attr x49))) :: [(5, .osl 0 0 (List.map enc_api_Entry out).length), (6, .osl 1 0 (List.map PV.str x1).length), (7, .pv (.int .i64 i)), (8, .pv (.int .i64 p40)), (12, .osl 2 0 (List.map enc_api_Attr x49).length)], (2, none) :: [(0, some (.p (some 1) (List.map enc_api_Entry out))), (1, some (.p none (List.map PV.str x1))), (2, some (.p (some 3) (List.map enc_api_Attr x49)))], 3⟩) (st' := { tm := [(5, .osl 0 0 (List.map enc_api_Entry out).length), (6, .osl 1 0 (List.map PV.str x1).length), (7, .pv (.int .i64 i)), (8, .pv (.int .i64 p40)), (12, .pv (.sl (some 3) (List.map enc_api_Attr x49)))], hp := [(0, some (.p (some 1) (List.map enc_api_Entry out))), (1, some (.p none (List.map PV.str x1)))], nx := 2 }) (by kernel_rfl)).trans (Sub.frz (st := { tm := [(5, .osl 0 0 (List.map enc_api_Entry out).length), (6, .osl 1 0 (List.map PV.str x1).length), (7, .pv (.int .i64 i)), (8, .pv (.int .i64 p40)), (12, .osl 2 0 (List.map enc_api_Attr x49).length)], hp := [(0, some (.p (some 1) (List.map enc_api_Entry out))), (1, some (.p none (List.map PV.str x1))), (2, some (.p (some 3) (List.map enc_api_Attr x49)))], nx := 3 }) 12 (List.map enc_api_Attr x49) rfl rfl (Nat.le_refl _) (by rw [List.take_of_length_le (Nat.le_refl _)]))) ?_
           refine x_skip ?_
           refine x_tn ?_
           obtain ⟨x52, hx52, h⟩ := bind_some h
           obtain ⟨x53, hx53, h⟩ := bind_some h
           refine x_rgt (rg0 (obs := [(0 ≤ (0 : Int) ∧ (0 : Int) ≤ p40 ∧ p40 ≤ (((List.map enc_api_Entry out).length : Nat) : Int)), (List.take (Int.toNat p40 - Int.toNat 0) (List.map enc_api_Entry out) ++ List.take 1 (List.drop 0 ([.agg [.sl (some 3) (List.map enc_api_Attr x49)]] : List PV)) = (List.map enc_api_Entry x53)), (List.length (List.map enc_api_Entry x53) * 24 ≤ 140737488355328), (List.length (List.map enc_api_Entry x53) ≤ 9223372036854775807), ((Int.toNat p40 - Int.toNat 0) ≤ List.length (List.map enc_api_Entry out)), (0 + 1 ≤ List.length ([.agg [.sl (some 3) (List.map enc_api_Attr x49)]] : List PV))]) [hE, hE, hN .cutR, hE, hE, hE, hN (.app (List.map enc_api_Entry x53)), hE] (⟨[(5, oL 0 enc_api_Entry x53), (6, oL 1 PV.str x1), (7, pI i)], [(0, rL (some 1) enc_api_Entry x53), (1, rL none PV.str x1)], 2⟩) (.cons (cutR_ob hx52 (by simp)) (.cons (app_ob hx53 (.of (cutR_f hx52).2) (.rfl _)) (.cons (by rw [List.length_map]; exact (appL_ok hx53).2.1) (.cons (by rw [List.length_map]; exact (appL_ok hx53).2.2) (.cons (cutR_le hx52) (.cons (by simp) .nil))))))) ?_
           refine x_bn ?_
           refine x_tn ?_
           refine x_rgt (rgn [hE, hE, hE] (⟨[(5, oL 0 enc_api_Entry x53), (6, oL 1 PV.str x1), (7, pI (IntKind.wrap .i64 (i + 1)))], [(0, rL (some 1) enc_api_Entry x53), (1, rL none PV.str x1)], 2⟩)) ?_
           refine x_tn ?_
           exact ⟨_, (Option.some.inj h).symm, by kernel_rfl⟩
         ·refine x_rg (rg0 (obs := [((((List.map enc_api_Entry out).length : Nat) : Int) = (List.length out : Int))]) [hE, hE, hN (.len (List.length out : Int)), hE] (⟨[(5, oL 0 enc_api_Entry out), (6, oL 1 PV.str x1), (7, pI i), (8, pI p40), (9, oL 2 enc_api_Attr x43.1), (12, oL 3 enc_api_Attr ([] : List api_Attr)), (70, pB (decide (p40 < (List.length out : Int))))], [(0, rL (some 1) enc_api_Entry out), (1, rL none PV.str x1), (2, rL (some 3) enc_api_Attr x43.1), (3, rL (some 3) enc_api_Attr ([] : List api_Attr))], 4⟩) (.cons (by rw [List.length_map]) .nil)) ?_
          refine x_cond _ rfl (fun hc54 => ?_) (fun hc54 => ?_)
          ·replace h := ite_t h hc54
           obtain ⟨x55, hx55, h⟩ := bind_some h
           obtain ⟨x56, hx56, h⟩ := bind_some h
           refine x_rgt (rg0 (obs := [(0 ≤ (p40 : Int) ∧ Int.toNat p40 < (List.map enc_api_Entry out).length), ((List.map enc_api_Entry out)[(0 + Int.toNat p40)]? = some (enc_api_Entry x55)), (List.take (List.map enc_api_Attr ([] : List api_Attr)).length (List.map enc_api_Attr ([] : List api_Attr)) ++ List.map enc_api_Attr x55.Attrs = (List.map enc_api_Attr x56)), (List.length (List.map enc_api_Attr x56) * 40 ≤ 140737488355328), (List.length (List.map enc_api_Attr x56) ≤ 9223372036854775807), ((List.map enc_api_Attr ([] : List api_Attr)).length ≤ List.length (List.map enc_api_Attr ([] : List api_Attr)))]) [hE, hE, hE, hN .rAt, hE, hN (.ld (enc_api_Entry x55)), hN (.app (List.map enc_api_Attr x56)), hE] (⟨[(5, oL 0 enc_api_Entry out), (6, oL 1 PV.str x1), (7, pI i), (8, pI p40), (9, oL 2 enc_api_Attr x43.1), (12, oL 3 enc_api_Attr x56)], [(0, rL (some 1) enc_api_Entry out), (1, rL none PV.str x1), (2, rL (some 3) enc_api_Attr x43.1), (3, rL (some 3) enc_api_Attr x56)], 4⟩) (.cons (rAt_ob hx55 (by simp)) (.cons (ownAt hx55) (.cons (app_ob hx56 (.all _) (.rfl _)) (.cons (by rw [List.length_map]; exact (appL_ok hx56).2.1) (.cons (by rw [List.length_map]; exact (appL_ok hx56).2.2) (.cons (Nat.le_refl _) .nil))))))) ?_
           refine x_tn ?_
           exact ⟨x56, h, by kernel_rfl⟩
          ·replace h := ite_f h hc54
           refine kw0 (⟨[(5, oL 0 enc_api_Entry out), (6, oL 1 PV.str x1), (7, pI i), (8, pI p40), (9, oL 2 enc_api_Attr x43.1), (12, oL 3 enc_api_Attr ([] : List api_Attr))], [(0, rL (some 1) enc_api_Entry out), (1, rL none PV.str x1), (2, rL (some 3) enc_api_Attr x43.1), (3, rL (some 3) enc_api_Attr ([] : List api_Attr))], 4⟩) ?_
           refine x_skip ?_
           refine x_tn ?_
           exact ⟨([] : List api_Attr), h, by kernel_rfl⟩
     ·obtain ⟨x57, hx57, h⟩ := bind_some h
      obtain ⟨c58, hc58, h⟩ := bind_some h
      obtain ⟨t62, ht, h⟩ := bind_some h
      refine x_rg (st2 := ⟨[(5, oL 0 enc_api_Entry out), (6, oL 1 PV.str x1), (7, pI i), (8, pI (List.length out : Int)), (42, pB t62)], [(0, rL (some 1) enc_api_Entry out), (1, rL none PV.str x1)], 2⟩) ?_ ?_
      ·rcases Bool.eq_false_or_eq_true (decide ((c58.toNat : Int) = 32)) with hg59 | hg59
       ·replace ht := ite_t ht hg59
        have e := Option.some.inj ht
        subst e
        exact rg0 (obs := [(0 ≤ (i : Int) ∧ Int.toNat i < (List.map PV.str x1).length), ((List.map PV.str x1)[(0 + Int.toNat i)]? = some (.str x57)), (strAt x57 0 = some c58), ((decide ((c58.toNat : Int) = 32)) = true), ((decide ((c58.toNat : Int) = 32)) = true), ((decide ((c58.toNat : Int) = 32)) = true), ((decide ((c58.toNat : Int) = 32)) = true), ((decide ((c58.toNat : Int) = 32)) = true), ((decide ((c58.toNat : Int) = 32)) = true), ((decide ((c58.toNat : Int) = 32)) = true)]) [hE, hE, hN .rAt, hN (.ld (.str x57)), hN (.sAt c58), hE, hE, hS, hS, hS, hS, hS, hS, hN (.pk true)] (⟨[(5, oL 0 enc_api_Entry out), (6, oL 1 PV.str x1), (7, pI i), (8, pI (List.length out : Int)), (42, pB true)], [(0, rL (some 1) enc_api_Entry out), (1, rL none PV.str x1)], 2⟩) (.cons (rAt_ob hx57 (by simp)) (.cons (ownAt hx57) (.cons hc58 (.cons hg59 (.cons hg59 (.cons hg59 (.cons hg59 (.cons hg59 (.cons hg59 (.cons hg59 .nil))))))))))
       ·replace ht := ite_f ht hg59
        obtain ⟨x60, hx60, ht⟩ := bind_some ht
        obtain ⟨c61, hc61, ht⟩ := bind_some ht
        have e := Option.some.inj ht
        subst e
        exact rg0 (obs := [(0 ≤ (i : Int) ∧ Int.toNat i < (List.map PV.str x1).length), ((List.map PV.str x1)[(0 + Int.toNat i)]? = some (.str x57)), (strAt x57 0 = some c58), ((decide ((c58.toNat : Int) = 32)) = false), ((decide ((c58.toNat : Int) = 32)) = false), ((decide ((c58.toNat : Int) = 32)) = false), (0 ≤ (i : Int) ∧ Int.toNat i < (List.map PV.str x1).length), ((decide ((c58.toNat : Int) = 32)) = false), ((List.map PV.str x1)[(0 + Int.toNat i)]? = some (.str x60)), ((decide ((c58.toNat : Int) = 32)) = false), (strAt x60 0 = some c61), ((decide ((c58.toNat : Int) = 32)) = false), ((decide ((c58.toNat : Int) = 32)) = false)]) [hE, hE, hN .rAt, hN (.ld (.str x57)), hN (.sAt c58), hE, hE, hY, hY, (.y, .rAt), (.y, (.ld (.str x60))), (.y, (.sAt c61)), hY, hN (.pk false)] (⟨[(5, oL 0 enc_api_Entry out), (6, oL 1 PV.str x1), (7, pI i), (8, pI (List.length out : Int)), (42, pB (decide ((c61.toNat : Int) = 9)))], [(0, rL (some 1) enc_api_Entry out), (1, rL none PV.str x1)], 2⟩) (.cons (rAt_ob hx57 (by simp)) (.cons (ownAt hx57) (.cons hc58 (.cons hg59 (.cons hg59 (.cons hg59 (.cons (rAt_ob hx60 (by simp)) (.cons hg59 (.cons (ownAt hx60) (.cons hg59 (.cons hc61 (.cons hg59 (.cons hg59 .nil)))))))))))))
      ·clear ht
       refine x_cond _ rfl (fun hc63 => ?_) (fun hc63 => ?_)
       ·replace h := ite_t h hc63
        refine x_seq ?_
        refine x_rg (rgn [hE, hE] (⟨[(5, oL 0 enc_api_Entry out), (6, oL 1 PV.str x1), (7, pI i), (8, pI (List.length out : Int)), (44, pB (decide ((List.length out : Int) = 0)))], [(0, rL (some 1) enc_api_Entry out), (1, rL none PV.str x1)], 2⟩)) ?_
        refine x_cond _ rfl (fun hc64 => ?_) (fun hc64 => ?_)
        ·replace h := ite_t h hc64
         refine x_rg (rgn [hE, hE, hE, hE] (⟨[(2, .pv (.nilsl)), (3, pI i), (4, pI 2)], [], 0⟩)) ?_
         refine x_toret ?_
         refine x_tr ?_
         refine x_tr ?_
         refine x_br ?_
         refine x_tr ?_
         refine x_tr ?_
         replace h := done_leaf h hx34
         refine x_br ?_
         refine x_tr ?_
         obtain rfl := Option.some.inj h
         exact ret0 (.tup [.nilsl, .int .i64 i, .int .i64 2]) (.tup (.cons (.nilUsl _) (.cons (.refl _) (.cons (.refl _) .nil)))) (fun h => nomatch h)
        ·replace h := ite_f h hc64
         refine kw0 (⟨[(5, oL 0 enc_api_Entry out), (6, oL 1 PV.str x1), (7, pI i), (8, pI (List.length out : Int))], [(0, rL (some 1) enc_api_Entry out), (1, rL none PV.str x1)], 2⟩) ?_
         refine x_skip ?_
         refine x_tn ?_
         refine x_rgt (rgn [hE, hE, hE] (⟨[(5, oL 0 enc_api_Entry out), (6, oL 1 PV.str x1), (7, pI i), (8, pI (IntKind.wrap .i64 ((List.length out : Int) - 1)))], [(0, rL (some 1) enc_api_Entry out), (1, rL none PV.str x1)], 2⟩)) ?_
         refine x_tn ?_
         exact ⟨(IntKind.wrap .i64 ((List.length out : Int) - 1)), h, by kernel_rfl⟩
       ·replace h := ite_f h hc63
        refine kw0 (⟨[(5, oL 0 enc_api_Entry out), (6, oL 1 PV.str x1), (7, pI i), (8, pI (List.length out : Int))], [(0, rL (some 1) enc_api_Entry out), (1, rL none PV.str x1)], 2⟩) ?_
        refine x_skip ?_
        refine x_tn ?_
        exact ⟨(List.length out : Int), h, by kernel_rfl⟩
   ·replace h := ite_f h hc35
    refine kw0 (⟨[(5, oL 0 enc_api_Entry out)], [(0, rL (some 1) enc_api_Entry out)], 1⟩) ?_
    refine x_exit ?_
    refine x_te ?_
    refine x_te ?_
    replace h := done_leaf h hx34
    refine x_bh ?_
    refine x_tn ?_
    refine x_rg (rgn [hE, hE, hE, hE] (⟨[(2, oL 0 enc_api_Entry out), (3, pI 0), (4, pI 0)], [(0, rL (some 1) enc_api_Entry out)], 1⟩)) ?_
    refine x_toret ?_
    obtain rfl := Option.some.inj h
    exact x_ret (.tup [.usl (some 1) (List.take (List.map enc_api_Entry out).length (List.map enc_api_Entry out)), .int .i64 0, .int .i64 0]) [0] [(List.map enc_api_Entry out).length ≤ List.length (List.map enc_api_Entry out)] (by kernel_rfl) (.cons (Nat.le_refl _) .nil) (by decide) (.tup (.cons (.of_eq (by rw [List.take_length])) (.cons (.refl _) (.cons (.refl _) .nil)))) (fun h => nomatch h)

theorem c41 {a : (List api_Attr)} {b : (List api_Attr)} {r : Bool} (h : ref22_Same a b = some r) : CallOK Tryd.prog 41 [.sl (some 3) (List.map enc_api_Attr a), .sl (some 3) (List.map enc_api_Attr b)] (.bool r) true := by
  apply ok41
  unfold ref22_Same at h
  refine x_rg (rgn [hE] (⟨[(0, pL (some 3) enc_api_Attr a), (1, pL (some 3) enc_api_Attr b)], [], 0⟩)) ?_
  refine x_seq ?_
  refine x_rg (rg0 [hE, hN (.len (List.length a : Int)), hE, hN (.len (List.length b : Int)), hE] (⟨[(0, pL (some 3) enc_api_Attr a), (1, pL (some 3) enc_api_Attr b), (10, pB (!decide ((List.length a : Int) = (List.length b : Int))))], [], 0⟩) (.cons (lenM enc_api_Attr a) (.cons (lenM enc_api_Attr b) .nil))) ?_
  refine x_cond _ rfl (fun hc1 => ?_) (fun hc1 => ?_)
  ·replace h := ite_t h hc1
   refine x_rg (rgn [hE] (⟨[(4, pB false)], [], 0⟩)) ?_
   refine x_toret ?_
   refine x_tr ?_
   obtain rfl := Option.some.inj h
   exact ret0 (.bool false) (.refl _) (fun _ => rfl)
  ·replace h := ite_f h hc1
   refine kw0 (⟨[(0, pL (some 3) enc_api_Attr a), (1, pL (some 3) enc_api_Attr b)], [], 0⟩) ?_
   refine x_skip ?_
   refine x_tn ?_
   refine x_seq ?_
   refine x_rg (rgn [hE] (⟨[(0, pL (some 3) enc_api_Attr a), (1, pL (some 3) enc_api_Attr b), (5, pI 0)], [], 0⟩)) ?_
   refine x_block ?_
   refine kw0 (⟨[(0, pL (some 3) enc_api_Attr a), (1, pL (some 3) enc_api_Attr b), (5, pI 0)], [], 0⟩) ?_
   refine x_loop (σ := Int) h (fun s => ⟨[(0, pL (some 3) enc_api_Attr a), (1, pL (some 3) enc_api_Attr b), (5, pI s)], [], 0⟩) (by kernel_rfl) ?_ ?_
   ·rintro i
    kernel_rfl
   ·rintro i x7 h hx7
    replace h : ref22_Same_L7 a b i = some x7 := h
    unfold ref22_Same_L7 at h
    refine x_seq ?_
    refine x_rg (rg0 [hE, hE, hN (.len (List.length a : Int)), hE] (⟨[(0, pL (some 3) enc_api_Attr a), (1, pL (some 3) enc_api_Attr b), (5, pI i), (14, pB (decide (i < (List.length a : Int))))], [], 0⟩) (.cons (lenM enc_api_Attr a) .nil)) ?_
    refine x_cond _ rfl (fun hc8 => ?_) (fun hc8 => ?_)
    ·replace h := ite_t h hc8
     refine kw0 (⟨[(0, pL (some 3) enc_api_Attr a), (1, pL (some 3) enc_api_Attr b), (5, pI i)], [], 0⟩) ?_
     refine x_skip ?_
     refine x_tn ?_
     refine x_seq ?_
     refine x_block ?_
     obtain ⟨x9, hx9, h⟩ := bind_some h
     obtain ⟨x10, hx10, h⟩ := bind_some h
     refine x_rg (rg0 [hE, hE, hN (.pAt (enc_api_Attr x9)), hE, hE, hE, hN (.pAt (enc_api_Attr x10)), hE, hE] (⟨[(0, pL (some 3) enc_api_Attr a), (1, pL (some 3) enc_api_Attr b), (5, pI i), (25, pB (!(decide (x9.Name = x10.Name) && (decide (x9.Value = x10.Value) && (decide (x9.Query = x10.Query) && true)))))], [], 0⟩) (.cons (lsAt_map (f := enc_api_Attr) hx9) (.cons (lsAt_map (f := enc_api_Attr) hx10) .nil))) ?_
     refine x_cond _ rfl (fun hc11 => ?_) (fun hc11 => ?_)
     ·replace h := ite_t h hc11
      refine x_rg (rgn [hE] (⟨[(4, pB false)], [], 0⟩)) ?_
      refine x_toret ?_
      refine x_br ?_
      refine x_tr ?_
      refine x_tr ?_
      replace h := done_leaf h hx7
      refine x_br ?_
      refine x_tr ?_
      obtain rfl := Option.some.inj h
      exact ret0 (.bool false) (.refl _) (fun _ => rfl)
     ·replace h := ite_f h hc11
      refine kw0 (⟨[(0, pL (some 3) enc_api_Attr a), (1, pL (some 3) enc_api_Attr b), (5, pI i)], [], 0⟩) ?_
      refine x_skip ?_
      refine x_bn ?_
      refine x_tn ?_
      refine x_rgt (rgn [hE, hE, hE] (⟨[(0, pL (some 3) enc_api_Attr a), (1, pL (some 3) enc_api_Attr b), (5, pI (IntKind.wrap .i64 (i + 1)))], [], 0⟩)) ?_
      refine x_tn ?_
      exact ⟨_, (Option.some.inj h).symm, by kernel_rfl⟩
    ·replace h := ite_f h hc8
     refine kw0 (⟨[], [], 0⟩) ?_
     refine x_exit ?_
     refine x_te ?_
     refine x_te ?_
     replace h := done_leaf h hx7
     refine x_bh ?_
     refine x_tn ?_
     refine x_rg (rgn [hE] (⟨[(4, pB true)], [], 0⟩)) ?_
     refine x_toret ?_
     obtain rfl := Option.some.inj h
     exact ret0 (.bool true) (.refl _) (fun _ => rfl)

theorem c18 {a : (List api_Entry)} {b : (List api_Entry)} {r : Bool} (h : ref27_Same a b = some r) : CallOK Tryd.prog 18 [.sl (some 1) (List.map enc_api_Entry a), .sl (some 1) (List.map enc_api_Entry b)] (.bool r) true := by
  apply ok18
  unfold ref27_Same at h
  refine x_rg (rgn [hE] (⟨[(0, pL (some 1) enc_api_Entry a), (1, pL (some 1) enc_api_Entry b)], [], 0⟩)) ?_
  refine x_seq ?_
  refine x_rg (rg0 [hE, hN (.len (List.length a : Int)), hE, hN (.len (List.length b : Int)), hE] (⟨[(0, pL (some 1) enc_api_Entry a), (1, pL (some 1) enc_api_Entry b), (10, pB (!decide ((List.length a : Int) = (List.length b : Int))))], [], 0⟩) (.cons (lenM enc_api_Entry a) (.cons (lenM enc_api_Entry b) .nil))) ?_
  refine x_cond _ rfl (fun hc1 => ?_) (fun hc1 => ?_)
  ·replace h := ite_t h hc1
   refine x_rg (rgn [hE] (⟨[(4, pB false)], [], 0⟩)) ?_
   refine x_toret ?_
   refine x_tr ?_
   obtain rfl := Option.some.inj h
   exact ret0 (.bool false) (.refl _) (fun _ => rfl)
  ·replace h := ite_f h hc1
   refine kw0 (⟨[(0, pL (some 1) enc_api_Entry a), (1, pL (some 1) enc_api_Entry b)], [], 0⟩) ?_
   refine x_skip ?_
   refine x_tn ?_
   refine x_seq ?_
   refine x_rg (rgn [hE] (⟨[(0, pL (some 1) enc_api_Entry a), (1, pL (some 1) enc_api_Entry b), (5, pI 0)], [], 0⟩)) ?_
   refine x_block ?_
   refine kw0 (⟨[(0, pL (some 1) enc_api_Entry a), (1, pL (some 1) enc_api_Entry b), (5, pI 0)], [], 0⟩) ?_
   refine x_loop (σ := Int) h (fun s => ⟨[(0, pL (some 1) enc_api_Entry a), (1, pL (some 1) enc_api_Entry b), (5, pI s)], [], 0⟩) (by kernel_rfl) ?_ ?_
   ·rintro i
    kernel_rfl
   ·rintro i x8 h hx8
    replace h : ref27_Same_L8 a b i = some x8 := h
    unfold ref27_Same_L8 at h
    refine x_seq ?_
    refine x_rg (rg0 [hE, hE, hN (.len (List.length a : Int)), hE] (⟨[(0, pL (some 1) enc_api_Entry a), (1, pL (some 1) enc_api_Entry b), (5, pI i), (14, pB (decide (i < (List.length a : Int))))], [], 0⟩) (.cons (lenM enc_api_Entry a) .nil)) ?_
    refine x_cond _ rfl (fun hc9 => ?_) (fun hc9 => ?_)
    ·replace h := ite_t h hc9
     refine kw0 (⟨[(0, pL (some 1) enc_api_Entry a), (1, pL (some 1) enc_api_Entry b), (5, pI i)], [], 0⟩) ?_
     refine x_skip ?_
     refine x_tn ?_
     refine x_seq ?_
     refine x_block ?_
     obtain ⟨x10, hx10, h⟩ := bind_some h
     obtain ⟨x11, hx11, h⟩ := bind_some h
     obtain ⟨x12, hx12, h⟩ := bind_some h
     refine x_rg (rg0 [hE, hE, hN (.pAt (enc_api_Entry x10)), hE, hE, hE, hE, hN (.pAt (enc_api_Entry x11)), hE, hE, hN (.cal [] (.bool x12) true), hE] (⟨[(0, pL (some 1) enc_api_Entry a), (1, pL (some 1) enc_api_Entry b), (5, pI i), (28, pB (!x12))], [], 0⟩) (.cons (lsAt_map (f := enc_api_Entry) hx10) (.cons (lsAt_map (f := enc_api_Entry) hx11) (.cons (c41 hx12) .nil)))) ?_
     refine x_cond _ rfl (fun hc13 => ?_) (fun hc13 => ?_)
     ·replace h := ite_t h hc13
      refine x_rg (rgn [hE] (⟨[(4, pB false)], [], 0⟩)) ?_
      refine x_toret ?_
      refine x_br ?_
      refine x_tr ?_
      refine x_tr ?_
      replace h := done_leaf h hx8
      refine x_br ?_
      refine x_tr ?_
      obtain rfl := Option.some.inj h
      exact ret0 (.bool false) (.refl _) (fun _ => rfl)
     ·replace h := ite_f h hc13
      refine kw0 (⟨[(0, pL (some 1) enc_api_Entry a), (1, pL (some 1) enc_api_Entry b), (5, pI i)], [], 0⟩) ?_
      refine x_skip ?_
      refine x_bn ?_
      refine x_tn ?_
      refine x_rgt (rgn [hE, hE, hE] (⟨[(0, pL (some 1) enc_api_Entry a), (1, pL (some 1) enc_api_Entry b), (5, pI (IntKind.wrap .i64 (i + 1)))], [], 0⟩)) ?_
      refine x_tn ?_
      exact ⟨_, (Option.some.inj h).symm, by kernel_rfl⟩
    ·replace h := ite_f h hc9
     refine kw0 (⟨[], [], 0⟩) ?_
     refine x_exit ?_
     refine x_te ?_
     refine x_te ?_
     replace h := done_leaf h hx8
     refine x_bh ?_
     refine x_tn ?_
     refine x_rg (rgn [hE] (⟨[(4, pB true)], [], 0⟩)) ?_
     refine x_toret ?_
     obtain rfl := Option.some.inj h
     exact ret0 (.bool true) (.refl _) (fun _ => rfl)

theorem c4 {s_ : Str} {r : Bool} (h : law27_DialReads s_ = some r) : CallOK Tryd.prog 4 [.str s_] (.bool r) true := by
  apply ok4
  unfold law27_DialReads at h
  refine x_rg (rgn [hE] (⟨[(0, pS s_)], [], 0⟩)) ?_
  refine x_seq ?_
  refine x_rg (rgn [hE, hE, hE] (⟨[(0, pS s_), (11, pB (decide (4000 < (List.length s_ : Int))))], [], 0⟩)) ?_
  refine x_cond _ rfl (fun hc1 => ?_) (fun hc1 => ?_)
  ·replace h := ite_t h hc1
   obtain ⟨x2, hx2, h⟩ := bind_some h
   refine x_rg (rg0 [hN (.cal [] (.bool x2) true), hE] (⟨[(2, pB x2)], [], 0⟩) (.cons (c11 hx2) .nil)) ?_
   refine x_toret ?_
   refine x_tr ?_
   obtain rfl := Option.some.inj h
   exact ret0 (.bool x2) (.refl _) (fun _ => rfl)
  ·replace h := ite_f h hc1
   refine kw0 (⟨[(0, pS s_)], [], 0⟩) ?_
   refine x_skip ?_
   refine x_tn ?_
   obtain ⟨x3, hx3, h⟩ := bind_some h
   refine x_rg (rg0 [hE, hN (.cal [] (.tup [.usl (some 1) (List.map enc_api_Entry x3.1), .int .i64 x3.2.1, .int .i64 x3.2.2]) false), hE, hE, hE, hE, hE, hE, hE] (⟨[(0, pS s_), (3, oL 0 enc_api_Entry x3.1), (4, pI x3.2.1), (5, pI x3.2.2)], [(0, rL (some 1) enc_api_Entry x3.1)], 1⟩) (.cons (c16 hx3) .nil)) ?_
   obtain ⟨x4, hx4, h⟩ := bind_some h
   refine x_rg (rg0 [hE, hN (.cal [] (.tup [.usl (some 1) (List.map enc_api_Entry x4.1), .int .i64 x4.2.1, .int .i64 x4.2.2]) false), hE, hE, hE, hE, hE, hE, hE] (⟨[(3, oL 0 enc_api_Entry x3.1), (4, pI x3.2.1), (5, pI x3.2.2), (6, oL 1 enc_api_Entry x4.1), (7, pI x4.2.1), (8, pI x4.2.2)], [(0, rL (some 1) enc_api_Entry x3.1), (1, rL (some 1) enc_api_Entry x4.1)], 2⟩) (.cons (c17 hx4) .nil)) ?_
   obtain ⟨x5, hx5, h⟩ := bind_some h
   obtain ⟨t10, ht, h⟩ := bind_some h
   refine x_rg (st2 := ⟨[(2, pB t10)], [], 0⟩) ?_ ?_
   ·rcases Bool.eq_false_or_eq_true x5 with hg6 | hg6
    ·replace ht := ite_t ht hg6
     rcases Bool.eq_false_or_eq_true (decide (x3.2.1 = x4.2.1)) with hg7 | hg7
     ·replace ht := ite_t ht hg7
      rcases Bool.eq_false_or_eq_true (decide (x3.2.2 = x4.2.2)) with hg8 | hg8
      ·replace ht := ite_t ht hg8
       obtain ⟨x9, hx9, ht⟩ := bind_some ht
       have e := Option.some.inj ht
       subst e
       exact rg0 (obs := [(LesA [.sl (some 1) (List.take (List.map enc_api_Entry x3.1).length (List.drop 0 (List.map enc_api_Entry x3.1))), .sl (some 1) (List.take (List.map enc_api_Entry x4.1).length (List.drop 0 (List.map enc_api_Entry x4.1)))] [.sl (some 1) (List.map enc_api_Entry x3.1), .sl (some 1) (List.map enc_api_Entry x4.1)]), (CallOK Tryd.prog 18 [.sl (some 1) (List.map enc_api_Entry x3.1), .sl (some 1) (List.map enc_api_Entry x4.1)] (.bool x5) true), (0 + (List.map enc_api_Entry x3.1).length ≤ List.length (List.map enc_api_Entry x3.1)), (0 + (List.map enc_api_Entry x4.1).length ≤ List.length (List.map enc_api_Entry x4.1)), (x5 = true), (x5 = true), (x5 = true), (x5 = true), ((decide (x3.2.1 = x4.2.1)) = true), ((decide (x3.2.1 = x4.2.1)) = true), ((decide (x3.2.1 = x4.2.1)) = true), ((decide (x3.2.1 = x4.2.1)) = true), ((decide (x3.2.2 = x4.2.2)) = true), (CallOK Tryd.prog 11 [] (.bool x9) true), ((decide (x3.2.2 = x4.2.2)) = true)]) [hE, hE, hN (.call [] [.sl (some 1) (List.map enc_api_Entry x3.1), .sl (some 1) (List.map enc_api_Entry x4.1)] (.bool x5) true), hE, hY, hY, hY, hN (.pk true), hE, hY, hY, hY, hN (.pk true), hE, (.y, (.cal [] (.bool x9) true)), hN (.pk true), hE] (⟨[(2, pB x9)], [], 0⟩) (.cons (.cons (.of_eq (by rw [List.drop_zero, List.take_length])) (.cons (.of_eq (by rw [List.drop_zero, List.take_length])) .nil)) (.cons (c18 hx5) (.cons (by simp) (.cons (by simp) (.cons hg6 (.cons hg6 (.cons hg6 (.cons hg6 (.cons hg7 (.cons hg7 (.cons hg7 (.cons hg7 (.cons hg8 (.cons (c11 hx9) (.cons hg8 .nil)))))))))))))))
      ·replace ht := ite_f ht hg8
       have e := Option.some.inj ht
       subst e
       exact rg0 (obs := [(LesA [.sl (some 1) (List.take (List.map enc_api_Entry x3.1).length (List.drop 0 (List.map enc_api_Entry x3.1))), .sl (some 1) (List.take (List.map enc_api_Entry x4.1).length (List.drop 0 (List.map enc_api_Entry x4.1)))] [.sl (some 1) (List.map enc_api_Entry x3.1), .sl (some 1) (List.map enc_api_Entry x4.1)]), (CallOK Tryd.prog 18 [.sl (some 1) (List.map enc_api_Entry x3.1), .sl (some 1) (List.map enc_api_Entry x4.1)] (.bool x5) true), (0 + (List.map enc_api_Entry x3.1).length ≤ List.length (List.map enc_api_Entry x3.1)), (0 + (List.map enc_api_Entry x4.1).length ≤ List.length (List.map enc_api_Entry x4.1)), (x5 = true), (x5 = true), (x5 = true), (x5 = true), ((decide (x3.2.1 = x4.2.1)) = true), ((decide (x3.2.1 = x4.2.1)) = true), ((decide (x3.2.1 = x4.2.1)) = true), ((decide (x3.2.1 = x4.2.1)) = true), ((decide (x3.2.2 = x4.2.2)) = false), ((decide (x3.2.2 = x4.2.2)) = false)]) [hE, hE, hN (.call [] [.sl (some 1) (List.map enc_api_Entry x3.1), .sl (some 1) (List.map enc_api_Entry x4.1)] (.bool x5) true), hE, hY, hY, hY, hN (.pk true), hE, hY, hY, hY, hN (.pk true), hE, hS, hN (.pk false), hE] (⟨[(2, pB false)], [], 0⟩) (.cons (.cons (.of_eq (by rw [List.drop_zero, List.take_length])) (.cons (.of_eq (by rw [List.drop_zero, List.take_length])) .nil)) (.cons (c18 hx5) (.cons (by simp) (.cons (by simp) (.cons hg6 (.cons hg6 (.cons hg6 (.cons hg6 (.cons hg7 (.cons hg7 (.cons hg7 (.cons hg7 (.cons hg8 (.cons hg8 .nil))))))))))))))
     ·replace ht := ite_f ht hg7
      have e := Option.some.inj ht
      subst e
      exact rg0 (obs := [(LesA [.sl (some 1) (List.take (List.map enc_api_Entry x3.1).length (List.drop 0 (List.map enc_api_Entry x3.1))), .sl (some 1) (List.take (List.map enc_api_Entry x4.1).length (List.drop 0 (List.map enc_api_Entry x4.1)))] [.sl (some 1) (List.map enc_api_Entry x3.1), .sl (some 1) (List.map enc_api_Entry x4.1)]), (CallOK Tryd.prog 18 [.sl (some 1) (List.map enc_api_Entry x3.1), .sl (some 1) (List.map enc_api_Entry x4.1)] (.bool x5) true), (0 + (List.map enc_api_Entry x3.1).length ≤ List.length (List.map enc_api_Entry x3.1)), (0 + (List.map enc_api_Entry x4.1).length ≤ List.length (List.map enc_api_Entry x4.1)), (x5 = true), (x5 = true), (x5 = true), (x5 = true), ((decide (x3.2.1 = x4.2.1)) = false), ((decide (x3.2.1 = x4.2.1)) = false), ((decide (x3.2.1 = x4.2.1)) = false), ((decide (x3.2.1 = x4.2.1)) = false), (false = false)]) [hE, hE, hN (.call [] [.sl (some 1) (List.map enc_api_Entry x3.1), .sl (some 1) (List.map enc_api_Entry x4.1)] (.bool x5) true), hE, hY, hY, hY, hN (.pk true), hE, hS, hS, hS, hN (.pk false), hE, hS, hE, hE] (⟨[(2, pB false)], [], 0⟩) (.cons (.cons (.of_eq (by rw [List.drop_zero, List.take_length])) (.cons (.of_eq (by rw [List.drop_zero, List.take_length])) .nil)) (.cons (c18 hx5) (.cons (by simp) (.cons (by simp) (.cons hg6 (.cons hg6 (.cons hg6 (.cons hg6 (.cons hg7 (.cons hg7 (.cons hg7 (.cons hg7 (.cons rfl .nil)))))))))))))
    ·replace ht := ite_f ht hg6
     have e := Option.some.inj ht
     subst e
     exact rg0 (obs := [(LesA [.sl (some 1) (List.take (List.map enc_api_Entry x3.1).length (List.drop 0 (List.map enc_api_Entry x3.1))), .sl (some 1) (List.take (List.map enc_api_Entry x4.1).length (List.drop 0 (List.map enc_api_Entry x4.1)))] [.sl (some 1) (List.map enc_api_Entry x3.1), .sl (some 1) (List.map enc_api_Entry x4.1)]), (CallOK Tryd.prog 18 [.sl (some 1) (List.map enc_api_Entry x3.1), .sl (some 1) (List.map enc_api_Entry x4.1)] (.bool x5) true), (0 + (List.map enc_api_Entry x3.1).length ≤ List.length (List.map enc_api_Entry x3.1)), (0 + (List.map enc_api_Entry x4.1).length ≤ List.length (List.map enc_api_Entry x4.1)), (x5 = false), (x5 = false), (x5 = false), (x5 = false), (false = false), (false = false), (false = false), (false = false)]) [hE, hE, hN (.call [] [.sl (some 1) (List.map enc_api_Entry x3.1), .sl (some 1) (List.map enc_api_Entry x4.1)] (.bool x5) true), hE, hS, hS, hS, hN (.pk false), hE, hS, hS, hS, hE, hE, hS, hE, hE] (⟨[(2, pB false)], [], 0⟩) (.cons (.cons (.of_eq (by rw [List.drop_zero, List.take_length])) (.cons (.of_eq (by rw [List.drop_zero, List.take_length])) .nil)) (.cons (c18 hx5) (.cons (by simp) (.cons (by simp) (.cons hg6 (.cons hg6 (.cons hg6 (.cons hg6 (.cons rfl (.cons rfl (.cons rfl (.cons rfl .nil))))))))))))
   ·clear ht
    refine x_toret ?_
    obtain rfl := Option.some.inj h
    exact ret0 (.bool t10) (.refl _) (fun _ => rfl)

end Go.Proofs.YtphblddgbbgdnaaDoor
