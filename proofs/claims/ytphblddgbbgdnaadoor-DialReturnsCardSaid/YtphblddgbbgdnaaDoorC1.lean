/- The functions of the program compute what their plain forms compute; printed by a program of the claim's author. -/
import Derived.Test.YtphblddgbbgdnaaDoorC
import Derived.Test.YtphblddgbbgdnaaDoorS
import Derived.Test.YtphblddgbbgdnaaDoorShelf
import Derived.Test.YtphblddgbbgdnaaDoorVmB
import Derived.Test.YtphblddgbbgdnaaDoorB
namespace Go.Proofs.YtphblddgbbgdnaaDoor
open Go.Vm
set_option autoImplicit false
set_option linter.unusedVariables false
set_option linter.unusedSimpArgs false
set_option maxRecDepth 100000

theorem c12 {s_ : Str} {r : (api_Addr × Int)} (h : dial_Parse s_ = some r) : CallOK Tryd.prog 12 [.str s_] (.tup [enc_api_Addr r.1, .int .i64 r.2]) true := by
  apply ok12
  unfold dial_Parse at h
  refine x_rg (rgn [hE, hE] (⟨[(0, pS s_), (2, .optr 0 0 0)], [(0, some (.p (some 3) [.agg [.str [], .str [], .str []]]))], 1⟩)) ?_
  obtain ⟨x1, hx1, h⟩ := bind_some h
  refine x_rg (rg0 [hE, hN (.cal [] (.usl none (List.map PV.str x1)) true), hE] (⟨[(2, .optr 0 0 0), (4, oL 1 PV.str x1)], [(0, some (.p (some 3) [.agg [.str [], .str [], .str []]])), (1, rL none PV.str x1)], 2⟩) (.cons (c31 hx1) .nil)) ?_
  refine x_seq ?_
  refine x_rg (st2 := ⟨[(2, .optr 0 0 0), (4, oL 1 PV.str x1), (15, pB ((decide ((List.length x1 : Int) < 2)) || (decide (3 < (List.length x1 : Int)))))], [(0, some (.p (some 3) [.agg [.str [], .str [], .str []]])), (1, rL none PV.str x1)], 2⟩) ?_ ?_
  ·rcases Bool.eq_false_or_eq_true (decide ((List.length x1 : Int) < 2)) with hg2 | hg2
   ·exact rg (obs := [((((List.map PV.str x1).length : Nat) : Int) = (List.length x1 : Int)), ((decide ((List.length x1 : Int) < 2)) = true), ((decide ((List.length x1 : Int) < 2)) = true), ((decide ((List.length x1 : Int) < 2)) = true), ((decide ((List.length x1 : Int) < 2)) = true)]) [hE, hN (.len (List.length x1 : Int)), hE, hE, hS, hS, hS, hN (.pk true)] (⟨[(2, .optr 0 0 0), (4, oL 1 PV.str x1), (15, pB true)], [(0, some (.p (some 3) [.agg [.str [], .str [], .str []]])), (1, rL none PV.str x1)], 2⟩) (.cons (by rw [List.length_map]) (.cons hg2 (.cons hg2 (.cons hg2 (.cons hg2 .nil))))) (.of_eq (by simp only [hg2, bs, reduceIte]))
   ·exact rg (obs := [((((List.map PV.str x1).length : Nat) : Int) = (List.length x1 : Int)), ((decide ((List.length x1 : Int) < 2)) = false), ((decide ((List.length x1 : Int) < 2)) = false), ((((List.map PV.str x1).length : Nat) : Int) = (List.length x1 : Int)), ((decide ((List.length x1 : Int) < 2)) = false), ((decide ((List.length x1 : Int) < 2)) = false)]) [hE, hN (.len (List.length x1 : Int)), hE, hE, hY, (.y, (.len (List.length x1 : Int))), hY, hN (.pk false)] (⟨[(2, .optr 0 0 0), (4, oL 1 PV.str x1), (15, pB (decide (3 < (List.length x1 : Int))))], [(0, some (.p (some 3) [.agg [.str [], .str [], .str []]])), (1, rL none PV.str x1)], 2⟩) (.cons (by rw [List.length_map]) (.cons hg2 (.cons hg2 (.cons (by rw [List.length_map]) (.cons hg2 (.cons hg2 .nil)))))) (.of_eq (by simp only [hg2, bs, reduceIte]))
  ·refine x_cond _ rfl (fun hc4 => ?_) (fun hc4 => ?_)
   ·replace h := ite_t h hc4
    refine x_rg (rgn [hE, hE, hE] (⟨[(2, .optr 0 0 0), (3, pI 36)], [(0, some (.p (some 3) [.agg [.str [], .str [], .str []]]))], 1⟩)) ?_
    refine x_toret ?_
    refine x_tr ?_
    obtain rfl := Option.some.inj h
    exact ret0 (.tup [.agg [.str [], .str [], .str []], .int .i64 36]) (.tup (.cons (.refl _) (.cons (.refl _) .nil))) (fun _ => rfl)
   ·replace h := ite_f h hc4
    refine kw0 (⟨[(2, .optr 0 0 0), (4, oL 1 PV.str x1)], [(0, some (.p (some 3) [.agg [.str [], .str [], .str []]])), (1, rL none PV.str x1)], 2⟩) ?_
    refine x_skip ?_
    refine x_tn ?_
    obtain ⟨x5, hx5, h⟩ := bind_some h
    obtain ⟨x6, hx6, h⟩ := bind_some h
    refine x_rg (rg0 (obs := [(0 ≤ (0 : Int) ∧ Int.toNat 0 < (List.map PV.str x1).length), ((List.map PV.str x1)[(0 + Int.toNat 0)]? = some (.str x5)), (0 ≤ (1 : Int) ∧ Int.toNat 1 < (List.map PV.str x1).length), ((List.map PV.str x1)[(0 + Int.toNat 1)]? = some (.str x6))]) [hE, hN .rAt, hN (.ld (.str x5)), hE, hN .rAt, hN (.ld (.str x6)), hE, hE, hE] (⟨[(2, .optr 0 0 0), (4, oL 1 PV.str x1), (5, .optr 2 0 0)], [(0, some (.p (some 3) [.agg [.str [], .str [], .str []]])), (1, rL none PV.str x1), (2, some (.p (some 3) [.agg [.str x5, .str x6, .str []]]))], 3⟩) (.cons (rAt_ob hx5 (by simp)) (.cons (ownAt hx5) (.cons (rAt_ob hx6 (by simp)) (.cons (ownAt hx6) .nil))))) ?_
    refine x_join (τ := Str) (fun t => dial_Parse_K7 x1 x5 x6 t = some r) (fun t => { tm := [(2, .optr 0 0 0), (4, .osl 1 0 (List.map PV.str x1).length), (5, .optr 2 0 0)], hp := [(0, some (.p (some 3) [.agg [.str [], .str [], .str []]])), (1, some (.p none (List.map PV.str x1))), (2, some (.p (some 3) [.agg [.str x5, .str x6, .str t]]))], nx := 3 }) ?_ ?_
    ·rintro p8 h
     replace h : dial_Parse_K7 x1 x5 x6 p8 = some r := h
     unfold dial_Parse_K7 at h
     refine x_seq ?_
     obtain ⟨x9, hx9, h⟩ := bind_some h
     refine x_rg (st2 := ⟨[(2, .optr 0 0 0), (5, .optr 1 0 0), (43, pB ((!x9) || ((decide ((List.length x1 : Int) = 3)) && (decide (p8 = [])))))], [(0, some (.p (some 3) [.agg [.str [], .str [], .str []]])), (1, some (.p (some 3) [.agg [.str x5, .str x6, .str p8]]))], 2⟩) ?_ ?_
     ·rcases Bool.eq_false_or_eq_true (!x9) with hg10 | hg10
      ·exact rg [hE, hN (.cal [] (.bool x9) true), hE, hE, hS, hS, hS, hS, (.u, .e), (.u, .e), (.u, .e), hS, hN (.pk true)] (⟨[(2, .optr 0 0 0), (5, .optr 1 0 0), (43, pB true)], [(0, some (.p (some 3) [.agg [.str [], .str [], .str []]])), (1, some (.p (some 3) [.agg [.str x5, .str x6, .str p8]]))], 2⟩) (.cons (c32 hx9) (.cons hg10 (.cons hg10 (.cons hg10 (.cons hg10 (.cons hg10 (.cons hg10 .nil))))))) (.of_eq (by simp only [hg10, bs, reduceIte]))
      ·rcases Bool.eq_false_or_eq_true (decide ((List.length x1 : Int) = 3)) with hg11 | hg11
       ·exact rg (obs := [(CallOK Tryd.prog 32 [.agg [.str x5, .str x6, .str p8]] (.bool x9) true), ((!x9) = false), ((!x9) = false), ((((List.map PV.str x1).length : Nat) : Int) = (List.length x1 : Int)), ((!x9) = false), ((!x9) = false), ((decide ((List.length x1 : Int) = 3)) = true), ((decide ((List.length x1 : Int) = 3)) = true), ((decide ((List.length x1 : Int) = 3)) = true), ((!x9) = false), ((decide ((List.length x1 : Int) = 3)) = true), ((!x9) = false)]) [hE, hN (.cal [] (.bool x9) true), hE, hE, hY, (.y, (.len (List.length x1 : Int))), hY, hY, hY, hY, hY, (.y, (.pk true)), hN (.pk false)] (⟨[(2, .optr 0 0 0), (5, .optr 1 0 0), (43, pB (decide (p8 = [])))], [(0, some (.p (some 3) [.agg [.str [], .str [], .str []]])), (1, some (.p (some 3) [.agg [.str x5, .str x6, .str p8]]))], 2⟩) (.cons (c32 hx9) (.cons hg10 (.cons hg10 (.cons (by rw [List.length_map]) (.cons hg10 (.cons hg10 (.cons hg11 (.cons hg11 (.cons hg11 (.cons hg10 (.cons hg11 (.cons hg10 .nil)))))))))))) (.of_eq (by simp only [hg10, hg11, bs, reduceIte]))
       ·exact rg (obs := [(CallOK Tryd.prog 32 [.agg [.str x5, .str x6, .str p8]] (.bool x9) true), ((!x9) = false), ((!x9) = false), ((((List.map PV.str x1).length : Nat) : Int) = (List.length x1 : Int)), ((!x9) = false), ((!x9) = false), ((decide ((List.length x1 : Int) = 3)) = false), ((decide ((List.length x1 : Int) = 3)) = false), ((decide ((List.length x1 : Int) = 3)) = false), ((!x9) = false), ((decide ((List.length x1 : Int) = 3)) = false), ((!x9) = false)]) [hE, hN (.cal [] (.bool x9) true), hE, hE, hY, (.y, (.len (List.length x1 : Int))), hY, hY, hS, hS, hS, (.y, (.pk false)), hN (.pk false)] (⟨[(2, .optr 0 0 0), (5, .optr 1 0 0), (43, pB false)], [(0, some (.p (some 3) [.agg [.str [], .str [], .str []]])), (1, some (.p (some 3) [.agg [.str x5, .str x6, .str p8]]))], 2⟩) (.cons (c32 hx9) (.cons hg10 (.cons hg10 (.cons (by rw [List.length_map]) (.cons hg10 (.cons hg10 (.cons hg11 (.cons hg11 (.cons hg11 (.cons hg10 (.cons hg11 (.cons hg10 .nil)))))))))))) (.of_eq (by simp only [hg10, hg11, bs, reduceIte]))
     ·refine x_cond _ rfl (fun hc13 => ?_) (fun hc13 => ?_)
      ·replace h := ite_t h hc13
       refine x_rg (rgn [hE, hE, hE] (⟨[(2, .optr 0 0 0), (3, pI 36)], [(0, some (.p (some 3) [.agg [.str [], .str [], .str []]]))], 1⟩)) ?_
       refine x_toret ?_
       refine x_tr ?_
       obtain rfl := Option.some.inj h
       exact ret0 (.tup [.agg [.str [], .str [], .str []], .int .i64 36]) (.tup (.cons (.refl _) (.cons (.refl _) .nil))) (fun _ => rfl)
      ·replace h := ite_f h hc13
       refine kw0 (⟨[(2, .optr 0 0 0), (5, .optr 1 0 0)], [(0, some (.p (some 3) [.agg [.str [], .str [], .str []]])), (1, some (.p (some 3) [.agg [.str x5, .str x6, .str p8]]))], 2⟩) ?_
       refine x_skip ?_
       refine x_tn ?_
       refine x_rg (rgn [hE, hE, hE] (⟨[(2, .optr 0 0 0), (3, pI 0)], [(0, some (.p (some 3) [.agg [.str x5, .str x6, .str p8]]))], 1⟩)) ?_
       refine x_toret ?_
       obtain rfl := Option.some.inj h
       exact ret0 (.tup [.agg [.str x5, .str x6, .str p8], .int .i64 0]) (.tup (.cons (.refl _) (.cons (.refl _) .nil))) (fun _ => rfl)
    ·refine x_rg (rg0 (obs := [((((List.map PV.str x1).length : Nat) : Int) = (List.length x1 : Int))]) [hE, hN (.len (List.length x1 : Int)), hE] (⟨[(2, .optr 0 0 0), (4, oL 1 PV.str x1), (5, .optr 2 0 0), (26, pB (decide ((List.length x1 : Int) = 3)))], [(0, some (.p (some 3) [.agg [.str [], .str [], .str []]])), (1, rL none PV.str x1), (2, some (.p (some 3) [.agg [.str x5, .str x6, .str []]]))], 3⟩) (.cons (by rw [List.length_map]) .nil)) ?_
     refine x_cond _ rfl (fun hc14 => ?_) (fun hc14 => ?_)
     ·replace h := ite_t h hc14
      obtain ⟨x15, hx15, h⟩ := bind_some h
      refine x_rgt (rg0 (obs := [(0 ≤ (2 : Int) ∧ Int.toNat 2 < (List.map PV.str x1).length), ((List.map PV.str x1)[(0 + Int.toNat 2)]? = some (.str x15))]) [hE, hN .rAt, hN (.ld (.str x15)), hE, hE] (⟨[(2, .optr 0 0 0), (4, oL 1 PV.str x1), (5, .optr 2 0 0)], [(0, some (.p (some 3) [.agg [.str [], .str [], .str []]])), (1, rL none PV.str x1), (2, some (.p (some 3) [.agg [.str x5, .str x6, .str x15]]))], 3⟩) (.cons (rAt_ob hx15 (by simp)) (.cons (ownAt hx15) .nil))) ?_
      refine x_tn ?_
      exact ⟨x15, h, by kernel_rfl⟩
     ·replace h := ite_f h hc14
      refine kw0 (⟨[(2, .optr 0 0 0), (4, oL 1 PV.str x1), (5, .optr 2 0 0)], [(0, some (.p (some 3) [.agg [.str [], .str [], .str []]])), (1, rL none PV.str x1), (2, some (.p (some 3) [.agg [.str x5, .str x6, .str []]]))], 3⟩) ?_
      refine x_skip ?_
      refine x_tn ?_
      exact ⟨[], h, by kernel_rfl⟩

theorem c11 {r : Bool} (h : law27_awake = some r) : CallOK Tryd.prog 11 [] (.bool r) true := by
  apply ok11
  unfold law27_awake at h
  refine x_rg (rgn [hE] (⟨[], [], 0⟩)) ?_
  obtain ⟨x1, hx1, h⟩ := bind_some h
  refine x_rg (rg0 [hN (.cal [] (.tup [.usl (some 1) (List.map enc_api_Entry x1.1), .int .i64 x1.2.1, .int .i64 x1.2.2]) false), hE, hE, hE, hE, hE, hE, hE] (⟨[(1, oL 0 enc_api_Entry x1.1), (2, pI x1.2.1), (3, pI x1.2.2)], [(0, rL (some 1) enc_api_Entry x1.1)], 1⟩) (.cons (c16 hx1) .nil)) ?_
  refine x_seq ?_
  obtain ⟨t6, ht, h⟩ := bind_some h
  refine x_rg (st2 := ⟨[(1, oL 0 enc_api_Entry x1.1), (31, pB t6)], [(0, rL (some 1) enc_api_Entry x1.1)], 1⟩) ?_ ?_
  ·rcases Bool.eq_false_or_eq_true (!decide (x1.2.2 = 0)) with hg2 | hg2
   ·replace ht := ite_t ht hg2
    have e := Option.some.inj ht
    subst e
    exact rg0 [hE, hE, hE, hS, hS, hN (.pk true), hE, hS, hS, hS, hE, hE, hS, hS, hS, hS, hS, hS, hE] (⟨[(1, oL 0 enc_api_Entry x1.1), (31, pB true)], [(0, rL (some 1) enc_api_Entry x1.1)], 1⟩) (.cons hg2 (.cons hg2 (.cons hg2 (.cons tt (.cons tt (.cons tt (.cons tt (.cons tt (.cons tt (.cons tt (.cons tt (.cons tt .nil))))))))))))
   ·replace ht := ite_f ht hg2
    rcases Bool.eq_false_or_eq_true (!decide (x1.2.1 = 0)) with hg3 | hg3
    ·replace ht := ite_t ht hg3
     have e := Option.some.inj ht
     subst e
     exact rg0 [hE, hE, hE, hY, hY, hN (.pk false), hE, hS, hS, hS, hN (.pk true), hE, hS, hS, hS, hS, hS, hS, hE] (⟨[(1, oL 0 enc_api_Entry x1.1), (31, pB true)], [(0, rL (some 1) enc_api_Entry x1.1)], 1⟩) (.cons hg2 (.cons hg2 (.cons hg2 (.cons hg3 (.cons hg3 (.cons hg3 (.cons hg3 (.cons tt (.cons tt (.cons tt (.cons tt (.cons tt (.cons tt .nil)))))))))))))
    ·replace ht := ite_f ht hg3
     rcases Bool.eq_false_or_eq_true (!decide ((List.length x1.1 : Int) = 3)) with hg4 | hg4
     ·replace ht := ite_t ht hg4
      have e := Option.some.inj ht
      subst e
      exact rg0 (obs := [((!decide (x1.2.2 = 0)) = false), ((!decide (x1.2.2 = 0)) = false), ((!decide (x1.2.2 = 0)) = false), ((!decide (x1.2.1 = 0)) = false), ((!decide (x1.2.1 = 0)) = false), ((((List.map enc_api_Entry x1.1).length : Nat) : Int) = (List.length x1.1 : Int)), ((!decide (x1.2.1 = 0)) = false), ((!decide (x1.2.1 = 0)) = false), ((!decide ((List.length x1.1 : Int) = 3)) = true), ((!decide ((List.length x1.1 : Int) = 3)) = true), ((!decide ((List.length x1.1 : Int) = 3)) = true), ((!decide ((List.length x1.1 : Int) = 3)) = true), ((!decide ((List.length x1.1 : Int) = 3)) = true), ((!decide ((List.length x1.1 : Int) = 3)) = true), ((!decide ((List.length x1.1 : Int) = 3)) = true)]) [hE, hE, hE, hY, hY, hN (.pk false), hE, hY, (.y, (.len (List.length x1.1 : Int))), hY, hN (.pk false), hE, hS, hS, hS, hS, hS, hS, hN (.pk true)] (⟨[(1, oL 0 enc_api_Entry x1.1), (31, pB true)], [(0, rL (some 1) enc_api_Entry x1.1)], 1⟩) (.cons hg2 (.cons hg2 (.cons hg2 (.cons hg3 (.cons hg3 (.cons (by rw [List.length_map]) (.cons hg3 (.cons hg3 (.cons hg4 (.cons hg4 (.cons hg4 (.cons hg4 (.cons hg4 (.cons hg4 (.cons hg4 .nil)))))))))))))))
     ·replace ht := ite_f ht hg4
      obtain ⟨x5, hx5, ht⟩ := bind_some ht
      have e := Option.some.inj ht
      subst e
      exact rg0 (obs := [((!decide (x1.2.2 = 0)) = false), ((!decide (x1.2.2 = 0)) = false), ((!decide (x1.2.2 = 0)) = false), ((!decide (x1.2.1 = 0)) = false), ((!decide (x1.2.1 = 0)) = false), ((((List.map enc_api_Entry x1.1).length : Nat) : Int) = (List.length x1.1 : Int)), ((!decide (x1.2.1 = 0)) = false), ((!decide (x1.2.1 = 0)) = false), ((!decide ((List.length x1.1 : Int) = 3)) = false), ((!decide ((List.length x1.1 : Int) = 3)) = false), (0 ≤ (1 : Int) ∧ Int.toNat 1 < (List.map enc_api_Entry x1.1).length), ((!decide ((List.length x1.1 : Int) = 3)) = false), ((!decide ((List.length x1.1 : Int) = 3)) = false), ((List.map enc_api_Entry x1.1)[(0 + Int.toNat 1)]? = some (enc_api_Entry x5)), ((!decide ((List.length x1.1 : Int) = 3)) = false), ((List.length (List.map enc_api_Attr x5.Attrs) : Int) = (List.length x5.Attrs : Int)), ((!decide ((List.length x1.1 : Int) = 3)) = false), ((!decide ((List.length x1.1 : Int) = 3)) = false)]) [hE, hE, hE, hY, hY, hN (.pk false), hE, hY, (.y, (.len (List.length x1.1 : Int))), hY, hN (.pk false), hE, hY, (.y, .rAt), hY, (.y, (.ld (enc_api_Entry x5))), (.y, (.len (List.length x5.Attrs : Int))), hY, hN (.pk false)] (⟨[(1, oL 0 enc_api_Entry x1.1), (31, pB (!decide ((List.length x5.Attrs : Int) = 2)))], [(0, rL (some 1) enc_api_Entry x1.1)], 1⟩) (.cons hg2 (.cons hg2 (.cons hg2 (.cons hg3 (.cons hg3 (.cons (by rw [List.length_map]) (.cons hg3 (.cons hg3 (.cons hg4 (.cons hg4 (.cons (rAt_ob hx5 (by simp)) (.cons hg4 (.cons hg4 (.cons (ownAt hx5) (.cons hg4 (.cons (by rw [List.length_map]) (.cons hg4 (.cons hg4 .nil))))))))))))))))))
  ·clear ht
   refine x_cond _ rfl (fun hc7 => ?_) (fun hc7 => ?_)
   ·replace h := ite_t h hc7
    refine x_rg (rgn [hE] (⟨[(0, pB false)], [], 0⟩)) ?_
    refine x_toret ?_
    refine x_tr ?_
    obtain rfl := Option.some.inj h
    exact ret0 (.bool false) (.refl _) (fun _ => rfl)
   ·replace h := ite_f h hc7
    refine kw0 (⟨[(1, oL 0 enc_api_Entry x1.1)], [(0, rL (some 1) enc_api_Entry x1.1)], 1⟩) ?_
    refine x_skip ?_
    refine x_tn ?_
    obtain ⟨x8, hx8, h⟩ := bind_some h
    refine x_rg (rg0 (obs := [(LesA [.sl (some 1) (List.take (List.map enc_api_Entry x1.1).length (List.drop 0 (List.map enc_api_Entry x1.1))), .str [116, 101, 114, 109], .agg [.str [110, 101, 116], .str [102, 115], .str []]] [.sl (some 1) (List.map enc_api_Entry x1.1), .str [116, 101, 114, 109], .agg [.str [110, 101, 116], .str [102, 115], .str []]]), (CallOK Tryd.prog 22 [.sl (some 1) (List.map enc_api_Entry x1.1), .str [116, 101, 114, 109], .agg [.str [110, 101, 116], .str [102, 115], .str []]] (.tup [.usl (some 3) (List.map enc_api_Addr x8.1), .int .i64 x8.2]) true), (0 + (List.map enc_api_Entry x1.1).length ≤ List.length (List.map enc_api_Entry x1.1))]) [hE, hE, hN (.call [] [.sl (some 1) (List.map enc_api_Entry x1.1), .str [116, 101, 114, 109], .agg [.str [110, 101, 116], .str [102, 115], .str []]] (.tup [.usl (some 3) (List.map enc_api_Addr x8.1), .int .i64 x8.2]) true), hE, hE, hE, hE, hE] (⟨[(3, pI x8.2), (4, oL 0 enc_api_Addr x8.1)], [(0, rL (some 3) enc_api_Addr x8.1)], 1⟩) (.cons (.cons (.of_eq (by rw [List.drop_zero, List.take_length])) (.cons (.refl _) (.cons (.refl _) .nil))) (.cons (c22 hx8) (.cons (by simp) .nil)))) ?_
    refine x_seq ?_
    refine x_rg (st2 := ⟨[(4, oL 0 enc_api_Addr x8.1), (44, pB ((!decide (x8.2 = 0)) || (!decide ((List.length x8.1 : Int) = 1))))], [(0, rL (some 3) enc_api_Addr x8.1)], 1⟩) ?_ ?_
    ·rcases Bool.eq_false_or_eq_true (!decide (x8.2 = 0)) with hg9 | hg9
     ·exact rg [hE, hE, hE, hS, hS, hS, hN (.pk true)] (⟨[(4, oL 0 enc_api_Addr x8.1), (44, pB true)], [(0, rL (some 3) enc_api_Addr x8.1)], 1⟩) (.cons hg9 (.cons hg9 (.cons hg9 (.cons hg9 .nil)))) (.of_eq (by simp only [hg9, bs, reduceIte]))
     ·exact rg (obs := [((!decide (x8.2 = 0)) = false), ((!decide (x8.2 = 0)) = false), ((((List.map enc_api_Addr x8.1).length : Nat) : Int) = (List.length x8.1 : Int)), ((!decide (x8.2 = 0)) = false), ((!decide (x8.2 = 0)) = false)]) [hE, hE, hE, hY, (.y, (.len (List.length x8.1 : Int))), hY, hN (.pk false)] (⟨[(4, oL 0 enc_api_Addr x8.1), (44, pB (!decide ((List.length x8.1 : Int) = 1)))], [(0, rL (some 3) enc_api_Addr x8.1)], 1⟩) (.cons hg9 (.cons hg9 (.cons (by rw [List.length_map]) (.cons hg9 (.cons hg9 .nil))))) (.of_eq (by simp only [hg9, bs, reduceIte]))
    ·refine x_cond _ rfl (fun hc11 => ?_) (fun hc11 => ?_)
     ·replace h := ite_t h hc11
      refine x_rg (rgn [hE] (⟨[(0, pB false)], [], 0⟩)) ?_
      refine x_toret ?_
      refine x_tr ?_
      obtain rfl := Option.some.inj h
      exact ret0 (.bool false) (.refl _) (fun _ => rfl)
     ·replace h := ite_f h hc11
      refine kw0 (⟨[(4, oL 0 enc_api_Addr x8.1)], [(0, rL (some 3) enc_api_Addr x8.1)], 1⟩) ?_
      refine x_skip ?_
      refine x_tn ?_
      obtain ⟨x12, hx12, h⟩ := bind_some h
      obtain ⟨x13, hx13, h⟩ := bind_some h
      refine x_rg (rg0 (obs := [(0 ≤ (0 : Int) ∧ Int.toNat 0 < (List.map enc_api_Addr x8.1).length), ((List.map enc_api_Addr x8.1)[(0 + Int.toNat 0)]? = some (enc_api_Addr x12)), (CallOK Tryd.prog 14 [enc_api_Addr x12] (.tup [.str x13.1, .int .i64 x13.2]) true)]) [hE, hN .rAt, hN (.ld (enc_api_Addr x12)), hN (.cal [] (.tup [.str x13.1, .int .i64 x13.2]) true), hE, hE, hE, hE, hE] (⟨[(3, pI x13.2), (4, oL 0 enc_api_Addr x8.1), (5, pS x13.1)], [(0, rL (some 3) enc_api_Addr x8.1)], 1⟩) (.cons (rAt_ob hx12 (by simp)) (.cons (ownAt hx12) (.cons (c14 hx13) .nil)))) ?_
      obtain ⟨x14, hx14, h⟩ := bind_some h
      refine x_rg (rg0 [hN (.cal [] (.tup [enc_api_Addr x14.1, .int .i64 x14.2]) true), hE, hE, hE, hE, hE, hE] (⟨[(3, pI x13.2), (4, oL 0 enc_api_Addr x8.1), (5, pS x13.1), (6, .optr 1 0 0), (7, pI x14.2)], [(0, rL (some 3) enc_api_Addr x8.1), (1, some (.p (some 3) [enc_api_Addr x14.1]))], 2⟩) (.cons (c12 hx14) .nil)) ?_
      obtain ⟨t19, ht, h⟩ := bind_some h
      refine x_rg (st2 := ⟨[(0, pB t19)], [], 0⟩) ?_ ?_
      ·rcases Bool.eq_false_or_eq_true (decide (x13.1 = [116, 99, 112, 33, 102, 115, 33, 53, 54, 52])) with hg15 | hg15
       ·replace ht := ite_t ht hg15
        rcases Bool.eq_false_or_eq_true (decide (x13.2 = 0)) with hg16 | hg16
        ·replace ht := ite_t ht hg16
         obtain ⟨x17, hx17, ht⟩ := bind_some ht
         rcases Bool.eq_false_or_eq_true (decide (x14.1.Net = x17.Net) && (decide (x14.1.Host = x17.Host) && (decide (x14.1.Service = x17.Service) && true))) with hg18 | hg18
         ·replace ht := ite_t ht hg18
          have e := Option.some.inj ht
          subst e
          exact rg0 (obs := [((decide (x13.1 = [116, 99, 112, 33, 102, 115, 33, 53, 54, 52])) = true), ((decide (x13.1 = [116, 99, 112, 33, 102, 115, 33, 53, 54, 52])) = true), ((decide (x13.1 = [116, 99, 112, 33, 102, 115, 33, 53, 54, 52])) = true), ((decide (x13.2 = 0)) = true), ((decide (x13.2 = 0)) = true), ((decide (x13.2 = 0)) = true), (0 ≤ (0 : Int) ∧ Int.toNat 0 < (List.map enc_api_Addr x8.1).length), ((decide (x13.2 = 0)) = true), ((List.map enc_api_Addr x8.1)[(0 + Int.toNat 0)]? = some (enc_api_Addr x17)), ((decide (x13.2 = 0)) = true), ((decide (x13.2 = 0)) = true), ((decide (x14.1.Net = x17.Net) && (decide (x14.1.Host = x17.Host) && (decide (x14.1.Service = x17.Service) && true))) = true), ((decide (x14.1.Net = x17.Net) && (decide (x14.1.Host = x17.Host) && (decide (x14.1.Service = x17.Service) && true))) = true), ((decide (x14.1.Net = x17.Net) && (decide (x14.1.Host = x17.Host) && (decide (x14.1.Service = x17.Service) && true))) = true)]) [hE, hE, hE, hY, hY, hN (.pk true), hE, hY, hY, (.y, .rAt), (.y, (.ld (enc_api_Addr x17))), hY, hN (.pk true), hE, hY, hY, hN (.pk true), hE] (⟨[(0, pB (decide (x14.2 = 0)))], [], 0⟩) (.cons hg15 (.cons hg15 (.cons hg15 (.cons hg16 (.cons hg16 (.cons hg16 (.cons (rAt_ob hx17 (by simp)) (.cons hg16 (.cons (ownAt hx17) (.cons hg16 (.cons hg16 (.cons hg18 (.cons hg18 (.cons hg18 .nil))))))))))))))
         ·replace ht := ite_f ht hg18
          have e := Option.some.inj ht
          subst e
          exact rg0 (obs := [((decide (x13.1 = [116, 99, 112, 33, 102, 115, 33, 53, 54, 52])) = true), ((decide (x13.1 = [116, 99, 112, 33, 102, 115, 33, 53, 54, 52])) = true), ((decide (x13.1 = [116, 99, 112, 33, 102, 115, 33, 53, 54, 52])) = true), ((decide (x13.2 = 0)) = true), ((decide (x13.2 = 0)) = true), ((decide (x13.2 = 0)) = true), (0 ≤ (0 : Int) ∧ Int.toNat 0 < (List.map enc_api_Addr x8.1).length), ((decide (x13.2 = 0)) = true), ((List.map enc_api_Addr x8.1)[(0 + Int.toNat 0)]? = some (enc_api_Addr x17)), ((decide (x13.2 = 0)) = true), ((decide (x13.2 = 0)) = true), ((decide (x14.1.Net = x17.Net) && (decide (x14.1.Host = x17.Host) && (decide (x14.1.Service = x17.Service) && true))) = false), ((decide (x14.1.Net = x17.Net) && (decide (x14.1.Host = x17.Host) && (decide (x14.1.Service = x17.Service) && true))) = false), ((decide (x14.1.Net = x17.Net) && (decide (x14.1.Host = x17.Host) && (decide (x14.1.Service = x17.Service) && true))) = false)]) [hE, hE, hE, hY, hY, hN (.pk true), hE, hY, hY, (.y, .rAt), (.y, (.ld (enc_api_Addr x17))), hY, hN (.pk true), hE, hS, hS, hN (.pk false), hE] (⟨[(0, pB false)], [], 0⟩) (.cons hg15 (.cons hg15 (.cons hg15 (.cons hg16 (.cons hg16 (.cons hg16 (.cons (rAt_ob hx17 (by simp)) (.cons hg16 (.cons (ownAt hx17) (.cons hg16 (.cons hg16 (.cons hg18 (.cons hg18 (.cons hg18 .nil))))))))))))))
        ·replace ht := ite_f ht hg16
         have e := Option.some.inj ht
         subst e
         exact rg0 (obs := [((decide (x13.1 = [116, 99, 112, 33, 102, 115, 33, 53, 54, 52])) = true), ((decide (x13.1 = [116, 99, 112, 33, 102, 115, 33, 53, 54, 52])) = true), ((decide (x13.1 = [116, 99, 112, 33, 102, 115, 33, 53, 54, 52])) = true), ((decide (x13.2 = 0)) = false), ((decide (x13.2 = 0)) = false), ((decide (x13.2 = 0)) = false), ((decide (x13.2 = 0)) = false), ((decide (x13.2 = 0)) = false), ((decide (x13.2 = 0)) = false), (false = false), (false = false)]) [hE, hE, hE, hY, hY, hN (.pk true), hE, hS, hS, hS, hS, hS, hN (.pk false), hE, hS, hS, hE, hE] (⟨[(0, pB false)], [], 0⟩) (.cons hg15 (.cons hg15 (.cons hg15 (.cons hg16 (.cons hg16 (.cons hg16 (.cons hg16 (.cons hg16 (.cons hg16 (.cons rfl (.cons rfl .nil)))))))))))
       ·replace ht := ite_f ht hg15
        have e := Option.some.inj ht
        subst e
        exact rg0 (obs := [((decide (x13.1 = [116, 99, 112, 33, 102, 115, 33, 53, 54, 52])) = false), ((decide (x13.1 = [116, 99, 112, 33, 102, 115, 33, 53, 54, 52])) = false), ((decide (x13.1 = [116, 99, 112, 33, 102, 115, 33, 53, 54, 52])) = false), (false = false), (false = false), (false = false), (false = false), (false = false), (false = false), (false = false)]) [hE, hE, hE, hS, hS, hN (.pk false), hE, hS, hS, hS, hS, hS, hE, hE, hS, hS, hE, hE] (⟨[(0, pB false)], [], 0⟩) (.cons hg15 (.cons hg15 (.cons hg15 (.cons rfl (.cons rfl (.cons rfl (.cons rfl (.cons rfl (.cons rfl (.cons rfl .nil))))))))))
      ·clear ht
       refine x_toret ?_
       obtain rfl := Option.some.inj h
       exact ret0 (.bool t19) (.refl _) (fun _ => rfl)

theorem c54 {s_ : Str} {more : Str} {most : Int} {r : Bool} (h : ref27_letters s_ more most = some r) : CallOK Tryd.prog 54 [.str s_, .str more, .int .i64 most] (.bool r) true := by
  apply ok54
  unfold ref27_letters at h
  refine x_rg (rgn [hE] (⟨[(0, pS s_), (1, pS more), (2, pI most)], [], 0⟩)) ?_
  refine x_seq ?_
  refine x_rg (rgn [hE] (⟨[(0, pS s_), (1, pS more), (2, pI most), (7, pI 0)], [], 0⟩)) ?_
  refine x_block ?_
  refine kw0 (⟨[(0, pS s_), (1, pS more), (2, pI most), (7, pI 0)], [], 0⟩) ?_
  refine x_loop (σ := Int) h (fun s => ⟨[(0, pS s_), (1, pS more), (2, pI most), (7, pI s)], [], 0⟩) (by kernel_rfl) ?_ ?_
  ·rintro i
   kernel_rfl
  ·rintro i x29 h hx29
   replace h : ref27_letters_L29 s_ more most i = some x29 := h
   unfold ref27_letters_L29 at h
   refine x_seq ?_
   refine x_rg (rgn [hE, hE, hE, hE] (⟨[(0, pS s_), (1, pS more), (2, pI most), (7, pI i), (13, pB (decide (i < (List.length s_ : Int))))], [], 0⟩)) ?_
   refine x_cond _ rfl (fun hc30 => ?_) (fun hc30 => ?_)
   ·replace h := ite_t h hc30
    refine kw0 (⟨[(0, pS s_), (1, pS more), (2, pI most), (7, pI i)], [], 0⟩) ?_
    refine x_skip ?_
    refine x_tn ?_
    refine x_seq ?_
    refine x_block ?_
    obtain ⟨c31, hc31, h⟩ := bind_some h
    obtain ⟨t41, ht, h⟩ := bind_some h
    refine x_rg (st2 := ⟨[(0, pS s_), (1, pS more), (2, pI most), (7, pI i), (8, pB t41)], [], 0⟩) ?_ ?_
    ·rcases Bool.eq_false_or_eq_true (decide (97 ≤ (c31.toNat : Int))) with hg32 | hg32
     ·replace ht := ite_t ht hg32
      obtain ⟨c33, hc33, ht⟩ := bind_some ht
      rcases Bool.eq_false_or_eq_true (decide ((c33.toNat : Int) ≤ 122)) with hg34 | hg34
      ·replace ht := ite_t ht hg34
       have e := Option.some.inj ht
       subst e
       exact rg0 [hE, hE, hN (.sAt c31), hE, hE, hY, hY, (.y, (.sAt c33)), hY, hN (.pk true), hE, hS, hS, hS, hS, hS, (.u, .e), (.u, .e), (.u, .e), (.u, .e), hS, hN (.pk true), hE] (⟨[(0, pS s_), (1, pS more), (2, pI most), (7, pI i), (8, pB true)], [], 0⟩) (.cons hc31 (.cons hg32 (.cons hg32 (.cons hg32 (.cons hc33 (.cons hg32 (.cons hg32 (.cons hg34 (.cons hg34 (.cons hg34 (.cons hg34 (.cons hg34 (.cons hg34 (.cons hg34 .nil))))))))))))))
      ·replace ht := ite_f ht hg34
       obtain ⟨c35, hc35, ht⟩ := bind_some ht
       rcases Bool.eq_false_or_eq_true (decide (48 ≤ (c35.toNat : Int))) with hg36 | hg36
       ·replace ht := ite_t ht hg36
        obtain ⟨c37, hc37, ht⟩ := bind_some ht
        have e := Option.some.inj ht
        subst e
        exact rg0 [hE, hE, hN (.sAt c31), hE, hE, hY, hY, (.y, (.sAt c33)), hY, hN (.pk true), hE, hY, hY, (.y, (.sAt c35)), hY, hY, hY, hY, (.y, (.sAt c37)), hY, (.y, (.pk true)), hN (.pk false), hE] (⟨[(0, pS s_), (1, pS more), (2, pI most), (7, pI i), (8, pB (decide ((c37.toNat : Int) ≤ 57)))], [], 0⟩) (.cons hc31 (.cons hg32 (.cons hg32 (.cons hg32 (.cons hc33 (.cons hg32 (.cons hg32 (.cons hg34 (.cons hg34 (.cons hg34 (.cons hc35 (.cons hg34 (.cons hg34 (.cons hg36 (.cons hg36 (.cons hg36 (.cons hc37 (.cons hg36 (.cons hg34 (.cons hg36 (.cons hg34 .nil)))))))))))))))))))))
       ·replace ht := ite_f ht hg36
        have e := Option.some.inj ht
        subst e
        exact rg0 [hE, hE, hN (.sAt c31), hE, hE, hY, hY, (.y, (.sAt c33)), hY, hN (.pk true), hE, hY, hY, (.y, (.sAt c35)), hY, hY, hS, hS, hS, hS, (.y, (.pk false)), hN (.pk false), hE] (⟨[(0, pS s_), (1, pS more), (2, pI most), (7, pI i), (8, pB false)], [], 0⟩) (.cons hc31 (.cons hg32 (.cons hg32 (.cons hg32 (.cons hc33 (.cons hg32 (.cons hg32 (.cons hg34 (.cons hg34 (.cons hg34 (.cons hc35 (.cons hg34 (.cons hg34 (.cons hg36 (.cons hg36 (.cons hg36 (.cons hg36 (.cons hg34 (.cons hg36 (.cons hg34 .nil))))))))))))))))))))
     ·replace ht := ite_f ht hg32
      obtain ⟨c38, hc38, ht⟩ := bind_some ht
      rcases Bool.eq_false_or_eq_true (decide (48 ≤ (c38.toNat : Int))) with hg39 | hg39
      ·replace ht := ite_t ht hg39
       obtain ⟨c40, hc40, ht⟩ := bind_some ht
       have e := Option.some.inj ht
       subst e
       exact rg0 (obs := [(strAt s_ i = some c31), ((decide (97 ≤ (c31.toNat : Int))) = false), ((decide (97 ≤ (c31.toNat : Int))) = false), ((decide (97 ≤ (c31.toNat : Int))) = false), ((decide (97 ≤ (c31.toNat : Int))) = false), ((decide (97 ≤ (c31.toNat : Int))) = false), (false = false), (false = false), (false = false), (strAt s_ i = some c38), (false = false), (false = false), ((decide (48 ≤ (c38.toNat : Int))) = true), ((decide (48 ≤ (c38.toNat : Int))) = true), ((decide (48 ≤ (c38.toNat : Int))) = true), (strAt s_ i = some c40), ((decide (48 ≤ (c38.toNat : Int))) = true), (false = false), ((decide (48 ≤ (c38.toNat : Int))) = true)]) [hE, hE, hN (.sAt c31), hE, hE, hS, hS, hS, hS, hN (.pk false), hE, hY, hY, (.y, (.sAt c38)), hY, hY, hY, hY, (.y, (.sAt c40)), hY, (.y, (.pk true)), hE, hE] (⟨[(0, pS s_), (1, pS more), (2, pI most), (7, pI i), (8, pB (decide ((c40.toNat : Int) ≤ 57)))], [], 0⟩) (.cons hc31 (.cons hg32 (.cons hg32 (.cons hg32 (.cons hg32 (.cons hg32 (.cons rfl (.cons rfl (.cons rfl (.cons hc38 (.cons rfl (.cons rfl (.cons hg39 (.cons hg39 (.cons hg39 (.cons hc40 (.cons hg39 (.cons rfl (.cons hg39 .nil)))))))))))))))))))
      ·replace ht := ite_f ht hg39
       have e := Option.some.inj ht
       subst e
       exact rg0 (obs := [(strAt s_ i = some c31), ((decide (97 ≤ (c31.toNat : Int))) = false), ((decide (97 ≤ (c31.toNat : Int))) = false), ((decide (97 ≤ (c31.toNat : Int))) = false), ((decide (97 ≤ (c31.toNat : Int))) = false), ((decide (97 ≤ (c31.toNat : Int))) = false), (false = false), (false = false), (false = false), (strAt s_ i = some c38), (false = false), (false = false), ((decide (48 ≤ (c38.toNat : Int))) = false), ((decide (48 ≤ (c38.toNat : Int))) = false), ((decide (48 ≤ (c38.toNat : Int))) = false), ((decide (48 ≤ (c38.toNat : Int))) = false), (false = false), ((decide (48 ≤ (c38.toNat : Int))) = false)]) [hE, hE, hN (.sAt c31), hE, hE, hS, hS, hS, hS, hN (.pk false), hE, hY, hY, (.y, (.sAt c38)), hY, hY, hS, hS, hS, hS, (.y, (.pk false)), hE, hE] (⟨[(0, pS s_), (1, pS more), (2, pI most), (7, pI i), (8, pB false)], [], 0⟩) (.cons hc31 (.cons hg32 (.cons hg32 (.cons hg32 (.cons hg32 (.cons hg32 (.cons rfl (.cons rfl (.cons rfl (.cons hc38 (.cons rfl (.cons rfl (.cons hg39 (.cons hg39 (.cons hg39 (.cons hg39 (.cons rfl (.cons hg39 .nil))))))))))))))))))
    ·clear ht
     refine x_seq ?_
     refine x_rg (rgn [hE] (⟨[(0, pS s_), (1, pS more), (2, pI most), (7, pI i), (8, pB t41), (9, pI 0)], [], 0⟩)) ?_
     refine x_block ?_
     refine kw0 (⟨[(0, pS s_), (1, pS more), (2, pI most), (7, pI i), (8, pB t41), (9, pI 0)], [], 0⟩) ?_
     refine x_loop (σ := (Bool × Int)) h (fun s => ⟨[(0, pS s_), (1, pS more), (2, pI most), (7, pI i), (8, pB s.1), (9, pI s.2)], [], 0⟩) (by kernel_rfl) ?_ ?_
     ·rintro ⟨ok, k⟩
      kernel_rfl
     ·rintro ⟨ok, k⟩ x49 h hx49
      replace h : ref27_letters_L49 s_ more i ok k = some x49 := h
      unfold ref27_letters_L49 at h
      refine x_seq ?_
      refine x_rg (rgn [hE, hE, hE, hE] (⟨[(0, pS s_), (1, pS more), (2, pI most), (7, pI i), (8, pB ok), (9, pI k), (41, pB (decide (k < (List.length more : Int))))], [], 0⟩)) ?_
      refine x_cond _ rfl (fun hc50 => ?_) (fun hc50 => ?_)
      ·replace h := ite_t h hc50
       refine kw0 (⟨[(0, pS s_), (1, pS more), (2, pI most), (7, pI i), (8, pB ok), (9, pI k)], [], 0⟩) ?_
       refine x_skip ?_
       refine x_tn ?_
       refine x_seq ?_
       refine x_block ?_
       obtain ⟨t54, ht, h⟩ := bind_some h
       refine x_rgt (st2 := ⟨[(0, pS s_), (1, pS more), (2, pI most), (7, pI i), (8, pB t54), (9, pI k)], [], 0⟩) ?_ ?_
       ·rcases Bool.eq_false_or_eq_true ok with hg51 | hg51
        ·replace ht := ite_t ht hg51
         have e := Option.some.inj ht
         subst e
         exact rg0 [hE, hE, hS, hS, hS, hS, hS, hS, hS, hN (.pk true), hE] (⟨[(0, pS s_), (1, pS more), (2, pI most), (7, pI i), (8, pB true), (9, pI k)], [], 0⟩) (.cons hg51 (.cons hg51 (.cons hg51 (.cons hg51 (.cons hg51 (.cons hg51 (.cons hg51 (.cons hg51 .nil))))))))
        ·replace ht := ite_f ht hg51
         obtain ⟨c52, hc52, ht⟩ := bind_some ht
         obtain ⟨c53, hc53, ht⟩ := bind_some ht
         have e := Option.some.inj ht
         subst e
         exact rg0 [hE, hE, hY, hY, (.y, (.sAt c52)), hY, hY, (.y, (.sAt c53)), hY, hN (.pk false), hE] (⟨[(0, pS s_), (1, pS more), (2, pI most), (7, pI i), (8, pB (decide ((c52.toNat : Int) = (c53.toNat : Int)))), (9, pI k)], [], 0⟩) (.cons hg51 (.cons hg51 (.cons hg51 (.cons hc52 (.cons hg51 (.cons hg51 (.cons hg51 (.cons hc53 (.cons hg51 (.cons hg51 .nil))))))))))
       ·clear ht
        refine x_bn ?_
        refine x_tn ?_
        refine x_rgt (rgn [hE, hE, hE] (⟨[(0, pS s_), (1, pS more), (2, pI most), (7, pI i), (8, pB t54), (9, pI (IntKind.wrap .i64 (k + 1)))], [], 0⟩)) ?_
        refine x_tn ?_
        exact ⟨_, (Option.some.inj h).symm, by kernel_rfl⟩
      ·replace h := ite_f h hc50
       refine kw0 (⟨[(0, pS s_), (1, pS more), (2, pI most), (7, pI i), (8, pB ok)], [], 0⟩) ?_
       refine x_exit ?_
       refine x_te ?_
       refine x_te ?_
       replace h := done_map h hx49
       unfold ref27_letters_A56 at h
       refine x_bh ?_
       refine x_tn ?_
       refine x_rg (rgn [hE, hE] (⟨[(0, pS s_), (1, pS more), (2, pI most), (7, pI i), (55, pB (!ok))], [], 0⟩)) ?_
       refine x_cond _ rfl (fun hc55 => ?_) (fun hc55 => ?_)
       ·replace h := ite_t h hc55
        refine x_rg (rgn [hE] (⟨[(6, pB false)], [], 0⟩)) ?_
        refine x_toret ?_
        refine x_br ?_
        refine x_tr ?_
        refine x_tr ?_
        replace h := done_leaf h hx29
        refine x_br ?_
        refine x_tr ?_
        obtain rfl := Option.some.inj h
        exact ret0 (.bool false) (.refl _) (fun _ => rfl)
       ·replace h := ite_f h hc55
        refine kw0 (⟨[(0, pS s_), (1, pS more), (2, pI most), (7, pI i)], [], 0⟩) ?_
        refine x_skip ?_
        refine x_bn ?_
        refine x_tn ?_
        refine x_rgt (rgn [hE, hE, hE] (⟨[(0, pS s_), (1, pS more), (2, pI most), (7, pI (IntKind.wrap .i64 (i + 1)))], [], 0⟩)) ?_
        refine x_tn ?_
        exact ⟨_, (Option.some.inj h).symm, by kernel_rfl⟩
   ·replace h := ite_f h hc30
    refine kw0 (⟨[(0, pS s_), (2, pI most)], [], 0⟩) ?_
    refine x_exit ?_
    refine x_te ?_
    refine x_te ?_
    replace h := done_leaf h hx29
    refine x_bh ?_
    refine x_tn ?_
    refine x_rg (st2 := ⟨[(6, pB ((decide (1 ≤ (List.length s_ : Int))) && (decide ((List.length s_ : Int) ≤ most))))], [], 0⟩) ?_ ?_
    ·rcases Bool.eq_false_or_eq_true (decide (1 ≤ (List.length s_ : Int))) with hg57 | hg57
     ·exact rg [hE, hE, hE, hE, hY, hY, hY, hY, hN (.pk true), hE] (⟨[(6, pB (decide ((List.length s_ : Int) ≤ most)))], [], 0⟩) (.cons hg57 (.cons hg57 (.cons hg57 (.cons hg57 (.cons hg57 .nil))))) (.of_eq (by simp only [hg57, bs, reduceIte]))
     ·exact rg [hE, hE, hE, hE, hS, hS, hS, hS, hN (.pk false), hE] (⟨[(6, pB false)], [], 0⟩) (.cons hg57 (.cons hg57 (.cons hg57 (.cons hg57 (.cons hg57 .nil))))) (.of_eq (by simp only [hg57, bs, reduceIte]))
    ·refine x_toret ?_
     obtain rfl := Option.some.inj h
     exact ret0 (.bool ((decide (1 ≤ (List.length s_ : Int))) && (decide ((List.length s_ : Int) ≤ most)))) (.refl _) (fun _ => rfl)

theorem c52 {s_ : Str} {r : Bool} (h : ref27_Net s_ = some r) : CallOK Tryd.prog 52 [.str s_] (.bool r) true := by
  apply ok52
  unfold ref27_Net at h
  refine x_rg (rgn [hE] (⟨[(0, pS s_)], [], 0⟩)) ?_
  obtain ⟨x1, hx1, h⟩ := bind_some h
  obtain ⟨t4, ht, h⟩ := bind_some h
  refine x_rg (st2 := ⟨[(2, pB t4)], [], 0⟩) ?_ ?_
  ·rcases Bool.eq_false_or_eq_true x1 with hg2 | hg2
   ·replace ht := ite_t ht hg2
    obtain ⟨c3, hc3, ht⟩ := bind_some ht
    have e := Option.some.inj ht
    subst e
    exact rg0 [hE, hN (.cal [] (.bool x1) true), hE, hY, (.y, (.sAt c3)), hY, hN (.pk true), hE] (⟨[(2, pB (decide (97 ≤ (c3.toNat : Int))))], [], 0⟩) (.cons (c54 hx1) (.cons hg2 (.cons hg2 (.cons hc3 (.cons hg2 (.cons hg2 .nil))))))
   ·replace ht := ite_f ht hg2
    have e := Option.some.inj ht
    subst e
    exact rg0 [hE, hN (.cal [] (.bool x1) true), hE, hS, hS, hS, hN (.pk false), hE] (⟨[(2, pB false)], [], 0⟩) (.cons (c54 hx1) (.cons hg2 (.cons hg2 (.cons hg2 (.cons hg2 .nil)))))
  ·clear ht
   refine x_toret ?_
   obtain rfl := Option.some.inj h
   exact ret0 (.bool t4) (.refl _) (fun _ => rfl)

theorem c53 {s_ : Str} {r : Bool} (h : ref27_Host s_ = some r) : CallOK Tryd.prog 53 [.str s_] (.bool r) true := by
  apply ok53
  unfold ref27_Host at h
  refine x_rg (rgn [hE] (⟨[(0, pS s_)], [], 0⟩)) ?_
  obtain ⟨x1, hx1, h⟩ := bind_some h
  refine x_rg (rg0 [hE, hN (.cal [] (.bool x1) true), hE] (⟨[(2, pB x1)], [], 0⟩) (.cons (c54 hx1) .nil)) ?_
  refine x_toret ?_
  obtain rfl := Option.some.inj h
  exact ret0 (.bool x1) (.refl _) (fun _ => rfl)

theorem c25 {a : api_Addr} {r : Bool} (h : ref27_Right a = some r) : CallOK Tryd.prog 25 [enc_api_Addr a] (.bool r) true := by
  apply ok25
  unfold ref27_Right at h
  refine x_rg (rgn [hE, hE] (⟨[(1, .optr 0 0 0)], [(0, some (.p (some 3) [enc_api_Addr a]))], 1⟩)) ?_
  obtain ⟨x1, hx1, h⟩ := bind_some h
  obtain ⟨t10, ht, h⟩ := bind_some h
  refine x_rg (st2 := ⟨[(2, pB t10)], [], 0⟩) ?_ ?_
  ·rcases Bool.eq_false_or_eq_true x1 with hg2 | hg2
   ·replace ht := ite_t ht hg2
    rcases Bool.eq_false_or_eq_true (decide (a.Host = [42])) with hg3 | hg3
    ·replace ht := ite_t ht hg3
     rcases Bool.eq_false_or_eq_true (decide (a.Service = [])) with hg4 | hg4
     ·replace ht := ite_t ht hg4
      have e := Option.some.inj ht
      subst e
      exact rg0 [hE, hE, hN (.cal [] (.bool x1) true), hE, hY, hY, hY, hY, hS, hS, hS, (.y, (.pk true)), hN (.pk true), hE, hY, hY, hY, hY, hS, hS, hS, (.y, (.pk true)), hE, hE] (⟨[(2, pB true)], [], 0⟩) (.cons (c52 hx1) (.cons hg2 (.cons hg2 (.cons hg2 (.cons hg2 (.cons hg3 (.cons hg3 (.cons hg3 (.cons hg2 (.cons hg3 (.cons hg2 (.cons tt (.cons tt (.cons tt (.cons tt (.cons hg4 (.cons hg4 (.cons hg4 (.cons tt (.cons hg4 .nil))))))))))))))))))))
     ·replace ht := ite_f ht hg4
      obtain ⟨x5, hx5, ht⟩ := bind_some ht
      have e := Option.some.inj ht
      subst e
      exact rg0 [hE, hE, hN (.cal [] (.bool x1) true), hE, hY, hY, hY, hY, hS, hS, hS, (.y, (.pk true)), hN (.pk true), hE, hY, hY, hY, hY, hY, hY, (.y, (.cal [] (.bool x5) true)), (.y, (.pk false)), hE, hE] (⟨[(2, pB x5)], [], 0⟩) (.cons (c52 hx1) (.cons hg2 (.cons hg2 (.cons hg2 (.cons hg2 (.cons hg3 (.cons hg3 (.cons hg3 (.cons hg2 (.cons hg3 (.cons hg2 (.cons tt (.cons tt (.cons tt (.cons tt (.cons hg4 (.cons hg4 (.cons hg4 (.cons (c54 hx5) (.cons tt (.cons hg4 .nil)))))))))))))))))))))
    ·replace ht := ite_f ht hg3
     obtain ⟨x6, hx6, ht⟩ := bind_some ht
     rcases Bool.eq_false_or_eq_true x6 with hg7 | hg7
     ·replace ht := ite_t ht hg7
      rcases Bool.eq_false_or_eq_true (decide (a.Service = [])) with hg8 | hg8
      ·replace ht := ite_t ht hg8
       have e := Option.some.inj ht
       subst e
       exact rg0 [hE, hE, hN (.cal [] (.bool x1) true), hE, hY, hY, hY, hY, hY, hY, (.y, (.cal [] (.bool x6) true)), (.y, (.pk false)), hN (.pk true), hE, hY, hY, hY, hY, hS, hS, hS, (.y, (.pk true)), hN (.pk true), hE] (⟨[(2, pB true)], [], 0⟩) (.cons (c52 hx1) (.cons hg2 (.cons hg2 (.cons hg2 (.cons hg2 (.cons hg3 (.cons hg3 (.cons hg3 (.cons (c53 hx6) (.cons hg2 (.cons hg3 (.cons hg2 (.cons hg7 (.cons hg7 (.cons hg7 (.cons hg7 (.cons hg8 (.cons hg8 (.cons hg8 (.cons hg7 (.cons hg8 (.cons hg7 .nil))))))))))))))))))))))
      ·replace ht := ite_f ht hg8
       obtain ⟨x9, hx9, ht⟩ := bind_some ht
       have e := Option.some.inj ht
       subst e
       exact rg0 [hE, hE, hN (.cal [] (.bool x1) true), hE, hY, hY, hY, hY, hY, hY, (.y, (.cal [] (.bool x6) true)), (.y, (.pk false)), hN (.pk true), hE, hY, hY, hY, hY, hY, hY, (.y, (.cal [] (.bool x9) true)), (.y, (.pk false)), hN (.pk true), hE] (⟨[(2, pB x9)], [], 0⟩) (.cons (c52 hx1) (.cons hg2 (.cons hg2 (.cons hg2 (.cons hg2 (.cons hg3 (.cons hg3 (.cons hg3 (.cons (c53 hx6) (.cons hg2 (.cons hg3 (.cons hg2 (.cons hg7 (.cons hg7 (.cons hg7 (.cons hg7 (.cons hg8 (.cons hg8 (.cons hg8 (.cons (c54 hx9) (.cons hg7 (.cons hg8 (.cons hg7 .nil)))))))))))))))))))))))
     ·replace ht := ite_f ht hg7
      have e := Option.some.inj ht
      subst e
      exact rg0 [hE, hE, hN (.cal [] (.bool x1) true), hE, hY, hY, hY, hY, hY, hY, (.y, (.cal [] (.bool x6) true)), (.y, (.pk false)), hN (.pk true), hE, hS, hS, hS, hS, (.u, .e), (.u, .e), (.u, .e), hS, hN (.pk false), hE] (⟨[(2, pB false)], [], 0⟩) (.cons (c52 hx1) (.cons hg2 (.cons hg2 (.cons hg2 (.cons hg2 (.cons hg3 (.cons hg3 (.cons hg3 (.cons (c53 hx6) (.cons hg2 (.cons hg3 (.cons hg2 (.cons hg7 (.cons hg7 (.cons hg7 (.cons hg7 (.cons hg7 (.cons hg7 .nil))))))))))))))))))
   ·replace ht := ite_f ht hg2
    have e := Option.some.inj ht
    subst e
    exact rg0 (obs := [(CallOK Tryd.prog 52 [.str a.Net] (.bool x1) true), (x1 = false), (x1 = false), (x1 = false), (x1 = false), (x1 = false), (x1 = false), (false = false), (false = false), (false = false), (false = false), (false = false)]) [hE, hE, hN (.cal [] (.bool x1) true), hE, hS, hS, hS, hS, (.u, .e), (.u, .e), (.u, .e), hS, hN (.pk false), hE, hS, hS, hS, hS, (.u, .e), (.u, .e), (.u, .e), hS, hE, hE] (⟨[(2, pB false)], [], 0⟩) (.cons (c52 hx1) (.cons hg2 (.cons hg2 (.cons hg2 (.cons hg2 (.cons hg2 (.cons hg2 (.cons rfl (.cons rfl (.cons rfl (.cons rfl (.cons rfl .nil))))))))))))
  ·clear ht
   refine x_toret ?_
   obtain rfl := Option.some.inj h
   exact ret0 (.bool t10) (.refl _) (fun _ => rfl)

theorem c108 {name : Str} {r : Bool} (h : ref22_Secret name = some r) : CallOK Tryd.prog 108 [.str name] (.bool r) true := by
  apply ok108
  unfold ref22_Secret at h
  refine x_rg (rgn [hE] (⟨[(0, pS name)], [], 0⟩)) ?_
  obtain ⟨t3, ht, h⟩ := bind_some h
  refine x_rg (st2 := ⟨[(2, pB t3)], [], 0⟩) ?_ ?_
  ·rcases Bool.eq_false_or_eq_true (decide (0 < (List.length name : Int))) with hg1 | hg1
   ·replace ht := ite_t ht hg1
    obtain ⟨c2, hc2, ht⟩ := bind_some ht
    have e := Option.some.inj ht
    subst e
    exact rg0 [hE, hE, hE, hE, hY, (.y, (.sAt c2)), hY, hN (.pk true), hE] (⟨[(2, pB (decide ((c2.toNat : Int) = 33)))], [], 0⟩) (.cons hg1 (.cons hg1 (.cons hc2 (.cons hg1 (.cons hg1 .nil)))))
   ·replace ht := ite_f ht hg1
    have e := Option.some.inj ht
    subst e
    exact rg0 [hE, hE, hE, hE, hS, hS, hS, hN (.pk false), hE] (⟨[(2, pB false)], [], 0⟩) (.cons hg1 (.cons hg1 (.cons hg1 (.cons hg1 .nil))))
  ·clear ht
   refine x_toret ?_
   obtain rfl := Option.some.inj h
   exact ret0 (.bool t3) (.refl _) (fun _ => rfl)

theorem c86 {s_ : Str} {r : Bool} (h : ref22_Name s_ = some r) : CallOK Tryd.prog 86 [.str s_] (.bool r) true := by
  apply ok86
  unfold ref22_Name at h
  refine x_rg (rgn [hE] (⟨[(0, pS s_)], [], 0⟩)) ?_
  refine x_join (τ := Str) (fun t => ref22_Name_K1 t = some r) (fun t => { tm := [(0, .pv (.str t))], hp := [], nx := 0 }) ?_ ?_
  ·rintro p2 h
   replace h : ref22_Name_K1 p2 = some r := h
   unfold ref22_Name_K1 at h
   refine x_seq ?_
   refine x_rg (rgn [hE] (⟨[(0, pS p2), (3, pI 0)], [], 0⟩)) ?_
   refine x_block ?_
   refine kw0 (⟨[(0, pS p2), (3, pI 0)], [], 0⟩) ?_
   refine x_loop (σ := Int) h (fun s => ⟨[(0, pS p2), (3, pI s)], [], 0⟩) (by kernel_rfl) ?_ ?_
   ·rintro i
    kernel_rfl
   ·rintro i x12 h hx12
    replace h : ref22_Name_L12 p2 i = some x12 := h
    unfold ref22_Name_L12 at h
    refine x_seq ?_
    refine x_rg (rgn [hE, hE, hE, hE] (⟨[(0, pS p2), (3, pI i), (12, pB (decide (i < (List.length p2 : Int))))], [], 0⟩)) ?_
    refine x_cond _ rfl (fun hc13 => ?_) (fun hc13 => ?_)
    ·replace h := ite_t h hc13
     refine kw0 (⟨[(0, pS p2), (3, pI i)], [], 0⟩) ?_
     refine x_skip ?_
     refine x_tn ?_
     refine x_seq ?_
     refine x_block ?_
     obtain ⟨c14, hc14, h⟩ := bind_some h
     obtain ⟨t17, ht, h⟩ := bind_some h
     refine x_rg (st2 := ⟨[(0, pS p2), (3, pI i), (4, pB t17)], [], 0⟩) ?_ ?_
     ·rcases Bool.eq_false_or_eq_true (decide (97 ≤ (c14.toNat : Int))) with hg15 | hg15
      ·replace ht := ite_t ht hg15
       obtain ⟨c16, hc16, ht⟩ := bind_some ht
       have e := Option.some.inj ht
       subst e
       exact rg0 [hE, hE, hN (.sAt c14), hE, hE, hY, hY, (.y, (.sAt c16)), hY, hN (.pk true), hE] (⟨[(0, pS p2), (3, pI i), (4, pB (decide ((c16.toNat : Int) ≤ 122)))], [], 0⟩) (.cons hc14 (.cons hg15 (.cons hg15 (.cons hg15 (.cons hc16 (.cons hg15 (.cons hg15 .nil)))))))
      ·replace ht := ite_f ht hg15
       have e := Option.some.inj ht
       subst e
       exact rg0 [hE, hE, hN (.sAt c14), hE, hE, hS, hS, hS, hS, hN (.pk false), hE] (⟨[(0, pS p2), (3, pI i), (4, pB false)], [], 0⟩) (.cons hc14 (.cons hg15 (.cons hg15 (.cons hg15 (.cons hg15 (.cons hg15 .nil))))))
     ·clear ht
      obtain ⟨t30, ht, h⟩ := bind_some h
      refine x_rg (st2 := ⟨[(0, pS p2), (3, pI i), (55, pB t30)], [], 0⟩) ?_ ?_
      ·rcases Bool.eq_false_or_eq_true (!t17) with hg18 | hg18
       ·replace ht := ite_t ht hg18
        rcases Bool.eq_false_or_eq_true (decide (i = 0)) with hg19 | hg19
        ·replace ht := ite_t ht hg19
         have e := Option.some.inj ht
         subst e
         exact rg0 [hE, hE, hE, hY, hY, hY, hS, hS, hS, hS, hS, (.u, .e), (.u, .e), (.u, .e), (.u, .e), hS, hS, (.u, .e), (.u, .e), (.u, .e), (.u, .e), hS, hS, (.u, .e), (.u, .e), (.u, .e), (.u, .e), hS, hS, (.y, (.pk true)), hN (.pk true)] (⟨[(0, pS p2), (3, pI i), (55, pB true)], [], 0⟩) (.cons hg18 (.cons hg18 (.cons hg18 (.cons hg19 (.cons hg19 (.cons hg19 (.cons hg19 (.cons hg19 (.cons hg19 (.cons hg19 (.cons hg19 (.cons hg19 (.cons hg19 (.cons hg19 (.cons hg18 (.cons hg19 (.cons hg18 .nil)))))))))))))))))
        ·replace ht := ite_f ht hg19
         obtain ⟨c20, hc20, ht⟩ := bind_some ht
         rcases Bool.eq_false_or_eq_true (decide (48 ≤ (c20.toNat : Int))) with hg21 | hg21
         ·replace ht := ite_t ht hg21
          obtain ⟨c22, hc22, ht⟩ := bind_some ht
          rcases Bool.eq_false_or_eq_true (decide ((c22.toNat : Int) ≤ 57)) with hg23 | hg23
          ·replace ht := ite_t ht hg23
           have e := Option.some.inj ht
           subst e
           exact rg0 [hE, hE, hE, hY, hY, hY, hY, hY, (.y, (.sAt c20)), hY, hY, hY, hY, (.y, (.sAt c22)), hY, (.y, (.pk true)), hY, hS, hS, hS, hS, (.y, (.pk true)), hY, hS, hS, hS, hS, hY, hY, (.y, (.pk false)), hN (.pk true)] (⟨[(0, pS p2), (3, pI i), (55, pB false)], [], 0⟩) (.cons hg18 (.cons hg18 (.cons hg18 (.cons hg19 (.cons hg19 (.cons hg19 (.cons hc20 (.cons hg19 (.cons hg19 (.cons hg21 (.cons hg21 (.cons hg21 (.cons hc22 (.cons hg21 (.cons hg19 (.cons hg21 (.cons hg19 (.cons hg23 (.cons hg23 (.cons hg23 (.cons hg23 (.cons hg19 (.cons hg23 (.cons hg19 (.cons tt (.cons tt (.cons tt (.cons tt (.cons hg19 (.cons hg19 (.cons hg18 (.cons hg19 (.cons hg18 .nil)))))))))))))))))))))))))))))))))
          ·replace ht := ite_f ht hg23
           obtain ⟨c24, hc24, ht⟩ := bind_some ht
           rcases Bool.eq_false_or_eq_true (decide ((c24.toNat : Int) = 45)) with hg25 | hg25
           ·replace ht := ite_t ht hg25
            have e := Option.some.inj ht
            subst e
            exact rg0 [hE, hE, hE, hY, hY, hY, hY, hY, (.y, (.sAt c20)), hY, hY, hY, hY, (.y, (.sAt c22)), hY, (.y, (.pk true)), hY, hY, hY, (.y, (.sAt c24)), hY, (.y, (.pk false)), hY, hS, hS, hS, hS, (.y, (.pk true)), hY, (.y, (.pk false)), hN (.pk true)] (⟨[(0, pS p2), (3, pI i), (55, pB false)], [], 0⟩) (.cons hg18 (.cons hg18 (.cons hg18 (.cons hg19 (.cons hg19 (.cons hg19 (.cons hc20 (.cons hg19 (.cons hg19 (.cons hg21 (.cons hg21 (.cons hg21 (.cons hc22 (.cons hg21 (.cons hg19 (.cons hg21 (.cons hg19 (.cons hg23 (.cons hg23 (.cons hg23 (.cons hc24 (.cons hg23 (.cons hg19 (.cons hg23 (.cons hg19 (.cons hg25 (.cons hg25 (.cons hg25 (.cons hg25 (.cons hg19 (.cons hg25 (.cons hg19 (.cons hg18 (.cons hg19 (.cons hg18 .nil)))))))))))))))))))))))))))))))))))
           ·replace ht := ite_f ht hg25
            obtain ⟨c26, hc26, ht⟩ := bind_some ht
            have e := Option.some.inj ht
            subst e
            exact rg0 [hE, hE, hE, hY, hY, hY, hY, hY, (.y, (.sAt c20)), hY, hY, hY, hY, (.y, (.sAt c22)), hY, (.y, (.pk true)), hY, hY, hY, (.y, (.sAt c24)), hY, (.y, (.pk false)), hY, hY, hY, (.y, (.sAt c26)), hY, (.y, (.pk false)), hY, (.y, (.pk false)), hN (.pk true)] (⟨[(0, pS p2), (3, pI i), (55, pB (!(decide ((c26.toNat : Int) = 95))))], [], 0⟩) (.cons hg18 (.cons hg18 (.cons hg18 (.cons hg19 (.cons hg19 (.cons hg19 (.cons hc20 (.cons hg19 (.cons hg19 (.cons hg21 (.cons hg21 (.cons hg21 (.cons hc22 (.cons hg21 (.cons hg19 (.cons hg21 (.cons hg19 (.cons hg23 (.cons hg23 (.cons hg23 (.cons hc24 (.cons hg23 (.cons hg19 (.cons hg23 (.cons hg19 (.cons hg25 (.cons hg25 (.cons hg25 (.cons hc26 (.cons hg25 (.cons hg19 (.cons hg25 (.cons hg19 (.cons hg18 (.cons hg19 (.cons hg18 .nil))))))))))))))))))))))))))))))))))))
         ·replace ht := ite_f ht hg21
          obtain ⟨c27, hc27, ht⟩ := bind_some ht
          rcases Bool.eq_false_or_eq_true (decide ((c27.toNat : Int) = 45)) with hg28 | hg28
          ·replace ht := ite_t ht hg28
           have e := Option.some.inj ht
           subst e
           exact rg0 (obs := [((!t17) = true), ((!t17) = true), ((!t17) = true), ((decide (i = 0)) = false), ((decide (i = 0)) = false), ((decide (i = 0)) = false), (strAt p2 i = some c20), ((decide (i = 0)) = false), ((decide (i = 0)) = false), ((decide (48 ≤ (c20.toNat : Int))) = false), ((decide (48 ≤ (c20.toNat : Int))) = false), ((decide (48 ≤ (c20.toNat : Int))) = false), ((decide (48 ≤ (c20.toNat : Int))) = false), ((decide (i = 0)) = false), ((decide (48 ≤ (c20.toNat : Int))) = false), ((decide (i = 0)) = false), (false = false), (false = false), (false = false), (strAt p2 i = some c27), (false = false), ((decide (i = 0)) = false), ((decide (i = 0)) = false), ((decide ((c27.toNat : Int) = 45)) = true), ((decide ((c27.toNat : Int) = 45)) = true), ((decide ((c27.toNat : Int) = 45)) = true), ((decide ((c27.toNat : Int) = 45)) = true), ((decide (i = 0)) = false), ((decide ((c27.toNat : Int) = 45)) = true), ((decide (i = 0)) = false), ((!t17) = true), ((decide (i = 0)) = false), ((!t17) = true)]) [hE, hE, hE, hY, hY, hY, hY, hY, (.y, (.sAt c20)), hY, hY, hS, hS, hS, hS, (.y, (.pk false)), hY, hY, hY, (.y, (.sAt c27)), hY, hY, hY, hS, hS, hS, hS, (.y, (.pk true)), hY, (.y, (.pk false)), hN (.pk true)] (⟨[(0, pS p2), (3, pI i), (55, pB false)], [], 0⟩) (.cons hg18 (.cons hg18 (.cons hg18 (.cons hg19 (.cons hg19 (.cons hg19 (.cons hc20 (.cons hg19 (.cons hg19 (.cons hg21 (.cons hg21 (.cons hg21 (.cons hg21 (.cons hg19 (.cons hg21 (.cons hg19 (.cons rfl (.cons rfl (.cons rfl (.cons hc27 (.cons rfl (.cons hg19 (.cons hg19 (.cons hg28 (.cons hg28 (.cons hg28 (.cons hg28 (.cons hg19 (.cons hg28 (.cons hg19 (.cons hg18 (.cons hg19 (.cons hg18 .nil)))))))))))))))))))))))))))))))))
          ·replace ht := ite_f ht hg28
           obtain ⟨c29, hc29, ht⟩ := bind_some ht
           have e := Option.some.inj ht
           subst e
           exact rg0 (obs := [((!t17) = true), ((!t17) = true), ((!t17) = true), ((decide (i = 0)) = false), ((decide (i = 0)) = false), ((decide (i = 0)) = false), (strAt p2 i = some c20), ((decide (i = 0)) = false), ((decide (i = 0)) = false), ((decide (48 ≤ (c20.toNat : Int))) = false), ((decide (48 ≤ (c20.toNat : Int))) = false), ((decide (48 ≤ (c20.toNat : Int))) = false), ((decide (48 ≤ (c20.toNat : Int))) = false), ((decide (i = 0)) = false), ((decide (48 ≤ (c20.toNat : Int))) = false), ((decide (i = 0)) = false), (false = false), (false = false), (false = false), (strAt p2 i = some c27), (false = false), ((decide (i = 0)) = false), ((decide (i = 0)) = false), ((decide ((c27.toNat : Int) = 45)) = false), ((decide ((c27.toNat : Int) = 45)) = false), ((decide ((c27.toNat : Int) = 45)) = false), (strAt p2 i = some c29), ((decide ((c27.toNat : Int) = 45)) = false), ((decide (i = 0)) = false), ((decide ((c27.toNat : Int) = 45)) = false), ((decide (i = 0)) = false), ((!t17) = true), ((decide (i = 0)) = false), ((!t17) = true)]) [hE, hE, hE, hY, hY, hY, hY, hY, (.y, (.sAt c20)), hY, hY, hS, hS, hS, hS, (.y, (.pk false)), hY, hY, hY, (.y, (.sAt c27)), hY, hY, hY, hY, hY, (.y, (.sAt c29)), hY, (.y, (.pk false)), hY, (.y, (.pk false)), hN (.pk true)] (⟨[(0, pS p2), (3, pI i), (55, pB (!(decide ((c29.toNat : Int) = 95))))], [], 0⟩) (.cons hg18 (.cons hg18 (.cons hg18 (.cons hg19 (.cons hg19 (.cons hg19 (.cons hc20 (.cons hg19 (.cons hg19 (.cons hg21 (.cons hg21 (.cons hg21 (.cons hg21 (.cons hg19 (.cons hg21 (.cons hg19 (.cons rfl (.cons rfl (.cons rfl (.cons hc27 (.cons rfl (.cons hg19 (.cons hg19 (.cons hg28 (.cons hg28 (.cons hg28 (.cons hc29 (.cons hg28 (.cons hg19 (.cons hg28 (.cons hg19 (.cons hg18 (.cons hg19 (.cons hg18 .nil))))))))))))))))))))))))))))))))))
       ·replace ht := ite_f ht hg18
        have e := Option.some.inj ht
        subst e
        exact rg0 [hE, hE, hE, hS, hS, hS, (.u, .e), (.u, .e), (.u, .e), (.u, .e), (.u, .e), (.u, .e), (.u, .e), (.u, .e), (.u, .e), (.u, .e), (.u, .e), (.u, .e), (.u, .e), (.u, .e), (.u, .e), (.u, .e), (.u, .e), (.u, .e), (.u, .e), (.u, .e), (.u, .e), (.u, .e), (.u, .e), hS, hN (.pk false)] (⟨[(0, pS p2), (3, pI i), (55, pB false)], [], 0⟩) (.cons hg18 (.cons hg18 (.cons hg18 (.cons hg18 (.cons hg18 .nil)))))
      ·clear ht
       refine x_cond _ rfl (fun hc31 => ?_) (fun hc31 => ?_)
       ·replace h := ite_t h hc31
        refine x_rg (rgn [hE] (⟨[(2, pB false)], [], 0⟩)) ?_
        refine x_toret ?_
        refine x_br ?_
        refine x_tr ?_
        refine x_tr ?_
        replace h := done_leaf h hx12
        refine x_br ?_
        refine x_tr ?_
        obtain rfl := Option.some.inj h
        exact ret0 (.bool false) (.refl _) (fun _ => rfl)
       ·replace h := ite_f h hc31
        refine kw0 (⟨[(0, pS p2), (3, pI i)], [], 0⟩) ?_
        refine x_skip ?_
        refine x_bn ?_
        refine x_tn ?_
        refine x_rgt (rgn [hE, hE, hE] (⟨[(0, pS p2), (3, pI (IntKind.wrap .i64 (i + 1)))], [], 0⟩)) ?_
        refine x_tn ?_
        exact ⟨_, (Option.some.inj h).symm, by kernel_rfl⟩
    ·replace h := ite_f h hc13
     refine kw0 (⟨[(0, pS p2)], [], 0⟩) ?_
     refine x_exit ?_
     refine x_te ?_
     refine x_te ?_
     replace h := done_leaf h hx12
     refine x_bh ?_
     refine x_tn ?_
     refine x_rg (st2 := ⟨[(2, pB ((decide (1 ≤ (List.length p2 : Int))) && (decide ((List.length p2 : Int) ≤ 32))))], [], 0⟩) ?_ ?_
     ·rcases Bool.eq_false_or_eq_true (decide (1 ≤ (List.length p2 : Int))) with hg32 | hg32
      ·exact rg [hE, hE, hE, hE, hY, hY, hY, hN (.pk true), hE] (⟨[(2, pB (decide ((List.length p2 : Int) ≤ 32)))], [], 0⟩) (.cons hg32 (.cons hg32 (.cons hg32 (.cons hg32 .nil)))) (.of_eq (by simp only [hg32, bs, reduceIte]))
      ·exact rg [hE, hE, hE, hE, hS, hS, hS, hN (.pk false), hE] (⟨[(2, pB false)], [], 0⟩) (.cons hg32 (.cons hg32 (.cons hg32 (.cons hg32 .nil)))) (.of_eq (by simp only [hg32, bs, reduceIte]))
     ·refine x_toret ?_
      obtain rfl := Option.some.inj h
      exact ret0 (.bool ((decide (1 ≤ (List.length p2 : Int))) && (decide ((List.length p2 : Int) ≤ 32)))) (.refl _) (fun _ => rfl)
  ·obtain ⟨x34, hx34, h⟩ := bind_some h
   refine x_rg (rg0 [hE, hN (.cal [] (.bool x34) true)] (⟨[(0, pS s_), (6, pB x34)], [], 0⟩) (.cons (c108 hx34) .nil)) ?_
   refine x_cond _ rfl (fun hc35 => ?_) (fun hc35 => ?_)
   ·replace h := ite_t h hc35
    obtain ⟨x36, hx36, h⟩ := bind_some h
    refine x_rgt (rg0 [hE, hN (.cutS x36), hE] (⟨[(0, pS x36)], [], 0⟩) (.cons hx36 .nil)) ?_
    refine x_tn ?_
    exact ⟨x36, h, by kernel_rfl⟩
   ·replace h := ite_f h hc35
    refine kw0 (⟨[(0, pS s_)], [], 0⟩) ?_
    refine x_skip ?_
    refine x_tn ?_
    exact ⟨s_, h, by kernel_rfl⟩

theorem c87 {s_ : Str} {r : Bool} (h : ref22_plain s_ = some r) : CallOK Tryd.prog 87 [.str s_] (.bool r) true := by
  apply ok87
  unfold ref22_plain at h
  refine x_rg (rgn [hE] (⟨[(0, pS s_)], [], 0⟩)) ?_
  refine x_seq ?_
  refine x_rg (rgn [hE] (⟨[(0, pS s_), (3, pI 0)], [], 0⟩)) ?_
  refine x_block ?_
  refine kw0 (⟨[(0, pS s_), (3, pI 0)], [], 0⟩) ?_
  refine x_loop (σ := Int) h (fun s => ⟨[(0, pS s_), (3, pI s)], [], 0⟩) (by kernel_rfl) ?_ ?_
  ·rintro i
   kernel_rfl
  ·rintro i x10 h hx10
   replace h : ref22_plain_L10 s_ i = some x10 := h
   unfold ref22_plain_L10 at h
   refine x_seq ?_
   refine x_rg (rgn [hE, hE, hE, hE] (⟨[(0, pS s_), (3, pI i), (7, pB (decide (i < (List.length s_ : Int))))], [], 0⟩)) ?_
   refine x_cond _ rfl (fun hc11 => ?_) (fun hc11 => ?_)
   ·replace h := ite_t h hc11
    refine kw0 (⟨[(0, pS s_), (3, pI i)], [], 0⟩) ?_
    refine x_skip ?_
    refine x_tn ?_
    refine x_seq ?_
    refine x_block ?_
    obtain ⟨c12, hc12, h⟩ := bind_some h
    obtain ⟨t17, ht, h⟩ := bind_some h
    refine x_rg (st2 := ⟨[(0, pS s_), (3, pI i), (25, pB t17)], [], 0⟩) ?_ ?_
    ·rcases Bool.eq_false_or_eq_true (decide ((c12.toNat : Int) = 0)) with hg13 | hg13
     ·replace ht := ite_t ht hg13
      have e := Option.some.inj ht
      subst e
      exact rg0 [hE, hE, hN (.sAt c12), hE, hE, hS, hS, hS, hS, hN (.pk true), hE, hS, hS, hS, hS, hE] (⟨[(0, pS s_), (3, pI i), (25, pB true)], [], 0⟩) (.cons hc12 (.cons hg13 (.cons hg13 (.cons hg13 (.cons hg13 (.cons hg13 (.cons tt (.cons tt (.cons tt (.cons tt .nil))))))))))
     ·replace ht := ite_f ht hg13
      obtain ⟨c14, hc14, ht⟩ := bind_some ht
      rcases Bool.eq_false_or_eq_true (decide ((c14.toNat : Int) = 10)) with hg15 | hg15
      ·replace ht := ite_t ht hg15
       have e := Option.some.inj ht
       subst e
       exact rg0 [hE, hE, hN (.sAt c12), hE, hE, hY, hY, (.y, (.sAt c14)), hY, hN (.pk false), hE, hS, hS, hS, hS, hN (.pk true)] (⟨[(0, pS s_), (3, pI i), (25, pB true)], [], 0⟩) (.cons hc12 (.cons hg13 (.cons hg13 (.cons hg13 (.cons hc14 (.cons hg13 (.cons hg13 (.cons hg15 (.cons hg15 (.cons hg15 (.cons hg15 (.cons hg15 .nil))))))))))))
      ·replace ht := ite_f ht hg15
       obtain ⟨c16, hc16, ht⟩ := bind_some ht
       have e := Option.some.inj ht
       subst e
       exact rg0 [hE, hE, hN (.sAt c12), hE, hE, hY, hY, (.y, (.sAt c14)), hY, hN (.pk false), hE, hY, hY, (.y, (.sAt c16)), hY, hN (.pk false)] (⟨[(0, pS s_), (3, pI i), (25, pB (decide ((c16.toNat : Int) = 13)))], [], 0⟩) (.cons hc12 (.cons hg13 (.cons hg13 (.cons hg13 (.cons hc14 (.cons hg13 (.cons hg13 (.cons hg15 (.cons hg15 (.cons hg15 (.cons hc16 (.cons hg15 (.cons hg15 .nil)))))))))))))
    ·clear ht
     refine x_cond _ rfl (fun hc18 => ?_) (fun hc18 => ?_)
     ·replace h := ite_t h hc18
      refine x_rg (rgn [hE] (⟨[(2, pB false)], [], 0⟩)) ?_
      refine x_toret ?_
      refine x_br ?_
      refine x_tr ?_
      refine x_tr ?_
      replace h := done_leaf h hx10
      refine x_br ?_
      refine x_tr ?_
      obtain rfl := Option.some.inj h
      exact ret0 (.bool false) (.refl _) (fun _ => rfl)
     ·replace h := ite_f h hc18
      refine kw0 (⟨[(0, pS s_), (3, pI i)], [], 0⟩) ?_
      refine x_skip ?_
      refine x_bn ?_
      refine x_tn ?_
      refine x_rgt (rgn [hE, hE, hE] (⟨[(0, pS s_), (3, pI (IntKind.wrap .i64 (i + 1)))], [], 0⟩)) ?_
      refine x_tn ?_
      exact ⟨_, (Option.some.inj h).symm, by kernel_rfl⟩
   ·replace h := ite_f h hc11
    refine kw0 (⟨[], [], 0⟩) ?_
    refine x_exit ?_
    refine x_te ?_
    refine x_te ?_
    replace h := done_leaf h hx10
    refine x_bh ?_
    refine x_tn ?_
    refine x_rg (rgn [hE] (⟨[(2, pB true)], [], 0⟩)) ?_
    refine x_toret ?_
    obtain rfl := Option.some.inj h
    exact ret0 (.bool true) (.refl _) (fun _ => rfl)

theorem c61 {before : (List api_Attr)} {a : api_Attr} {r : Int} (h : ref22_one before a = some r) : CallOK Tryd.prog 61 [.sl (some 3) (List.map enc_api_Attr before), enc_api_Attr a] (.int .i64 r) true := by
  apply ok61
  unfold ref22_one at h
  refine x_rg (rgn [hE, hE] (⟨[(0, pL (some 3) enc_api_Attr before), (3, .optr 0 0 0)], [(0, some (.p (some 3) [enc_api_Attr a]))], 1⟩)) ?_
  refine x_seq ?_
  refine x_block ?_
  refine x_rg (rg0 [hE, hN (.len (List.length before : Int)), hE, hE] (⟨[(0, pL (some 3) enc_api_Attr before), (3, .optr 0 0 0), (6, pB (decide (32 ≤ (List.length before : Int))))], [(0, some (.p (some 3) [enc_api_Attr a]))], 1⟩) (.cons (lenM enc_api_Attr before) .nil)) ?_
  refine x_cond _ rfl (fun hc1 => ?_) (fun hc1 => ?_)
  ·replace h := ite_t h hc1
   refine x_rg (rgn [hE] (⟨[(4, pI 22)], [], 0⟩)) ?_
   refine x_toret ?_
   refine x_br ?_
   refine x_tr ?_
   obtain rfl := Option.some.inj h
   exact ret0 (.int .i64 22) (.refl _) (fun _ => rfl)
  ·replace h := ite_f h hc1
   obtain ⟨x2, hx2, h⟩ := bind_some h
   refine x_rg (rg0 [hE, hE, hN (.cal [] (.bool x2) true), hE, hE] (⟨[(0, pL (some 3) enc_api_Attr before), (3, .optr 0 0 0), (10, pB (!x2))], [(0, some (.p (some 3) [enc_api_Attr a]))], 1⟩) (.cons (c86 hx2) .nil)) ?_
   refine x_cond _ rfl (fun hc3 => ?_) (fun hc3 => ?_)
   ·replace h := ite_t h hc3
    refine x_rg (rgn [hE] (⟨[(4, pI 6)], [], 0⟩)) ?_
    refine x_toret ?_
    refine x_br ?_
    refine x_tr ?_
    obtain rfl := Option.some.inj h
    exact ret0 (.int .i64 6) (.refl _) (fun _ => rfl)
   ·replace h := ite_f h hc3
    obtain ⟨t8, ht, h⟩ := bind_some h
    refine x_rg (st2 := ⟨[(0, pL (some 3) enc_api_Attr before), (3, .optr 0 0 0), (15, pB t8)], [(0, some (.p (some 3) [enc_api_Attr a]))], 1⟩) ?_ ?_
    ·rcases Bool.eq_false_or_eq_true a.Query with hg4 | hg4
     ·replace ht := ite_t ht hg4
      rcases Bool.eq_false_or_eq_true (!decide (a.Value = [])) with hg5 | hg5
      ·replace ht := ite_t ht hg5
       have e := Option.some.inj ht
       subst e
       exact rg0 [hE, hE, hE, hY, hY, hY, hN (.pk true), hE, hS, hS, hS, hS, hN (.pk true), hE] (⟨[(0, pL (some 3) enc_api_Attr before), (3, .optr 0 0 0), (15, pB true)], [(0, some (.p (some 3) [enc_api_Attr a]))], 1⟩) (.cons hg4 (.cons hg4 (.cons hg4 (.cons hg4 (.cons hg5 (.cons hg5 (.cons hg5 (.cons hg5 (.cons hg5 .nil)))))))))
      ·replace ht := ite_f ht hg5
       obtain ⟨x6, hx6, ht⟩ := bind_some ht
       have e := Option.some.inj ht
       subst e
       exact rg0 [hE, hE, hE, hY, hY, hY, hN (.pk true), hE, hY, hY, (.y, (.cal [] (.bool x6) true)), hY, hN (.pk false), hE] (⟨[(0, pL (some 3) enc_api_Attr before), (3, .optr 0 0 0), (15, pB (!x6))], [(0, some (.p (some 3) [enc_api_Attr a]))], 1⟩) (.cons hg4 (.cons hg4 (.cons hg4 (.cons hg4 (.cons hg5 (.cons hg5 (.cons hg5 (.cons (c87 hx6) (.cons hg5 (.cons hg5 .nil))))))))))
     ·replace ht := ite_f ht hg4
      obtain ⟨x7, hx7, ht⟩ := bind_some ht
      have e := Option.some.inj ht
      subst e
      exact rg0 (obs := [(a.Query = false), (a.Query = false), (a.Query = false), (a.Query = false), (false = false), (false = false), (false = false), (CallOK Tryd.prog 87 [.str a.Value] (.bool x7) true), (false = false)]) [hE, hE, hE, hS, hS, hS, hN (.pk false), hE, hY, hY, (.y, (.cal [] (.bool x7) true)), hY, hE, hE] (⟨[(0, pL (some 3) enc_api_Attr before), (3, .optr 0 0 0), (15, pB (!x7))], [(0, some (.p (some 3) [enc_api_Attr a]))], 1⟩) (.cons hg4 (.cons hg4 (.cons hg4 (.cons hg4 (.cons rfl (.cons rfl (.cons rfl (.cons (c87 hx7) (.cons rfl .nil)))))))))
    ·clear ht
     refine x_cond _ rfl (fun hc9 => ?_) (fun hc9 => ?_)
     ·replace h := ite_t h hc9
      refine x_rg (rgn [hE] (⟨[(4, pI 2)], [], 0⟩)) ?_
      refine x_toret ?_
      refine x_br ?_
      refine x_tr ?_
      obtain rfl := Option.some.inj h
      exact ret0 (.int .i64 2) (.refl _) (fun _ => rfl)
     ·replace h := ite_f h hc9
      refine x_rg (rgn [hE, hE, hE, hE, hE] (⟨[(0, pL (some 3) enc_api_Attr before), (3, .optr 0 0 0), (29, pB (decide (1024 < (List.length a.Value : Int))))], [(0, some (.p (some 3) [enc_api_Attr a]))], 1⟩)) ?_
      refine x_cond _ rfl (fun hc10 => ?_) (fun hc10 => ?_)
      ·replace h := ite_t h hc10
       refine x_rg (rgn [hE] (⟨[(4, pI 4)], [], 0⟩)) ?_
       refine x_toret ?_
       refine x_br ?_
       refine x_tr ?_
       obtain rfl := Option.some.inj h
       exact ret0 (.int .i64 4) (.refl _) (fun _ => rfl)
      ·replace h := ite_f h hc10
       refine kw0 (⟨[(0, pL (some 3) enc_api_Attr before), (3, .optr 0 0 0)], [(0, some (.p (some 3) [enc_api_Attr a]))], 1⟩) ?_
       refine x_skip ?_
       refine x_bn ?_
       refine x_tn ?_
       refine x_seq ?_
       refine x_rg (rgn [hE] (⟨[(0, pL (some 3) enc_api_Attr before), (3, .optr 0 0 0), (5, pI 0)], [(0, some (.p (some 3) [enc_api_Attr a]))], 1⟩)) ?_
       refine x_block ?_
       refine kw0 (⟨[(0, pL (some 3) enc_api_Attr before), (3, .optr 0 0 0), (5, pI 0)], [(0, some (.p (some 3) [enc_api_Attr a]))], 1⟩) ?_
       refine x_loop (σ := Int) h (fun s => ⟨[(0, pL (some 3) enc_api_Attr before), (3, .optr 0 0 0), (5, pI s)], [(0, some (.p (some 3) [enc_api_Attr a]))], 1⟩) (by kernel_rfl) ?_ ?_
       ·rintro i
        kernel_rfl
       ·rintro i x15 h hx15
        replace h : ref22_one_L15 before a i = some x15 := h
        unfold ref22_one_L15 at h
        refine x_seq ?_
        refine x_rg (rg0 [hE, hE, hN (.len (List.length before : Int)), hE] (⟨[(0, pL (some 3) enc_api_Attr before), (3, .optr 0 0 0), (5, pI i), (37, pB (decide (i < (List.length before : Int))))], [(0, some (.p (some 3) [enc_api_Attr a]))], 1⟩) (.cons (lenM enc_api_Attr before) .nil)) ?_
        refine x_cond _ rfl (fun hc16 => ?_) (fun hc16 => ?_)
        ·replace h := ite_t h hc16
         refine kw0 (⟨[(0, pL (some 3) enc_api_Attr before), (3, .optr 0 0 0), (5, pI i)], [(0, some (.p (some 3) [enc_api_Attr a]))], 1⟩) ?_
         refine x_skip ?_
         refine x_tn ?_
         refine x_seq ?_
         refine x_block ?_
         obtain ⟨x17, hx17, h⟩ := bind_some h
         refine x_rg (rg0 [hE, hE, hN (.pAt (enc_api_Attr x17)), hE, hE, hE, hE, hE] (⟨[(0, pL (some 3) enc_api_Attr before), (3, .optr 0 0 0), (5, pI i), (47, pB (decide (x17.Name = a.Name)))], [(0, some (.p (some 3) [enc_api_Attr a]))], 1⟩) (.cons (lsAt_map (f := enc_api_Attr) hx17) .nil)) ?_
         refine x_cond _ rfl (fun hc18 => ?_) (fun hc18 => ?_)
         ·replace h := ite_t h hc18
          refine x_rg (rgn [hE] (⟨[(4, pI 7)], [], 0⟩)) ?_
          refine x_toret ?_
          refine x_br ?_
          refine x_tr ?_
          refine x_tr ?_
          replace h := done_leaf h hx15
          refine x_br ?_
          refine x_tr ?_
          obtain rfl := Option.some.inj h
          exact ret0 (.int .i64 7) (.refl _) (fun _ => rfl)
         ·replace h := ite_f h hc18
          refine kw0 (⟨[(0, pL (some 3) enc_api_Attr before), (3, .optr 0 0 0), (5, pI i)], [(0, some (.p (some 3) [enc_api_Attr a]))], 1⟩) ?_
          refine x_skip ?_
          refine x_bn ?_
          refine x_tn ?_
          refine x_rgt (rgn [hE, hE, hE] (⟨[(0, pL (some 3) enc_api_Attr before), (3, .optr 0 0 0), (5, pI (IntKind.wrap .i64 (i + 1)))], [(0, some (.p (some 3) [enc_api_Attr a]))], 1⟩)) ?_
          refine x_tn ?_
          exact ⟨_, (Option.some.inj h).symm, by kernel_rfl⟩
        ·replace h := ite_f h hc16
         refine kw0 (⟨[], [], 0⟩) ?_
         refine x_exit ?_
         refine x_te ?_
         refine x_te ?_
         replace h := done_leaf h hx15
         refine x_bh ?_
         refine x_tn ?_
         refine x_rg (rgn [hE] (⟨[(4, pI 0)], [], 0⟩)) ?_
         refine x_toret ?_
         obtain rfl := Option.some.inj h
         exact ret0 (.int .i64 0) (.refl _) (fun _ => rfl)

theorem c30 {l : (List api_Attr)} {r : Int} (h : ref22_Check l = some r) : CallOK Tryd.prog 30 [.sl (some 3) (List.map enc_api_Attr l)] (.int .i64 r) true := by
  apply ok30
  unfold ref22_Check at h
  refine x_rg (rgn [hE] (⟨[(0, pL (some 3) enc_api_Attr l)], [], 0⟩)) ?_
  refine x_seq ?_
  refine x_rg (rgn [hE] (⟨[(0, pL (some 3) enc_api_Attr l), (3, pI 0)], [], 0⟩)) ?_
  refine x_block ?_
  refine kw0 (⟨[(0, pL (some 3) enc_api_Attr l), (3, pI 0)], [], 0⟩) ?_
  refine x_loop (σ := Int) h (fun s => ⟨[(0, pL (some 3) enc_api_Attr l), (3, pI s)], [], 0⟩) (by kernel_rfl) ?_ ?_
  ·rintro i
   kernel_rfl
  ·rintro i x7 h hx7
   replace h : ref22_Check_L7 l i = some x7 := h
   unfold ref22_Check_L7 at h
   refine x_seq ?_
   refine x_rg (rg0 [hE, hE, hN (.len (List.length l : Int)), hE] (⟨[(0, pL (some 3) enc_api_Attr l), (3, pI i), (8, pB (decide (i < (List.length l : Int))))], [], 0⟩) (.cons (lenM enc_api_Attr l) .nil)) ?_
   refine x_cond _ rfl (fun hc8 => ?_) (fun hc8 => ?_)
   ·replace h := ite_t h hc8
    refine kw0 (⟨[(0, pL (some 3) enc_api_Attr l), (3, pI i)], [], 0⟩) ?_
    refine x_skip ?_
    refine x_tn ?_
    refine x_seq ?_
    refine x_block ?_
    obtain ⟨x9, hx9, h⟩ := bind_some h
    obtain ⟨x10, hx10, h⟩ := bind_some h
    obtain ⟨x11, hx11, h⟩ := bind_some h
    refine x_rg (rg0 (obs := [(cut (List.map enc_api_Attr l) 0 i = some (List.map enc_api_Attr x9)), (lsAt (List.map enc_api_Attr l) i = some (enc_api_Attr x10)), (CallOK Tryd.prog 61 [.sl (some 3) (List.map enc_api_Attr x9), enc_api_Attr x10] (.int .i64 x11) true)]) [hE, hE, hN (.cutP (List.map enc_api_Attr x9)), hE, hE, hN (.pAt (enc_api_Attr x10)), hE, hN (.cal [] (.int .i64 x11) true), hE] (⟨[(0, pL (some 3) enc_api_Attr l), (3, pI i), (4, pI x11)], [], 0⟩) (.cons (cut_map hx9) (.cons (lsAt_map hx10) (.cons (c61 hx11) .nil)))) ?_
    refine x_rg (rgn [hE, hE] (⟨[(0, pL (some 3) enc_api_Attr l), (3, pI i), (4, pI x11), (20, pB (!decide (x11 = 0)))], [], 0⟩)) ?_
    refine x_cond _ rfl (fun hc12 => ?_) (fun hc12 => ?_)
    ·replace h := ite_t h hc12
     refine x_rg (rgn [hE, hE] (⟨[(2, pI x11)], [], 0⟩)) ?_
     refine x_toret ?_
     refine x_br ?_
     refine x_tr ?_
     refine x_tr ?_
     replace h := done_leaf h hx7
     refine x_br ?_
     refine x_tr ?_
     obtain rfl := Option.some.inj h
     exact ret0 (.int .i64 x11) (.refl _) (fun _ => rfl)
    ·replace h := ite_f h hc12
     refine kw0 (⟨[(0, pL (some 3) enc_api_Attr l), (3, pI i)], [], 0⟩) ?_
     refine x_skip ?_
     refine x_bn ?_
     refine x_tn ?_
     refine x_rgt (rgn [hE, hE, hE] (⟨[(0, pL (some 3) enc_api_Attr l), (3, pI (IntKind.wrap .i64 (i + 1)))], [], 0⟩)) ?_
     refine x_tn ?_
     exact ⟨_, (Option.some.inj h).symm, by kernel_rfl⟩
   ·replace h := ite_f h hc8
    refine kw0 (⟨[], [], 0⟩) ?_
    refine x_exit ?_
    refine x_te ?_
    refine x_te ?_
    replace h := done_leaf h hx7
    refine x_bh ?_
    refine x_tn ?_
    refine x_rg (rgn [hE] (⟨[(2, pI 0)], [], 0⟩)) ?_
    refine x_toret ?_
    obtain rfl := Option.some.inj h
    exact ret0 (.int .i64 0) (.refl _) (fun _ => rfl)

theorem c41 {a : (List api_Attr)} {b : (List api_Attr)} {r : Bool} (h : ref22_Same a b = some r) : CallOK Tryd.prog 41 [.sl (some 3) (List.map enc_api_Attr a), .sl (some 3) (List.map enc_api_Attr b)] (.bool r) true := by
  apply ok41
  unfold ref22_Same at h
  refine x_rg (rgn [hE] (⟨[(0, pL (some 3) enc_api_Attr a), (1, pL (some 3) enc_api_Attr b)], [], 0⟩)) ?_
  refine x_seq ?_
  refine x_rg (rg0 [hE, hN (.len (List.length a : Int)), hE, hN (.len (List.length b : Int)), hE] (⟨[(0, pL (some 3) enc_api_Attr a), (1, pL (some 3) enc_api_Attr b), (10, pB (!decide ((List.length a : Int) = (List.length b : Int))))], [], 0⟩) (.cons (lenM enc_api_Attr a) (.cons (lenM enc_api_Attr b) .nil))) ?_
  refine x_cond _ rfl (fun hc1 => ?_) (fun hc1 => ?_)
  ·replace h := ite_t h hc1
   refine x_rg (rgn [hE] (⟨[(4, pB false)], [], 0⟩)) ?_
   refine x_toret ?_
   refine x_tr ?_
   obtain rfl := Option.some.inj h
   exact ret0 (.bool false) (.refl _) (fun _ => rfl)
  ·replace h := ite_f h hc1
   refine kw0 (⟨[(0, pL (some 3) enc_api_Attr a), (1, pL (some 3) enc_api_Attr b)], [], 0⟩) ?_
   refine x_skip ?_
   refine x_tn ?_
   refine x_seq ?_
   refine x_rg (rgn [hE] (⟨[(0, pL (some 3) enc_api_Attr a), (1, pL (some 3) enc_api_Attr b), (5, pI 0)], [], 0⟩)) ?_
   refine x_block ?_
   refine kw0 (⟨[(0, pL (some 3) enc_api_Attr a), (1, pL (some 3) enc_api_Attr b), (5, pI 0)], [], 0⟩) ?_
   refine x_loop (σ := Int) h (fun s => ⟨[(0, pL (some 3) enc_api_Attr a), (1, pL (some 3) enc_api_Attr b), (5, pI s)], [], 0⟩) (by kernel_rfl) ?_ ?_
   ·rintro i
    kernel_rfl
   ·rintro i x7 h hx7
    replace h : ref22_Same_L7 a b i = some x7 := h
    unfold ref22_Same_L7 at h
    refine x_seq ?_
    refine x_rg (rg0 [hE, hE, hN (.len (List.length a : Int)), hE] (⟨[(0, pL (some 3) enc_api_Attr a), (1, pL (some 3) enc_api_Attr b), (5, pI i), (14, pB (decide (i < (List.length a : Int))))], [], 0⟩) (.cons (lenM enc_api_Attr a) .nil)) ?_
    refine x_cond _ rfl (fun hc8 => ?_) (fun hc8 => ?_)
    ·replace h := ite_t h hc8
     refine kw0 (⟨[(0, pL (some 3) enc_api_Attr a), (1, pL (some 3) enc_api_Attr b), (5, pI i)], [], 0⟩) ?_
     refine x_skip ?_
     refine x_tn ?_
     refine x_seq ?_
     refine x_block ?_
     obtain ⟨x9, hx9, h⟩ := bind_some h
     obtain ⟨x10, hx10, h⟩ := bind_some h
     refine x_rg (rg0 [hE, hE, hN (.pAt (enc_api_Attr x9)), hE, hE, hE, hN (.pAt (enc_api_Attr x10)), hE, hE] (⟨[(0, pL (some 3) enc_api_Attr a), (1, pL (some 3) enc_api_Attr b), (5, pI i), (25, pB (!(decide (x9.Name = x10.Name) && (decide (x9.Value = x10.Value) && (decide (x9.Query = x10.Query) && true)))))], [], 0⟩) (.cons (lsAt_map (f := enc_api_Attr) hx9) (.cons (lsAt_map (f := enc_api_Attr) hx10) .nil))) ?_
     refine x_cond _ rfl (fun hc11 => ?_) (fun hc11 => ?_)
     ·replace h := ite_t h hc11
      refine x_rg (rgn [hE] (⟨[(4, pB false)], [], 0⟩)) ?_
      refine x_toret ?_
      refine x_br ?_
      refine x_tr ?_
      refine x_tr ?_
      replace h := done_leaf h hx7
      refine x_br ?_
      refine x_tr ?_
      obtain rfl := Option.some.inj h
      exact ret0 (.bool false) (.refl _) (fun _ => rfl)
     ·replace h := ite_f h hc11
      refine kw0 (⟨[(0, pL (some 3) enc_api_Attr a), (1, pL (some 3) enc_api_Attr b), (5, pI i)], [], 0⟩) ?_
      refine x_skip ?_
      refine x_bn ?_
      refine x_tn ?_
      refine x_rgt (rgn [hE, hE, hE] (⟨[(0, pL (some 3) enc_api_Attr a), (1, pL (some 3) enc_api_Attr b), (5, pI (IntKind.wrap .i64 (i + 1)))], [], 0⟩)) ?_
      refine x_tn ?_
      exact ⟨_, (Option.some.inj h).symm, by kernel_rfl⟩
    ·replace h := ite_f h hc8
     refine kw0 (⟨[], [], 0⟩) ?_
     refine x_exit ?_
     refine x_te ?_
     refine x_te ?_
     replace h := done_leaf h hx7
     refine x_bh ?_
     refine x_tn ?_
     refine x_rg (rgn [hE] (⟨[(4, pB true)], [], 0⟩)) ?_
     refine x_toret ?_
     obtain rfl := Option.some.inj h
     exact ret0 (.bool true) (.refl _) (fun _ => rfl)

theorem c18 {a : (List api_Entry)} {b : (List api_Entry)} {r : Bool} (h : ref27_Same a b = some r) : CallOK Tryd.prog 18 [.sl (some 1) (List.map enc_api_Entry a), .sl (some 1) (List.map enc_api_Entry b)] (.bool r) true := by
  apply ok18
  unfold ref27_Same at h
  refine x_rg (rgn [hE] (⟨[(0, pL (some 1) enc_api_Entry a), (1, pL (some 1) enc_api_Entry b)], [], 0⟩)) ?_
  refine x_seq ?_
  refine x_rg (rg0 [hE, hN (.len (List.length a : Int)), hE, hN (.len (List.length b : Int)), hE] (⟨[(0, pL (some 1) enc_api_Entry a), (1, pL (some 1) enc_api_Entry b), (10, pB (!decide ((List.length a : Int) = (List.length b : Int))))], [], 0⟩) (.cons (lenM enc_api_Entry a) (.cons (lenM enc_api_Entry b) .nil))) ?_
  refine x_cond _ rfl (fun hc1 => ?_) (fun hc1 => ?_)
  ·replace h := ite_t h hc1
   refine x_rg (rgn [hE] (⟨[(4, pB false)], [], 0⟩)) ?_
   refine x_toret ?_
   refine x_tr ?_
   obtain rfl := Option.some.inj h
   exact ret0 (.bool false) (.refl _) (fun _ => rfl)
  ·replace h := ite_f h hc1
   refine kw0 (⟨[(0, pL (some 1) enc_api_Entry a), (1, pL (some 1) enc_api_Entry b)], [], 0⟩) ?_
   refine x_skip ?_
   refine x_tn ?_
   refine x_seq ?_
   refine x_rg (rgn [hE] (⟨[(0, pL (some 1) enc_api_Entry a), (1, pL (some 1) enc_api_Entry b), (5, pI 0)], [], 0⟩)) ?_
   refine x_block ?_
   refine kw0 (⟨[(0, pL (some 1) enc_api_Entry a), (1, pL (some 1) enc_api_Entry b), (5, pI 0)], [], 0⟩) ?_
   refine x_loop (σ := Int) h (fun s => ⟨[(0, pL (some 1) enc_api_Entry a), (1, pL (some 1) enc_api_Entry b), (5, pI s)], [], 0⟩) (by kernel_rfl) ?_ ?_
   ·rintro i
    kernel_rfl
   ·rintro i x8 h hx8
    replace h : ref27_Same_L8 a b i = some x8 := h
    unfold ref27_Same_L8 at h
    refine x_seq ?_
    refine x_rg (rg0 [hE, hE, hN (.len (List.length a : Int)), hE] (⟨[(0, pL (some 1) enc_api_Entry a), (1, pL (some 1) enc_api_Entry b), (5, pI i), (14, pB (decide (i < (List.length a : Int))))], [], 0⟩) (.cons (lenM enc_api_Entry a) .nil)) ?_
    refine x_cond _ rfl (fun hc9 => ?_) (fun hc9 => ?_)
    ·replace h := ite_t h hc9
     refine kw0 (⟨[(0, pL (some 1) enc_api_Entry a), (1, pL (some 1) enc_api_Entry b), (5, pI i)], [], 0⟩) ?_
     refine x_skip ?_
     refine x_tn ?_
     refine x_seq ?_
     refine x_block ?_
     obtain ⟨x10, hx10, h⟩ := bind_some h
     obtain ⟨x11, hx11, h⟩ := bind_some h
     obtain ⟨x12, hx12, h⟩ := bind_some h
     refine x_rg (rg0 [hE, hE, hN (.pAt (enc_api_Entry x10)), hE, hE, hE, hE, hN (.pAt (enc_api_Entry x11)), hE, hE, hN (.cal [] (.bool x12) true), hE] (⟨[(0, pL (some 1) enc_api_Entry a), (1, pL (some 1) enc_api_Entry b), (5, pI i), (28, pB (!x12))], [], 0⟩) (.cons (lsAt_map (f := enc_api_Entry) hx10) (.cons (lsAt_map (f := enc_api_Entry) hx11) (.cons (c41 hx12) .nil)))) ?_
     refine x_cond _ rfl (fun hc13 => ?_) (fun hc13 => ?_)
     ·replace h := ite_t h hc13
      refine x_rg (rgn [hE] (⟨[(4, pB false)], [], 0⟩)) ?_
      refine x_toret ?_
      refine x_br ?_
      refine x_tr ?_
      refine x_tr ?_
      replace h := done_leaf h hx8
      refine x_br ?_
      refine x_tr ?_
      obtain rfl := Option.some.inj h
      exact ret0 (.bool false) (.refl _) (fun _ => rfl)
     ·replace h := ite_f h hc13
      refine kw0 (⟨[(0, pL (some 1) enc_api_Entry a), (1, pL (some 1) enc_api_Entry b), (5, pI i)], [], 0⟩) ?_
      refine x_skip ?_
      refine x_bn ?_
      refine x_tn ?_
      refine x_rgt (rgn [hE, hE, hE] (⟨[(0, pL (some 1) enc_api_Entry a), (1, pL (some 1) enc_api_Entry b), (5, pI (IntKind.wrap .i64 (i + 1)))], [], 0⟩)) ?_
      refine x_tn ?_
      exact ⟨_, (Option.some.inj h).symm, by kernel_rfl⟩
    ·replace h := ite_f h hc9
     refine kw0 (⟨[], [], 0⟩) ?_
     refine x_exit ?_
     refine x_te ?_
     refine x_te ?_
     replace h := done_leaf h hx8
     refine x_bh ?_
     refine x_tn ?_
     refine x_rg (rgn [hE] (⟨[(4, pB true)], [], 0⟩)) ?_
     refine x_toret ?_
     obtain rfl := Option.some.inj h
     exact ret0 (.bool true) (.refl _) (fun _ => rfl)

theorem c19 {l : (List api_Entry)} {r : Bool} (h : law27_small l = some r) : CallOK Tryd.prog 19 [.sl (some 1) (List.map enc_api_Entry l)] (.bool r) true := by
  apply ok19
  unfold law27_small at h
  refine x_rg (rgn [hE] (⟨[(0, pL (some 1) enc_api_Entry l)], [], 0⟩)) ?_
  refine x_seq ?_
  refine x_rg (rg0 [hE, hN (.len (List.length l : Int)), hE] (⟨[(0, pL (some 1) enc_api_Entry l), (8, pB (decide (300 < (List.length l : Int))))], [], 0⟩) (.cons (lenM enc_api_Entry l) .nil)) ?_
  refine x_cond _ rfl (fun hc1 => ?_) (fun hc1 => ?_)
  ·replace h := ite_t h hc1
   refine x_rg (rgn [hE] (⟨[(2, pB false)], [], 0⟩)) ?_
   refine x_toret ?_
   refine x_tr ?_
   obtain rfl := Option.some.inj h
   exact ret0 (.bool false) (.refl _) (fun _ => rfl)
  ·replace h := ite_f h hc1
   refine kw0 (⟨[(0, pL (some 1) enc_api_Entry l)], [], 0⟩) ?_
   refine x_skip ?_
   refine x_tn ?_
   refine x_rg (rgn [hE] (⟨[(0, pL (some 1) enc_api_Entry l), (3, pI 0)], [], 0⟩)) ?_
   refine x_seq ?_
   refine x_rg (rg0 [hE, hN (.len (List.length l : Int)), hE] (⟨[(0, pL (some 1) enc_api_Entry l), (3, pI 0), (10, pI (List.length l : Int)), (11, pI 0)], [], 0⟩) (.cons (lenM enc_api_Entry l) .nil)) ?_
   refine x_block ?_
   refine kw0 (⟨[(0, pL (some 1) enc_api_Entry l), (3, pI 0), (10, pI (List.length l : Int)), (11, pI 0)], [], 0⟩) ?_
   refine x_loop (σ := (Int × Int)) h (fun s => ⟨[(0, pL (some 1) enc_api_Entry l), (3, pI s.1), (10, pI (List.length l : Int)), (11, pI s.2)], [], 0⟩) (by kernel_rfl) ?_ ?_
   ·rintro ⟨n, v25⟩
    kernel_rfl
   ·rintro ⟨n, v25⟩ x26 h hx26
    replace h : law27_small_L26 l n v25 = some x26 := h
    unfold law27_small_L26 at h
    refine x_rg (rgn [hE] (⟨[(0, pL (some 1) enc_api_Entry l), (3, pI n), (10, pI (List.length l : Int)), (11, pI v25), (12, pB (decide (v25 < (List.length l : Int))))], [], 0⟩)) ?_
    refine x_seq ?_
    refine x_cond _ rfl (fun hc27 => ?_) (fun hc27 => ?_)
    ·replace h := ite_t h hc27
     refine kw0 (⟨[(0, pL (some 1) enc_api_Entry l), (3, pI n), (10, pI (List.length l : Int)), (11, pI v25)], [], 0⟩) ?_
     refine x_skip ?_
     refine x_tn ?_
     refine x_seq ?_
     refine x_block ?_
     refine x_rg (rgn [hE, hE] (⟨[(0, pL (some 1) enc_api_Entry l), (3, pI n), (4, pI v25), (10, pI (List.length l : Int)), (11, pI v25)], [], 0⟩)) ?_
     obtain ⟨x28, hx28, h⟩ := bind_some h
     refine x_rg (rg0 [hE, hE, hE, hN (.pAt (enc_api_Entry x28)), hE, hE, hN (.len (List.length x28.Attrs : Int)), hE, hE] (⟨[(0, pL (some 1) enc_api_Entry l), (3, pI (IntKind.wrap .i64 (n + (List.length x28.Attrs : Int)))), (4, pI v25), (10, pI (List.length l : Int)), (11, pI v25)], [], 0⟩) (.cons (lsAt_map (f := enc_api_Entry) hx28) (.cons (lenM enc_api_Attr x28.Attrs) .nil))) ?_
     refine x_seq ?_
     refine x_rg (rgn [hE, hE] (⟨[(0, pL (some 1) enc_api_Entry l), (3, pI (IntKind.wrap .i64 (n + (List.length x28.Attrs : Int)))), (4, pI v25), (10, pI (List.length l : Int)), (11, pI v25), (23, pB (decide (600 < (IntKind.wrap .i64 (n + (List.length x28.Attrs : Int))))))], [], 0⟩)) ?_
     refine x_cond _ rfl (fun hc29 => ?_) (fun hc29 => ?_)
     ·replace h := ite_t h hc29
      refine x_rg (rgn [hE] (⟨[(2, pB false)], [], 0⟩)) ?_
      refine x_toret ?_
      refine x_tr ?_
      refine x_br ?_
      refine x_tr ?_
      refine x_tr ?_
      replace h := done_leaf h hx26
      refine x_br ?_
      refine x_tr ?_
      obtain rfl := Option.some.inj h
      exact ret0 (.bool false) (.refl _) (fun _ => rfl)
     ·replace h := ite_f h hc29
      refine kw0 (⟨[(0, pL (some 1) enc_api_Entry l), (3, pI (IntKind.wrap .i64 (n + (List.length x28.Attrs : Int)))), (4, pI v25), (10, pI (List.length l : Int)), (11, pI v25)], [], 0⟩) ?_
      refine x_skip ?_
      refine x_tn ?_
      obtain ⟨x30, hx30, h⟩ := bind_some h
      refine x_rg (rg0 [hE, hE, hN (.pAt (enc_api_Entry x30)), hE, hE, hN (.len (List.length x30.Attrs : Int)), hE] (⟨[(0, pL (some 1) enc_api_Entry l), (3, pI (IntKind.wrap .i64 (n + (List.length x28.Attrs : Int)))), (4, pI v25), (10, pI (List.length l : Int)), (11, pI v25), (29, pI (List.length x30.Attrs : Int)), (30, pI 0)], [], 0⟩) (.cons (lsAt_map (f := enc_api_Entry) hx30) (.cons (lenM enc_api_Attr x30.Attrs) .nil))) ?_
      refine x_block ?_
      refine kw0 (⟨[(0, pL (some 1) enc_api_Entry l), (3, pI (IntKind.wrap .i64 (n + (List.length x28.Attrs : Int)))), (4, pI v25), (10, pI (List.length l : Int)), (11, pI v25), (29, pI (List.length x30.Attrs : Int)), (30, pI 0)], [], 0⟩) ?_
      refine x_loop (σ := Int) h (fun s => ⟨[(0, pL (some 1) enc_api_Entry l), (3, pI (IntKind.wrap .i64 (n + (List.length x28.Attrs : Int)))), (4, pI v25), (10, pI (List.length l : Int)), (11, pI v25), (29, pI (List.length x30.Attrs : Int)), (30, pI s)], [], 0⟩) (by kernel_rfl) ?_ ?_
      ·rintro v39
       kernel_rfl
      ·rintro v39 x40 h hx40
       replace h : law27_small_L40 l n v25 x28 x30 v39 = some x40 := h
       unfold law27_small_L40 at h
       refine x_rg (rgn [hE] (⟨[(0, pL (some 1) enc_api_Entry l), (3, pI (IntKind.wrap .i64 (n + (List.length x28.Attrs : Int)))), (4, pI v25), (10, pI (List.length l : Int)), (11, pI v25), (29, pI (List.length x30.Attrs : Int)), (30, pI v39), (31, pB (decide (v39 < (List.length x30.Attrs : Int))))], [], 0⟩)) ?_
       refine x_seq ?_
       refine x_cond _ rfl (fun hc41 => ?_) (fun hc41 => ?_)
       ·replace h := ite_t h hc41
        refine kw0 (⟨[(0, pL (some 1) enc_api_Entry l), (3, pI (IntKind.wrap .i64 (n + (List.length x28.Attrs : Int)))), (4, pI v25), (10, pI (List.length l : Int)), (11, pI v25), (29, pI (List.length x30.Attrs : Int)), (30, pI v39)], [], 0⟩) ?_
        refine x_skip ?_
        refine x_tn ?_
        refine x_seq ?_
        refine x_block ?_
        refine x_rg (rgn [hE, hE] (⟨[(0, pL (some 1) enc_api_Entry l), (3, pI (IntKind.wrap .i64 (n + (List.length x28.Attrs : Int)))), (4, pI v25), (5, pI v39), (10, pI (List.length l : Int)), (11, pI v25), (29, pI (List.length x30.Attrs : Int)), (30, pI v39)], [], 0⟩)) ?_
        obtain ⟨x42, hx42, h⟩ := bind_some h
        obtain ⟨x43, hx43, h⟩ := bind_some h
        obtain ⟨t47, ht, h⟩ := bind_some h
        refine x_rg (st2 := ⟨[(0, pL (some 1) enc_api_Entry l), (3, pI (IntKind.wrap .i64 (n + (List.length x28.Attrs : Int)))), (4, pI v25), (10, pI (List.length l : Int)), (11, pI v25), (29, pI (List.length x30.Attrs : Int)), (30, pI v39), (56, pB t47)], [], 0⟩) ?_ ?_
        ·rcases Bool.eq_false_or_eq_true (decide (1100 < (List.length x43.Name : Int))) with hg44 | hg44
         ·replace ht := ite_t ht hg44
          have e := Option.some.inj ht
          subst e
          exact rg0 [hE, hE, hN (.pAt (enc_api_Entry x42)), hE, hE, hE, hN (.pAt (enc_api_Attr x43)), hE, hE, hE, hE, hE, hS, hS, hS, hS, hS, hS, hS, hS, hS, hS, hS, hN (.pk true)] (⟨[(0, pL (some 1) enc_api_Entry l), (3, pI (IntKind.wrap .i64 (n + (List.length x28.Attrs : Int)))), (4, pI v25), (10, pI (List.length l : Int)), (11, pI v25), (29, pI (List.length x30.Attrs : Int)), (30, pI v39), (56, pB true)], [], 0⟩) (.cons (lsAt_map (f := enc_api_Entry) hx42) (.cons (lsAt_map (f := enc_api_Attr) hx43) (.cons hg44 (.cons hg44 (.cons hg44 (.cons hg44 (.cons hg44 (.cons hg44 (.cons hg44 (.cons hg44 (.cons hg44 (.cons hg44 (.cons hg44 (.cons hg44 .nil))))))))))))))
         ·replace ht := ite_f ht hg44
          obtain ⟨x45, hx45, ht⟩ := bind_some ht
          obtain ⟨x46, hx46, ht⟩ := bind_some ht
          have e := Option.some.inj ht
          subst e
          exact rg0 [hE, hE, hN (.pAt (enc_api_Entry x42)), hE, hE, hE, hN (.pAt (enc_api_Attr x43)), hE, hE, hE, hE, hE, hY, hY, (.y, (.pAt (enc_api_Entry x45))), hY, hY, hY, (.y, (.pAt (enc_api_Attr x46))), hY, hY, hY, hY, hN (.pk false)] (⟨[(0, pL (some 1) enc_api_Entry l), (3, pI (IntKind.wrap .i64 (n + (List.length x28.Attrs : Int)))), (4, pI v25), (10, pI (List.length l : Int)), (11, pI v25), (29, pI (List.length x30.Attrs : Int)), (30, pI v39), (56, pB (decide (1100 < (List.length x46.Value : Int))))], [], 0⟩) (.cons (lsAt_map (f := enc_api_Entry) hx42) (.cons (lsAt_map (f := enc_api_Attr) hx43) (.cons hg44 (.cons hg44 (.cons hg44 (.cons (lsAt_map (f := enc_api_Entry) hx45) (.cons hg44 (.cons hg44 (.cons hg44 (.cons hg44 (.cons (lsAt_map (f := enc_api_Attr) hx46) (.cons hg44 (.cons hg44 (.cons hg44 (.cons hg44 (.cons hg44 .nil))))))))))))))))
        ·clear ht
         refine x_cond _ rfl (fun hc48 => ?_) (fun hc48 => ?_)
         ·replace h := ite_t h hc48
          refine x_rg (rgn [hE] (⟨[(2, pB false)], [], 0⟩)) ?_
          refine x_toret ?_
          refine x_br ?_
          refine x_tr ?_
          refine x_tr ?_
          replace h := done_leaf h hx40
          refine x_br ?_
          refine x_br ?_
          refine x_tr ?_
          refine x_tr ?_
          replace h := done_leaf h hx26
          refine x_br ?_
          refine x_tr ?_
          obtain rfl := Option.some.inj h
          exact ret0 (.bool false) (.refl _) (fun _ => rfl)
         ·replace h := ite_f h hc48
          refine kw0 (⟨[(0, pL (some 1) enc_api_Entry l), (3, pI (IntKind.wrap .i64 (n + (List.length x28.Attrs : Int)))), (4, pI v25), (10, pI (List.length l : Int)), (11, pI v25), (29, pI (List.length x30.Attrs : Int)), (30, pI v39)], [], 0⟩) ?_
          refine x_skip ?_
          refine x_bn ?_
          refine x_tn ?_
          refine x_rgt (rgn [hE, hE] (⟨[(0, pL (some 1) enc_api_Entry l), (3, pI (IntKind.wrap .i64 (n + (List.length x28.Attrs : Int)))), (4, pI v25), (10, pI (List.length l : Int)), (11, pI v25), (29, pI (List.length x30.Attrs : Int)), (30, pI (IntKind.wrap .i64 (v39 + 1)))], [], 0⟩)) ?_
          refine x_tn ?_
          exact ⟨_, (Option.some.inj h).symm, by kernel_rfl⟩
       ·replace h := ite_f h hc41
        refine kw0 (⟨[(0, pL (some 1) enc_api_Entry l), (3, pI (IntKind.wrap .i64 (n + (List.length x28.Attrs : Int)))), (10, pI (List.length l : Int)), (11, pI v25)], [], 0⟩) ?_
        refine x_exit ?_
        refine x_te ?_
        refine x_te ?_
        replace h := done_leaf h hx40
        refine x_bh ?_
        refine x_bn ?_
        refine x_tn ?_
        refine x_rgt (rgn [hE, hE] (⟨[(0, pL (some 1) enc_api_Entry l), (3, pI (IntKind.wrap .i64 (n + (List.length x28.Attrs : Int)))), (10, pI (List.length l : Int)), (11, pI (IntKind.wrap .i64 (v25 + 1)))], [], 0⟩)) ?_
        refine x_tn ?_
        exact ⟨_, (Option.some.inj h).symm, by kernel_rfl⟩
    ·replace h := ite_f h hc27
     refine kw0 (⟨[], [], 0⟩) ?_
     refine x_exit ?_
     refine x_te ?_
     refine x_te ?_
     replace h := done_leaf h hx26
     refine x_bh ?_
     refine x_tn ?_
     refine x_rg (rgn [hE] (⟨[(2, pB true)], [], 0⟩)) ?_
     refine x_toret ?_
     obtain rfl := Option.some.inj h
     exact ret0 (.bool true) (.refl _) (fun _ => rfl)

theorem c105 {a0 : Str} {a1 : Str} {a2 : Str} {r : Str} (h : strings_ReplaceAll a0 a1 a2 = some r) : CallOK Tryd.prog 105 [.str a0, .str a1, .str a2] (.str r) true :=
  ok_replaceAll Tryd.func105 (by kernel_rfl) (by kernel_rfl) (g := 0) (by kernel_rfl) Tryd.strings_ReplaceAll h

theorem c82 {s_ : Str} {r : Str} (h : attr_quote s_ = some r) : CallOK Tryd.prog 82 [.str s_] (.str r) true := by
  apply ok82
  unfold attr_quote at h
  refine x_rg (rgn [hE] (⟨[(0, pS s_)], [], 0⟩)) ?_
  refine x_seq ?_
  obtain ⟨t3, ht, h⟩ := bind_some h
  refine x_rg (st2 := ⟨[(0, pS s_), (11, pB t3)], [], 0⟩) ?_ ?_
  ·rcases Bool.eq_false_or_eq_true (!decide (s_ = [])) with hg1 | hg1
   ·replace ht := ite_t ht hg1
    obtain ⟨x2, hx2, ht⟩ := bind_some ht
    have e := Option.some.inj ht
    subst e
    exact rg0 [hE, hE, hE, hY, (.y, (.cal [] (.int .i64 x2) true)), hY, hY, hY, hN (.pk true)] (⟨[(0, pS s_), (11, pB (decide (x2 = (List.length s_ : Int))))], [], 0⟩) (.cons hg1 (.cons hg1 (.cons (c104 hx2) (.cons hg1 (.cons hg1 (.cons hg1 (.cons hg1 .nil)))))))
   ·replace ht := ite_f ht hg1
    have e := Option.some.inj ht
    subst e
    exact rg0 [hE, hE, hE, hS, hS, hS, hS, hS, hN (.pk false)] (⟨[(0, pS s_), (11, pB false)], [], 0⟩) (.cons hg1 (.cons hg1 (.cons hg1 (.cons hg1 (.cons hg1 (.cons hg1 .nil))))))
  ·clear ht
   refine x_cond _ rfl (fun hc4 => ?_) (fun hc4 => ?_)
   ·replace h := ite_t h hc4
    refine x_rg (rgn [hE, hE] (⟨[(2, pS s_)], [], 0⟩)) ?_
    refine x_toret ?_
    refine x_tr ?_
    obtain rfl := Option.some.inj h
    exact ret0 (.str s_) (.refl _) (fun _ => rfl)
   ·replace h := ite_f h hc4
    refine kw0 (⟨[(0, pS s_)], [], 0⟩) ?_
    refine x_skip ?_
    refine x_tn ?_
    obtain ⟨x5, hx5, h⟩ := bind_some h
    obtain ⟨x6, hx6, h⟩ := bind_some h
    obtain ⟨x7, hx7, h⟩ := bind_some h
    refine x_rg (rg0 [hE, hN (.cal [] (.str x5) true), hN (.cat x6), hN (.cat x7), hE] (⟨[(2, pS x7)], [], 0⟩) (.cons (c105 hx5) (.cons hx6 (.cons hx7 .nil)))) ?_
    refine x_toret ?_
    obtain rfl := Option.some.inj h
    exact ret0 (.str x7) (.refl _) (fun _ => rfl)

theorem c83 {a0 : (List Str)} {a1 : Str} {r : Str} (h : strings_Join a0 a1 = some r) : CallOK Tryd.prog 83 [.sl none (List.map PV.str a0), .str a1] (.str r) true :=
  ok_join Tryd.func83 (by kernel_rfl) (by kernel_rfl) Tryd.strings_Join_none Tryd.strings_Join h

theorem c57 {l : (List api_Attr)} {r : (Str × Int)} (h : attr_Print l = some r) : CallOK Tryd.prog 57 [.sl (some 3) (List.map enc_api_Attr l)] (.tup [.str r.1, .int .i64 r.2]) true := by
  apply ok57
  unfold attr_Print at h
  refine x_rg (rgn [hE, hE] (⟨[(0, pL (some 3) enc_api_Attr l)], [], 0⟩)) ?_
  refine x_seq ?_
  obtain ⟨x1, hx1, h⟩ := bind_some h
  refine x_rg (rg0 [hE, hN (.cal [] (.int .i64 x1) true), hE] (⟨[(0, pL (some 3) enc_api_Attr l), (4, pI x1)], [], 0⟩) (.cons (c69 hx1) .nil)) ?_
  refine x_rg (rgn [hE, hE] (⟨[(0, pL (some 3) enc_api_Attr l), (4, pI x1), (11, pB (!decide (x1 = 0)))], [], 0⟩)) ?_
  refine x_cond _ rfl (fun hc2 => ?_) (fun hc2 => ?_)
  ·replace h := ite_t h hc2
   refine x_rg (rgn [hE, hE, hE] (⟨[(2, pS []), (3, pI x1)], [], 0⟩)) ?_
   refine x_toret ?_
   refine x_tr ?_
   obtain rfl := Option.some.inj h
   exact ret0 (.tup [.str [], .int .i64 x1]) (.tup (.cons (.refl _) (.cons (.refl _) .nil))) (fun _ => rfl)
  ·replace h := ite_f h hc2
   refine kw0 (⟨[(0, pL (some 3) enc_api_Attr l)], [], 0⟩) ?_
   refine x_skip ?_
   refine x_tn ?_
   obtain ⟨x3, hx3, h⟩ := bind_some h
   refine x_rg (rg0 (obs := [((List.length (List.map enc_api_Attr l) : Int) = (List.length l : Int)), (mkC 16 (.str []) 0 (List.length l : Int) = some (List.map PV.str x3))]) [hE, hN (.len (List.length l : Int)), hN (.mk (List.map PV.str x3)), hE] (⟨[(0, pL (some 3) enc_api_Attr l), (5, oL 0 PV.str x3)], [(0, rL none PV.str x3)], 1⟩) (.cons (by rw [List.length_map]) (.cons (mkC_map (f := PV.str) hx3) .nil))) ?_
   refine x_seq ?_
   refine x_rg (rg0 [hE, hN (.len (List.length l : Int)), hE] (⟨[(5, oL 0 PV.str x3), (16, pL (some 3) enc_api_Attr l), (17, pI (List.length l : Int)), (18, pI 0)], [(0, rL none PV.str x3)], 1⟩) (.cons (lenM enc_api_Attr l) .nil)) ?_
   refine x_block ?_
   refine kw0 (⟨[(5, oL 0 PV.str x3), (16, pL (some 3) enc_api_Attr l), (17, pI (List.length l : Int)), (18, pI 0)], [(0, rL none PV.str x3)], 1⟩) ?_
   refine x_loop (σ := (Int × (List Str))) h (fun s => ⟨[(5, oL 0 PV.str s.2), (16, pL (some 3) enc_api_Attr l), (17, pI (List.length l : Int)), (18, pI s.1)], [(0, rL none PV.str s.2)], 1⟩) (by kernel_rfl) ?_ ?_
   ·rintro ⟨v13, words⟩
    kernel_rfl
   ·rintro ⟨v13, words⟩ x15 h hx15
    replace h : attr_Print_L15 l v13 words = some x15 := h
    unfold attr_Print_L15 at h
    refine x_rg (rgn [hE] (⟨[(5, oL 0 PV.str words), (16, pL (some 3) enc_api_Attr l), (17, pI (List.length l : Int)), (18, pI v13), (19, pB (decide (v13 < (List.length l : Int))))], [(0, rL none PV.str words)], 1⟩)) ?_
    refine x_seq ?_
    refine x_cond _ rfl (fun hc16 => ?_) (fun hc16 => ?_)
    ·replace h := ite_t h hc16
     refine kw0 (⟨[(5, oL 0 PV.str words), (16, pL (some 3) enc_api_Attr l), (17, pI (List.length l : Int)), (18, pI v13)], [(0, rL none PV.str words)], 1⟩) ?_
     refine x_skip ?_
     refine x_tn ?_
     refine x_seq ?_
     refine x_block ?_
     obtain ⟨x17, hx17, h⟩ := bind_some h
     refine x_rg (rg0 [hN (.pAt (enc_api_Attr x17)), hE, hE, hE] (⟨[(5, oL 0 PV.str words), (7, .optr 1 0 0), (16, pL (some 3) enc_api_Attr l), (17, pI (List.length l : Int)), (18, pI v13)], [(0, rL none PV.str words), (1, some (.p (some 3) [enc_api_Attr x17]))], 2⟩) (.cons (lsAt_map (f := enc_api_Attr) hx17) .nil)) ?_
     refine x_rg (rgn [hE, hE] (⟨[(5, oL 0 PV.str words), (7, .optr 1 0 0), (16, pL (some 3) enc_api_Attr l), (17, pI (List.length l : Int)), (18, pI v13), (23, pB x17.Query)], [(0, rL none PV.str words), (1, some (.p (some 3) [enc_api_Attr x17]))], 2⟩)) ?_
     refine x_cond _ rfl (fun hc18 => ?_) (fun hc18 => ?_)
     ·replace h := ite_t h hc18
      obtain ⟨x19, hx19, h⟩ := bind_some h
      obtain ⟨x20, hx20, h⟩ := bind_some h
      refine x_rgt (rg0 (obs := [(catS x17.Name [63] = some x19), (List.take (List.map PV.str words).length (List.map PV.str words) ++ List.take 1 (List.drop 0 ([.str x19] : List PV)) = (List.map PV.str x20)), (List.length (List.map PV.str x20) * 16 ≤ 140737488355328), (List.length (List.map PV.str x20) ≤ 9223372036854775807), ((List.map PV.str words).length ≤ List.length (List.map PV.str words)), (0 + 1 ≤ List.length ([.str x19] : List PV))]) [hE, hE, hE, hN (.cat x19), hE, hN (.app (List.map PV.str x20)), hE] (⟨[(5, oL 0 PV.str x20), (16, pL (some 3) enc_api_Attr l), (17, pI (List.length l : Int)), (18, pI v13)], [(0, rL none PV.str x20)], 1⟩) (.cons hx19 (.cons (app_ob hx20 (.all _) (.rfl _)) (.cons (by rw [List.length_map]; exact (appL_ok hx20).2.1) (.cons (by rw [List.length_map]; exact (appL_ok hx20).2.2) (.cons (Nat.le_refl _) (.cons (by simp) .nil))))))) ?_
      refine x_bn ?_
      refine x_tn ?_
      refine x_rgt (rgn [hE, hE] (⟨[(5, oL 0 PV.str x20), (16, pL (some 3) enc_api_Attr l), (17, pI (List.length l : Int)), (18, pI (IntKind.wrap .i64 (v13 + 1)))], [(0, rL none PV.str x20)], 1⟩)) ?_
      refine x_tn ?_
      exact ⟨_, (Option.some.inj h).symm, by kernel_rfl⟩
     ·replace h := ite_f h hc18
      obtain ⟨x21, hx21, h⟩ := bind_some h
      obtain ⟨x22, hx22, h⟩ := bind_some h
      obtain ⟨x23, hx23, h⟩ := bind_some h
      obtain ⟨x24, hx24, h⟩ := bind_some h
      refine x_rgt (rg0 (obs := [(catS x17.Name [61] = some x21), (CallOK Tryd.prog 82 [.str x17.Value] (.str x22) true), (catS x21 x22 = some x23), (List.take (List.map PV.str words).length (List.map PV.str words) ++ List.take 1 (List.drop 0 ([.str x23] : List PV)) = (List.map PV.str x24)), (List.length (List.map PV.str x24) * 16 ≤ 140737488355328), (List.length (List.map PV.str x24) ≤ 9223372036854775807), ((List.map PV.str words).length ≤ List.length (List.map PV.str words)), (0 + 1 ≤ List.length ([.str x23] : List PV))]) [hE, hE, hE, hN (.cat x21), hE, hE, hN (.cal [] (.str x22) true), hN (.cat x23), hE, hN (.app (List.map PV.str x24)), hE] (⟨[(5, oL 0 PV.str x24), (16, pL (some 3) enc_api_Attr l), (17, pI (List.length l : Int)), (18, pI v13)], [(0, rL none PV.str x24)], 1⟩) (.cons hx21 (.cons (c82 hx22) (.cons hx23 (.cons (app_ob hx24 (.all _) (.rfl _)) (.cons (by rw [List.length_map]; exact (appL_ok hx24).2.1) (.cons (by rw [List.length_map]; exact (appL_ok hx24).2.2) (.cons (Nat.le_refl _) (.cons (by simp) .nil))))))))) ?_
      refine x_bn ?_
      refine x_tn ?_
      refine x_rgt (rgn [hE, hE] (⟨[(5, oL 0 PV.str x24), (16, pL (some 3) enc_api_Attr l), (17, pI (List.length l : Int)), (18, pI (IntKind.wrap .i64 (v13 + 1)))], [(0, rL none PV.str x24)], 1⟩)) ?_
      refine x_tn ?_
      exact ⟨_, (Option.some.inj h).symm, by kernel_rfl⟩
    ·replace h := ite_f h hc16
     refine kw0 (⟨[(5, oL 0 PV.str words)], [(0, rL none PV.str words)], 1⟩) ?_
     refine x_exit ?_
     refine x_te ?_
     refine x_te ?_
     replace h := done_map h hx15
     unfold attr_Print_A26 at h
     refine x_bh ?_
     refine x_tn ?_
     obtain ⟨x25, hx25, h⟩ := bind_some h
     refine x_rg (rg0 (obs := [(LesA [.sl none (List.take (List.map PV.str words).length (List.drop 0 (List.map PV.str words))), .str [32]] [.sl none (List.map PV.str words), .str [32]]), (CallOK Tryd.prog 83 [.sl none (List.map PV.str words), .str [32]] (.str x25) true), (0 + (List.map PV.str words).length ≤ List.length (List.map PV.str words))]) [hE, hN (.call [] [.sl none (List.map PV.str words), .str [32]] (.str x25) true), hE, hE] (⟨[(2, pS x25), (3, pI 0)], [], 0⟩) (.cons (.cons (.of_eq (by rw [List.drop_zero, List.take_length])) (.cons (.refl _) .nil)) (.cons (c83 hx25) (.cons (by simp) .nil)))) ?_
     refine x_toret ?_
     obtain rfl := Option.some.inj h
     exact ret0 (.tup [.str x25, .int .i64 0]) (.tup (.cons (.refl _) (.cons (.refl _) .nil))) (fun _ => rfl)

theorem c28 {l : (List api_Entry)} {r : (Str × Int)} (h : dial_Text l = some r) : CallOK Tryd.prog 28 [.sl (some 1) (List.map enc_api_Entry l)] (.tup [.str r.1, .int .i64 r.2]) true := by
  apply ok28
  unfold dial_Text at h
  refine x_rg (rgn [hE, hE] (⟨[(0, pL (some 1) enc_api_Entry l)], [], 0⟩)) ?_
  refine x_seq ?_
  refine x_rg (rg0 [hE, hN (.len (List.length l : Int)), hE] (⟨[(0, pL (some 1) enc_api_Entry l), (11, pB (decide (256 < (List.length l : Int))))], [], 0⟩) (.cons (lenM enc_api_Entry l) .nil)) ?_
  refine x_cond _ rfl (fun hc1 => ?_) (fun hc1 => ?_)
  ·replace h := ite_t h hc1
   refine x_rg (rgn [hE, hE] (⟨[(2, pS []), (3, pI 22)], [], 0⟩)) ?_
   refine x_toret ?_
   refine x_tr ?_
   obtain rfl := Option.some.inj h
   exact ret0 (.tup [.str [], .int .i64 22]) (.tup (.cons (.refl _) (.cons (.refl _) .nil))) (fun _ => rfl)
  ·replace h := ite_f h hc1
   refine kw0 (⟨[(0, pL (some 1) enc_api_Entry l)], [], 0⟩) ?_
   refine x_skip ?_
   refine x_tn ?_
   refine x_rg (rg0 (obs := [(∀ (k : Nat) (T' e' : TypeId) (bs' : List UInt8), lookR [] k ≠ some (.b T' e' bs'))]) [hN .bld] (⟨[(0, pL (some 1) enc_api_Entry l), (4, .optr 0 0 0)], [(0, some (.b 76 5 ([] : Str)))], 1⟩) (.cons (noB (by kernel_rfl)) .nil)) ?_
   refine x_seq ?_
   refine x_rg (rg0 [hE, hN (.len (List.length l : Int)), hE] (⟨[(4, .optr 0 0 0), (12, pL (some 1) enc_api_Entry l), (13, pI (List.length l : Int)), (14, pI 0)], [(0, some (.b 76 5 ([] : Str)))], 1⟩) (.cons (lenM enc_api_Entry l) .nil)) ?_
   refine x_block ?_
   refine kw0 (⟨[(4, .optr 0 0 0), (12, pL (some 1) enc_api_Entry l), (13, pI (List.length l : Int)), (14, pI 0)], [(0, some (.b 76 5 ([] : Str)))], 1⟩) ?_
   refine x_loop (σ := (Int × Str)) h (fun s => ⟨[(4, .optr 0 0 0), (12, pL (some 1) enc_api_Entry l), (13, pI (List.length l : Int)), (14, pI s.1)], [(0, some (.b 76 5 s.2))], 1⟩) (by kernel_rfl) ?_ ?_
   ·rintro ⟨v12, v13⟩
    kernel_rfl
   ·rintro ⟨v12, v13⟩ x14 h hx14
    replace h : dial_Text_L14 l v12 v13 = some x14 := h
    unfold dial_Text_L14 at h
    refine x_rg (rgn [hE] (⟨[(4, .optr 0 0 0), (12, pL (some 1) enc_api_Entry l), (13, pI (List.length l : Int)), (14, pI v12), (15, pB (decide (v12 < (List.length l : Int))))], [(0, some (.b 76 5 v13))], 1⟩)) ?_
    refine x_seq ?_
    refine x_cond _ rfl (fun hc15 => ?_) (fun hc15 => ?_)
    ·replace h := ite_t h hc15
     refine kw0 (⟨[(4, .optr 0 0 0), (12, pL (some 1) enc_api_Entry l), (13, pI (List.length l : Int)), (14, pI v12)], [(0, some (.b 76 5 v13))], 1⟩) ?_
     refine x_skip ?_
     refine x_tn ?_
     refine x_seq ?_
     refine x_block ?_
     obtain ⟨x16, hx16, h⟩ := bind_some h
     refine x_rg (rg0 [hN (.pAt (enc_api_Entry x16)), hE, hE, hE] (⟨[(4, .optr 0 0 0), (6, .optr 1 0 0), (12, pL (some 1) enc_api_Entry l), (13, pI (List.length l : Int)), (14, pI v12)], [(0, some (.b 76 5 v13)), (1, some (.p (some 1) [enc_api_Entry x16]))], 2⟩) (.cons (lsAt_map (f := enc_api_Entry) hx16) .nil)) ?_
     refine x_seq ?_
     obtain ⟨t19, ht, h⟩ := bind_some h
     refine x_rg (st2 := ⟨[(4, .optr 0 0 0), (6, .optr 1 0 0), (12, pL (some 1) enc_api_Entry l), (13, pI (List.length l : Int)), (14, pI v12), (26, pB t19)], [(0, some (.b 76 5 v13)), (1, some (.p (some 1) [enc_api_Entry x16]))], 2⟩) ?_ ?_
     ·rcases Bool.eq_false_or_eq_true (decide ((List.length x16.Attrs : Int) = 0)) with hg17 | hg17
      ·replace ht := ite_t ht hg17
       have e := Option.some.inj ht
       subst e
       exact rg0 [hE, hE, hN (.len (List.length x16.Attrs : Int)), hE, hE, hS, hS, hS, hN (.pk true)] (⟨[(4, .optr 0 0 0), (6, .optr 1 0 0), (12, pL (some 1) enc_api_Entry l), (13, pI (List.length l : Int)), (14, pI v12), (26, pB true)], [(0, some (.b 76 5 v13)), (1, some (.p (some 1) [enc_api_Entry x16]))], 2⟩) (.cons (lenM enc_api_Attr x16.Attrs) (.cons hg17 (.cons hg17 (.cons hg17 (.cons hg17 .nil)))))
      ·replace ht := ite_f ht hg17
       obtain ⟨x18, hx18, ht⟩ := bind_some ht
       have e := Option.some.inj ht
       subst e
       exact rg0 [hE, hE, hN (.len (List.length x16.Attrs : Int)), hE, hE, hY, hY, (.y, (.cal [] (.bool x18) true)), hN (.pk false)] (⟨[(4, .optr 0 0 0), (6, .optr 1 0 0), (12, pL (some 1) enc_api_Entry l), (13, pI (List.length l : Int)), (14, pI v12), (26, pB x18)], [(0, some (.b 76 5 v13)), (1, some (.p (some 1) [enc_api_Entry x16]))], 2⟩) (.cons (lenM enc_api_Attr x16.Attrs) (.cons hg17 (.cons hg17 (.cons hg17 (.cons (c56 hx18) (.cons hg17 .nil))))))
     ·clear ht
      refine x_cond _ rfl (fun hc20 => ?_) (fun hc20 => ?_)
      ·replace h := ite_t h hc20
       refine x_rg (rgn [hE, hE] (⟨[(2, pS []), (3, pI 2)], [], 0⟩)) ?_
       refine x_toret ?_
       refine x_tr ?_
       refine x_br ?_
       refine x_tr ?_
       refine x_tr ?_
       replace h := done_leaf h hx14
       refine x_br ?_
       refine x_tr ?_
       obtain rfl := Option.some.inj h
       exact ret0 (.tup [.str [], .int .i64 2]) (.tup (.cons (.refl _) (.cons (.refl _) .nil))) (fun _ => rfl)
      ·replace h := ite_f h hc20
       refine kw0 (⟨[(4, .optr 0 0 0), (6, .optr 1 0 0), (12, pL (some 1) enc_api_Entry l), (13, pI (List.length l : Int)), (14, pI v12)], [(0, some (.b 76 5 v13)), (1, some (.p (some 1) [enc_api_Entry x16]))], 2⟩) ?_
       refine x_skip ?_
       refine x_tn ?_
       obtain ⟨x21, hx21, h⟩ := bind_some h
       refine x_rg (rg0 [hE, hE, hN (.cal [] (.tup [.str x21.1, .int .i64 x21.2]) true), hE, hE, hE, hE, hE] (⟨[(4, .optr 0 0 0), (7, pS x21.1), (8, pI x21.2), (12, pL (some 1) enc_api_Entry l), (13, pI (List.length l : Int)), (14, pI v12)], [(0, some (.b 76 5 v13))], 1⟩) (.cons (c57 hx21) .nil)) ?_
       refine x_seq ?_
       refine x_rg (rgn [hE, hE] (⟨[(4, .optr 0 0 0), (7, pS x21.1), (8, pI x21.2), (12, pL (some 1) enc_api_Entry l), (13, pI (List.length l : Int)), (14, pI v12), (34, pB (!decide (x21.2 = 0)))], [(0, some (.b 76 5 v13))], 1⟩)) ?_
       refine x_cond _ rfl (fun hc22 => ?_) (fun hc22 => ?_)
       ·replace h := ite_t h hc22
        refine x_rg (rgn [hE, hE, hE] (⟨[(2, pS []), (3, pI x21.2)], [], 0⟩)) ?_
        refine x_toret ?_
        refine x_tr ?_
        refine x_br ?_
        refine x_tr ?_
        refine x_tr ?_
        replace h := done_leaf h hx14
        refine x_br ?_
        refine x_tr ?_
        obtain rfl := Option.some.inj h
        exact ret0 (.tup [.str [], .int .i64 x21.2]) (.tup (.cons (.refl _) (.cons (.refl _) .nil))) (fun _ => rfl)
       ·replace h := ite_f h hc22
        refine kw0 (⟨[(4, .optr 0 0 0), (7, pS x21.1), (12, pL (some 1) enc_api_Entry l), (13, pI (List.length l : Int)), (14, pI v12)], [(0, some (.b 76 5 v13))], 1⟩) ?_
        refine x_skip ?_
        refine x_tn ?_
        obtain ⟨x23, hx23, h⟩ := bind_some h
        obtain ⟨x24, hx24, h⟩ := bind_some h
        refine x_rgt (rg0 [hE, hN (.cat x23), hN (.bcall (.tup [.int .i64 (List.length x23 : Int), .niliface]) x24)] (⟨[(4, .optr 0 0 0), (12, pL (some 1) enc_api_Entry l), (13, pI (List.length l : Int)), (14, pI v12)], [(0, some (.b 76 5 x24))], 1⟩) (.cons hx23 (.cons (b58 hx24) .nil))) ?_
        refine x_bn ?_
        refine x_tn ?_
        refine x_rgt (rgn [hE, hE] (⟨[(4, .optr 0 0 0), (12, pL (some 1) enc_api_Entry l), (13, pI (List.length l : Int)), (14, pI (IntKind.wrap .i64 (v12 + 1)))], [(0, some (.b 76 5 x24))], 1⟩)) ?_
        refine x_tn ?_
        exact ⟨_, (Option.some.inj h).symm, by kernel_rfl⟩
    ·replace h := ite_f h hc15
     refine kw0 (⟨[(4, .optr 0 0 0)], [(0, some (.b 76 5 v13))], 1⟩) ?_
     refine x_exit ?_
     refine x_te ?_
     refine x_te ?_
     replace h := done_leaf h hx14
     refine x_bh ?_
     refine x_tn ?_
     refine x_rg (rg0 (obs := [(BuilderOK Tryd.prog 59 76 5 v13 [] (.str v13) v13)]) [hN (.bcall (.str v13) v13), hE, hE] (⟨[(2, pS v13), (3, pI 0)], [], 0⟩) (.cons (b59 _) .nil)) ?_
     refine x_toret ?_
     obtain rfl := Option.some.inj h
     exact ret0 (.tup [.str v13, .int .i64 0]) (.tup (.cons (.refl _) (.cons (.refl _) .nil))) (fun _ => rfl)

theorem c9 {l : (List api_Entry)} {a : api_Addr} {r : Bool} (h : law27_DialReturns l a = some r) : CallOK Tryd.prog 9 [.sl (some 1) (List.map enc_api_Entry l), enc_api_Addr a] (.bool r) true := by
  apply ok9
  unfold law27_DialReturns at h
  refine x_rg (rgn [hE, hE] (⟨[(0, pL (some 1) enc_api_Entry l), (3, .optr 0 0 0)], [(0, some (.p (some 3) [enc_api_Addr a]))], 1⟩)) ?_
  refine x_seq ?_
  obtain ⟨x1, hx1, h⟩ := bind_some h
  obtain ⟨t4, ht, h⟩ := bind_some h
  refine x_rg (st2 := ⟨[(0, pL (some 1) enc_api_Entry l), (3, .optr 0 0 0), (23, pB t4)], [(0, some (.p (some 3) [enc_api_Addr a]))], 1⟩) ?_ ?_
  ·rcases Bool.eq_false_or_eq_true (!x1) with hg2 | hg2
   ·replace ht := ite_t ht hg2
    have e := Option.some.inj ht
    subst e
    exact rg0 [hE, hN (.cal [] (.bool x1) true), hE, hE, hS, hS, hS, hN (.pk true)] (⟨[(0, pL (some 1) enc_api_Entry l), (3, .optr 0 0 0), (23, pB true)], [(0, some (.p (some 3) [enc_api_Addr a]))], 1⟩) (.cons (c19 hx1) (.cons hg2 (.cons hg2 (.cons hg2 (.cons hg2 .nil)))))
   ·replace ht := ite_f ht hg2
    obtain ⟨x3, hx3, ht⟩ := bind_some ht
    have e := Option.some.inj ht
    subst e
    exact rg0 [hE, hN (.cal [] (.bool x1) true), hE, hE, hY, (.y, (.cal [] (.bool x3) true)), hY, hN (.pk false)] (⟨[(0, pL (some 1) enc_api_Entry l), (3, .optr 0 0 0), (23, pB (!x3))], [(0, some (.p (some 3) [enc_api_Addr a]))], 1⟩) (.cons (c19 hx1) (.cons hg2 (.cons hg2 (.cons (c10 hx3) (.cons hg2 (.cons hg2 .nil))))))
  ·clear ht
   refine x_cond _ rfl (fun hc5 => ?_) (fun hc5 => ?_)
   ·replace h := ite_t h hc5
    obtain ⟨x6, hx6, h⟩ := bind_some h
    refine x_rg (rg0 [hN (.cal [] (.bool x6) true), hE] (⟨[(4, pB x6)], [], 0⟩) (.cons (c11 hx6) .nil)) ?_
    refine x_toret ?_
    refine x_tr ?_
    obtain rfl := Option.some.inj h
    exact ret0 (.bool x6) (.refl _) (fun _ => rfl)
   ·replace h := ite_f h hc5
    refine kw0 (⟨[(0, pL (some 1) enc_api_Entry l), (3, .optr 0 0 0)], [(0, some (.p (some 3) [enc_api_Addr a]))], 1⟩) ?_
    refine x_skip ?_
    refine x_tn ?_
    refine x_join (τ := Unit) (fun t => law27_DialReturns_K7 l = some r) (fun t => { tm := [(0, .pv (.sl (some 1) (List.map enc_api_Entry l)))], hp := [], nx := 0 }) ?_ ?_
    ·rintro ⟨⟩ h
     replace h : law27_DialReturns_K7 l = some r := h
     unfold law27_DialReturns_K7 at h
     refine x_seq ?_
     refine x_rg (rg0 [hE, hN (.len (List.length l : Int)), hE] (⟨[(0, pL (some 1) enc_api_Entry l), (50, pB (decide (256 < (List.length l : Int))))], [], 0⟩) (.cons (lenM enc_api_Entry l) .nil)) ?_
     refine x_cond _ rfl (fun hc8 => ?_) (fun hc8 => ?_)
     ·replace h := ite_t h hc8
      obtain ⟨x9, hx9, h⟩ := bind_some h
      refine x_rg (rg0 [hN (.cal [] (.bool x9) true), hE] (⟨[(4, pB x9)], [], 0⟩) (.cons (c11 hx9) .nil)) ?_
      refine x_toret ?_
      refine x_tr ?_
      obtain rfl := Option.some.inj h
      exact ret0 (.bool x9) (.refl _) (fun _ => rfl)
     ·replace h := ite_f h hc8
      refine kw0 (⟨[(0, pL (some 1) enc_api_Entry l)], [], 0⟩) ?_
      refine x_skip ?_
      refine x_tn ?_
      refine x_seq ?_
      refine x_rg (rg0 [hE, hN (.len (List.length l : Int)), hE] (⟨[(0, pL (some 1) enc_api_Entry l), (53, pI (List.length l : Int)), (54, pI 0)], [], 0⟩) (.cons (lenM enc_api_Entry l) .nil)) ?_
      refine x_block ?_
      refine kw0 (⟨[(0, pL (some 1) enc_api_Entry l), (53, pI (List.length l : Int)), (54, pI 0)], [], 0⟩) ?_
      refine x_loop (σ := Int) h (fun s => ⟨[(0, pL (some 1) enc_api_Entry l), (53, pI (List.length l : Int)), (54, pI s)], [], 0⟩) (by kernel_rfl) ?_ ?_
      ·rintro v31
       kernel_rfl
      ·rintro v31 x32 h hx32
       replace h : law27_DialReturns_L32 l v31 = some x32 := h
       unfold law27_DialReturns_L32 at h
       refine x_rg (rgn [hE] (⟨[(0, pL (some 1) enc_api_Entry l), (53, pI (List.length l : Int)), (54, pI v31), (55, pB (decide (v31 < (List.length l : Int))))], [], 0⟩)) ?_
       refine x_seq ?_
       refine x_cond _ rfl (fun hc33 => ?_) (fun hc33 => ?_)
       ·replace h := ite_t h hc33
        refine kw0 (⟨[(0, pL (some 1) enc_api_Entry l), (53, pI (List.length l : Int)), (54, pI v31)], [], 0⟩) ?_
        refine x_skip ?_
        refine x_tn ?_
        refine x_seq ?_
        refine x_block ?_
        refine x_rg (rgn [hE, hE] (⟨[(0, pL (some 1) enc_api_Entry l), (9, pI v31), (53, pI (List.length l : Int)), (54, pI v31)], [], 0⟩)) ?_
        refine x_seq ?_
        obtain ⟨x34, hx34, h⟩ := bind_some h
        obtain ⟨t38, ht, h⟩ := bind_some h
        refine x_rg (st2 := ⟨[(0, pL (some 1) enc_api_Entry l), (9, pI v31), (53, pI (List.length l : Int)), (54, pI v31), (72, pB t38)], [], 0⟩) ?_ ?_
        ·rcases Bool.eq_false_or_eq_true (decide ((List.length x34.Attrs : Int) = 0)) with hg35 | hg35
         ·replace ht := ite_t ht hg35
          have e := Option.some.inj ht
          subst e
          exact rg0 [hE, hE, hN (.pAt (enc_api_Entry x34)), hE, hE, hN (.len (List.length x34.Attrs : Int)), hE, hE, hS, hS, hS, hS, hS, hS, hS, hN (.pk true)] (⟨[(0, pL (some 1) enc_api_Entry l), (9, pI v31), (53, pI (List.length l : Int)), (54, pI v31), (72, pB true)], [], 0⟩) (.cons (lsAt_map (f := enc_api_Entry) hx34) (.cons (lenM enc_api_Attr x34.Attrs) (.cons hg35 (.cons hg35 (.cons hg35 (.cons hg35 (.cons hg35 (.cons hg35 (.cons hg35 (.cons hg35 .nil))))))))))
         ·replace ht := ite_f ht hg35
          obtain ⟨x36, hx36, ht⟩ := bind_some ht
          obtain ⟨x37, hx37, ht⟩ := bind_some ht
          have e := Option.some.inj ht
          subst e
          exact rg0 [hE, hE, hN (.pAt (enc_api_Entry x34)), hE, hE, hN (.len (List.length x34.Attrs : Int)), hE, hE, hY, hY, (.y, (.pAt (enc_api_Entry x36))), hY, hY, (.y, (.cal [] (.int .i64 x37) true)), hY, hN (.pk false)] (⟨[(0, pL (some 1) enc_api_Entry l), (9, pI v31), (53, pI (List.length l : Int)), (54, pI v31), (72, pB (!decide (x37 = 0)))], [], 0⟩) (.cons (lsAt_map (f := enc_api_Entry) hx34) (.cons (lenM enc_api_Attr x34.Attrs) (.cons hg35 (.cons hg35 (.cons hg35 (.cons (lsAt_map (f := enc_api_Entry) hx36) (.cons hg35 (.cons hg35 (.cons hg35 (.cons (c30 hx37) (.cons hg35 (.cons hg35 .nil))))))))))))
        ·clear ht
         refine x_cond _ rfl (fun hc39 => ?_) (fun hc39 => ?_)
         ·replace h := ite_t h hc39
          obtain ⟨x40, hx40, h⟩ := bind_some h
          refine x_rg (rg0 [hN (.cal [] (.bool x40) true), hE] (⟨[(4, pB x40)], [], 0⟩) (.cons (c11 hx40) .nil)) ?_
          refine x_toret ?_
          refine x_tr ?_
          refine x_br ?_
          refine x_tr ?_
          refine x_tr ?_
          replace h := done_leaf h hx32
          refine x_br ?_
          refine x_tr ?_
          obtain rfl := Option.some.inj h
          exact ret0 (.bool x40) (.refl _) (fun _ => rfl)
         ·replace h := ite_f h hc39
          refine kw0 (⟨[(0, pL (some 1) enc_api_Entry l), (9, pI v31), (53, pI (List.length l : Int)), (54, pI v31)], [], 0⟩) ?_
          refine x_skip ?_
          refine x_tn ?_
          obtain ⟨x41, hx41, h⟩ := bind_some h
          refine x_rg (rg0 [hE, hE, hN (.pAt (enc_api_Entry x41)), hE, hE, hN (.len (List.length x41.Attrs : Int)), hE] (⟨[(0, pL (some 1) enc_api_Entry l), (9, pI v31), (53, pI (List.length l : Int)), (54, pI v31), (79, pI (List.length x41.Attrs : Int)), (80, pI 0)], [], 0⟩) (.cons (lsAt_map (f := enc_api_Entry) hx41) (.cons (lenM enc_api_Attr x41.Attrs) .nil))) ?_
          refine x_block ?_
          refine kw0 (⟨[(0, pL (some 1) enc_api_Entry l), (9, pI v31), (53, pI (List.length l : Int)), (54, pI v31), (79, pI (List.length x41.Attrs : Int)), (80, pI 0)], [], 0⟩) ?_
          refine x_loop (σ := Int) h (fun s => ⟨[(0, pL (some 1) enc_api_Entry l), (9, pI v31), (53, pI (List.length l : Int)), (54, pI v31), (79, pI (List.length x41.Attrs : Int)), (80, pI s)], [], 0⟩) (by kernel_rfl) ?_ ?_
          ·rintro v47
           kernel_rfl
          ·rintro v47 x48 h hx48
           replace h : law27_DialReturns_L48 l v31 x41 v47 = some x48 := h
           unfold law27_DialReturns_L48 at h
           refine x_rg (rgn [hE] (⟨[(0, pL (some 1) enc_api_Entry l), (9, pI v31), (53, pI (List.length l : Int)), (54, pI v31), (79, pI (List.length x41.Attrs : Int)), (80, pI v47), (81, pB (decide (v47 < (List.length x41.Attrs : Int))))], [], 0⟩)) ?_
           refine x_seq ?_
           refine x_cond _ rfl (fun hc49 => ?_) (fun hc49 => ?_)
           ·replace h := ite_t h hc49
            refine kw0 (⟨[(0, pL (some 1) enc_api_Entry l), (9, pI v31), (53, pI (List.length l : Int)), (54, pI v31), (79, pI (List.length x41.Attrs : Int)), (80, pI v47)], [], 0⟩) ?_
            refine x_skip ?_
            refine x_tn ?_
            refine x_seq ?_
            refine x_block ?_
            refine x_rg (rgn [hE, hE] (⟨[(0, pL (some 1) enc_api_Entry l), (9, pI v31), (10, pI v47), (53, pI (List.length l : Int)), (54, pI v31), (79, pI (List.length x41.Attrs : Int)), (80, pI v47)], [], 0⟩)) ?_
            obtain ⟨x50, hx50, h⟩ := bind_some h
            obtain ⟨x51, hx51, h⟩ := bind_some h
            refine x_rg (rg0 [hE, hE, hN (.pAt (enc_api_Entry x50)), hE, hE, hE, hN (.pAt (enc_api_Attr x51)), hE, hE] (⟨[(0, pL (some 1) enc_api_Entry l), (9, pI v31), (53, pI (List.length l : Int)), (54, pI v31), (79, pI (List.length x41.Attrs : Int)), (80, pI v47), (91, pB x51.Query)], [], 0⟩) (.cons (lsAt_map (f := enc_api_Entry) hx50) (.cons (lsAt_map (f := enc_api_Attr) hx51) .nil))) ?_
            refine x_cond _ rfl (fun hc52 => ?_) (fun hc52 => ?_)
            ·replace h := ite_t h hc52
             obtain ⟨x53, hx53, h⟩ := bind_some h
             refine x_rg (rg0 [hN (.cal [] (.bool x53) true), hE] (⟨[(4, pB x53)], [], 0⟩) (.cons (c11 hx53) .nil)) ?_
             refine x_toret ?_
             refine x_br ?_
             refine x_tr ?_
             refine x_tr ?_
             replace h := done_leaf h hx48
             refine x_br ?_
             refine x_br ?_
             refine x_tr ?_
             refine x_tr ?_
             replace h := done_leaf h hx32
             refine x_br ?_
             refine x_tr ?_
             obtain rfl := Option.some.inj h
             exact ret0 (.bool x53) (.refl _) (fun _ => rfl)
            ·replace h := ite_f h hc52
             refine kw0 (⟨[(0, pL (some 1) enc_api_Entry l), (9, pI v31), (53, pI (List.length l : Int)), (54, pI v31), (79, pI (List.length x41.Attrs : Int)), (80, pI v47)], [], 0⟩) ?_
             refine x_skip ?_
             refine x_bn ?_
             refine x_tn ?_
             refine x_rgt (rgn [hE, hE] (⟨[(0, pL (some 1) enc_api_Entry l), (9, pI v31), (53, pI (List.length l : Int)), (54, pI v31), (79, pI (List.length x41.Attrs : Int)), (80, pI (IntKind.wrap .i64 (v47 + 1)))], [], 0⟩)) ?_
             refine x_tn ?_
             exact ⟨_, (Option.some.inj h).symm, by kernel_rfl⟩
           ·replace h := ite_f h hc49
            refine kw0 (⟨[(0, pL (some 1) enc_api_Entry l), (53, pI (List.length l : Int)), (54, pI v31)], [], 0⟩) ?_
            refine x_exit ?_
            refine x_te ?_
            refine x_te ?_
            replace h := done_leaf h hx48
            refine x_bh ?_
            refine x_bn ?_
            refine x_tn ?_
            refine x_rgt (rgn [hE, hE] (⟨[(0, pL (some 1) enc_api_Entry l), (53, pI (List.length l : Int)), (54, pI (IntKind.wrap .i64 (v31 + 1)))], [], 0⟩)) ?_
            refine x_tn ?_
            exact ⟨_, (Option.some.inj h).symm, by kernel_rfl⟩
       ·replace h := ite_f h hc33
        refine kw0 (⟨[(0, pL (some 1) enc_api_Entry l)], [], 0⟩) ?_
        refine x_exit ?_
        refine x_te ?_
        refine x_te ?_
        replace h := done_map h hx32
        unfold law27_DialReturns_A63 at h
        refine x_bh ?_
        refine x_tn ?_
        obtain ⟨x54, hx54, h⟩ := bind_some h
        refine x_rg (rg0 [hE, hN (.cal [] (.tup [.str x54.1, .int .i64 x54.2]) true), hE, hE, hE, hE, hE] (⟨[(0, pL (some 1) enc_api_Entry l), (11, pS x54.1), (12, pI x54.2)], [], 0⟩) (.cons (c28 hx54) .nil)) ?_
        obtain ⟨x55, hx55, h⟩ := bind_some h
        refine x_rg (rg0 [hE, hN (.cal [] (.tup [.usl (some 1) (List.map enc_api_Entry x55.1), .int .i64 x55.2.1, .int .i64 x55.2.2]) false), hE, hE, hE, hE, hE, hE, hE] (⟨[(0, pL (some 1) enc_api_Entry l), (12, pI x54.2), (13, oL 0 enc_api_Entry x55.1), (14, pI x55.2.1), (15, pI x55.2.2)], [(0, rL (some 1) enc_api_Entry x55.1)], 1⟩) (.cons (c16 hx55) .nil)) ?_
        obtain ⟨t62, ht, h⟩ := bind_some h
        refine x_rg (st2 := ⟨[(4, pB t62)], [], 0⟩) ?_ ?_
        ·rcases Bool.eq_false_or_eq_true (decide (x54.2 = 0)) with hg56 | hg56
         ·replace ht := ite_t ht hg56
          rcases Bool.eq_false_or_eq_true (decide (x55.2.2 = 0)) with hg57 | hg57
          ·replace ht := ite_t ht hg57
           rcases Bool.eq_false_or_eq_true (decide (x55.2.1 = 0)) with hg58 | hg58
           ·replace ht := ite_t ht hg58
            obtain ⟨x59, hx59, ht⟩ := bind_some ht
            rcases Bool.eq_false_or_eq_true x59 with hg60 | hg60
            ·replace ht := ite_t ht hg60
             obtain ⟨x61, hx61, ht⟩ := bind_some ht
             have e := Option.some.inj ht
             subst e
             exact rg0 (obs := [((decide (x54.2 = 0)) = true), ((decide (x54.2 = 0)) = true), ((decide (x54.2 = 0)) = true), ((decide (x55.2.2 = 0)) = true), ((decide (x55.2.2 = 0)) = true), ((decide (x55.2.2 = 0)) = true), ((decide (x55.2.1 = 0)) = true), ((decide (x55.2.1 = 0)) = true), ((decide (x55.2.1 = 0)) = true), (LesA [.sl (some 1) (List.map enc_api_Entry l), .sl (some 1) (List.take (List.map enc_api_Entry x55.1).length (List.drop 0 (List.map enc_api_Entry x55.1)))] [.sl (some 1) (List.map enc_api_Entry l), .sl (some 1) (List.map enc_api_Entry x55.1)]), (CallOK Tryd.prog 18 [.sl (some 1) (List.map enc_api_Entry l), .sl (some 1) (List.map enc_api_Entry x55.1)] (.bool x59) true), (0 + (List.map enc_api_Entry x55.1).length ≤ List.length (List.map enc_api_Entry x55.1)), ((decide (x55.2.1 = 0)) = true), (x59 = true), (CallOK Tryd.prog 11 [] (.bool x61) true), (x59 = true)]) [hE, hE, hE, hY, hY, hN (.pk true), hE, hY, hY, hN (.pk true), hE, hY, hY, (.y, (.call [] [.sl (some 1) (List.map enc_api_Entry l), .sl (some 1) (List.map enc_api_Entry x55.1)] (.bool x59) true)), hN (.pk true), hE, (.y, (.cal [] (.bool x61) true)), hN (.pk true), hE] (⟨[(4, pB x61)], [], 0⟩) (.cons hg56 (.cons hg56 (.cons hg56 (.cons hg57 (.cons hg57 (.cons hg57 (.cons hg58 (.cons hg58 (.cons hg58 (.cons (.cons (.refl _) (.cons (.of_eq (by rw [List.drop_zero, List.take_length])) .nil)) (.cons (c18 hx59) (.cons (by simp) (.cons hg58 (.cons hg60 (.cons (c11 hx61) (.cons hg60 .nil))))))))))))))))
            ·replace ht := ite_f ht hg60
             have e := Option.some.inj ht
             subst e
             exact rg0 (obs := [((decide (x54.2 = 0)) = true), ((decide (x54.2 = 0)) = true), ((decide (x54.2 = 0)) = true), ((decide (x55.2.2 = 0)) = true), ((decide (x55.2.2 = 0)) = true), ((decide (x55.2.2 = 0)) = true), ((decide (x55.2.1 = 0)) = true), ((decide (x55.2.1 = 0)) = true), ((decide (x55.2.1 = 0)) = true), (LesA [.sl (some 1) (List.map enc_api_Entry l), .sl (some 1) (List.take (List.map enc_api_Entry x55.1).length (List.drop 0 (List.map enc_api_Entry x55.1)))] [.sl (some 1) (List.map enc_api_Entry l), .sl (some 1) (List.map enc_api_Entry x55.1)]), (CallOK Tryd.prog 18 [.sl (some 1) (List.map enc_api_Entry l), .sl (some 1) (List.map enc_api_Entry x55.1)] (.bool x59) true), (0 + (List.map enc_api_Entry x55.1).length ≤ List.length (List.map enc_api_Entry x55.1)), ((decide (x55.2.1 = 0)) = true), (x59 = false), (x59 = false)]) [hE, hE, hE, hY, hY, hN (.pk true), hE, hY, hY, hN (.pk true), hE, hY, hY, (.y, (.call [] [.sl (some 1) (List.map enc_api_Entry l), .sl (some 1) (List.map enc_api_Entry x55.1)] (.bool x59) true)), hN (.pk true), hE, hS, hN (.pk false), hE] (⟨[(4, pB false)], [], 0⟩) (.cons hg56 (.cons hg56 (.cons hg56 (.cons hg57 (.cons hg57 (.cons hg57 (.cons hg58 (.cons hg58 (.cons hg58 (.cons (.cons (.refl _) (.cons (.of_eq (by rw [List.drop_zero, List.take_length])) .nil)) (.cons (c18 hx59) (.cons (by simp) (.cons hg58 (.cons hg60 (.cons hg60 .nil)))))))))))))))
           ·replace ht := ite_f ht hg58
            have e := Option.some.inj ht
            subst e
            exact rg0 (obs := [((decide (x54.2 = 0)) = true), ((decide (x54.2 = 0)) = true), ((decide (x54.2 = 0)) = true), ((decide (x55.2.2 = 0)) = true), ((decide (x55.2.2 = 0)) = true), ((decide (x55.2.2 = 0)) = true), ((decide (x55.2.1 = 0)) = false), ((decide (x55.2.1 = 0)) = false), ((decide (x55.2.1 = 0)) = false), ((decide (x55.2.1 = 0)) = false), (false = false)]) [hE, hE, hE, hY, hY, hN (.pk true), hE, hY, hY, hN (.pk true), hE, hS, hS, hS, hN (.pk false), hE, hS, hE, hE] (⟨[(4, pB false)], [], 0⟩) (.cons hg56 (.cons hg56 (.cons hg56 (.cons hg57 (.cons hg57 (.cons hg57 (.cons hg58 (.cons hg58 (.cons hg58 (.cons hg58 (.cons rfl .nil)))))))))))
          ·replace ht := ite_f ht hg57
           have e := Option.some.inj ht
           subst e
           exact rg0 (obs := [((decide (x54.2 = 0)) = true), ((decide (x54.2 = 0)) = true), ((decide (x54.2 = 0)) = true), ((decide (x55.2.2 = 0)) = false), ((decide (x55.2.2 = 0)) = false), ((decide (x55.2.2 = 0)) = false), (false = false), (false = false), (false = false), (false = false)]) [hE, hE, hE, hY, hY, hN (.pk true), hE, hS, hS, hN (.pk false), hE, hS, hS, hS, hE, hE, hS, hE, hE] (⟨[(4, pB false)], [], 0⟩) (.cons hg56 (.cons hg56 (.cons hg56 (.cons hg57 (.cons hg57 (.cons hg57 (.cons rfl (.cons rfl (.cons rfl (.cons rfl .nil))))))))))
         ·replace ht := ite_f ht hg56
          have e := Option.some.inj ht
          subst e
          exact rg0 (obs := [((decide (x54.2 = 0)) = false), ((decide (x54.2 = 0)) = false), ((decide (x54.2 = 0)) = false), (false = false), (false = false), (false = false), (false = false), (false = false), (false = false)]) [hE, hE, hE, hS, hS, hN (.pk false), hE, hS, hS, hE, hE, hS, hS, hS, hE, hE, hS, hE, hE] (⟨[(4, pB false)], [], 0⟩) (.cons hg56 (.cons hg56 (.cons hg56 (.cons rfl (.cons rfl (.cons rfl (.cons rfl (.cons rfl (.cons rfl .nil)))))))))
        ·clear ht
         refine x_toret ?_
         obtain rfl := Option.some.inj h
         exact ret0 (.bool t62) (.refl _) (fun _ => rfl)
    ·obtain ⟨x64, hx64, h⟩ := bind_some h
     refine x_rg (rg0 [hE, hN (.cal [] (.bool x64) true)] (⟨[(0, pL (some 1) enc_api_Entry l), (3, .optr 0 0 0), (26, pB x64)], [(0, some (.p (some 3) [enc_api_Addr a]))], 1⟩) (.cons (c25 hx64) .nil)) ?_
     refine x_cond _ rfl (fun hc65 => ?_) (fun hc65 => ?_)
     ·replace h := ite_t h hc65
      obtain ⟨x66, hx66, h⟩ := bind_some h
      refine x_rg (rg0 [hE, hN (.cal [] (.tup [.str x66.1, .int .i64 x66.2]) true), hE, hE, hE, hE, hE] (⟨[(0, pL (some 1) enc_api_Entry l), (3, .optr 0 0 0), (5, pS x66.1), (6, pI x66.2)], [(0, some (.p (some 3) [enc_api_Addr a]))], 1⟩) (.cons (c14 hx66) .nil)) ?_
      obtain ⟨x67, hx67, h⟩ := bind_some h
      refine x_rg (rg0 [hE, hN (.cal [] (.tup [enc_api_Addr x67.1, .int .i64 x67.2]) true), hE, hE, hE, hE, hE, hE] (⟨[(0, pL (some 1) enc_api_Entry l), (3, .optr 0 0 0), (6, pI x66.2), (7, .optr 1 0 0), (8, pI x67.2)], [(0, some (.p (some 3) [enc_api_Addr a])), (1, some (.p (some 3) [enc_api_Addr x67.1]))], 2⟩) (.cons (c12 hx67) .nil)) ?_
      refine x_rg (st2 := ⟨[(0, pL (some 1) enc_api_Entry l), (47, pB ((!decide (x66.2 = 0)) || ((!decide (x67.2 = 0)) || (!(decide (a.Net = x67.1.Net) && (decide (a.Host = x67.1.Host) && (decide (a.Service = x67.1.Service) && true)))))))], [], 0⟩) ?_ ?_
      ·rcases Bool.eq_false_or_eq_true (!decide (x66.2 = 0)) with hg68 | hg68
       ·exact rg [hE, hE, hE, hS, hS, hN (.pk true), hE, hS, hS, hS, hE] (⟨[(0, pL (some 1) enc_api_Entry l), (47, pB true)], [], 0⟩) (.cons hg68 (.cons hg68 (.cons hg68 (.cons tt (.cons tt (.cons tt .nil)))))) (.of_eq (by simp only [hg68, bs, reduceIte]))
       ·rcases Bool.eq_false_or_eq_true (!decide (x67.2 = 0)) with hg69 | hg69
        ·exact rg [hE, hE, hE, hY, hY, hN (.pk false), hE, hS, hS, hS, hN (.pk true)] (⟨[(0, pL (some 1) enc_api_Entry l), (47, pB true)], [], 0⟩) (.cons hg68 (.cons hg68 (.cons hg68 (.cons hg69 (.cons hg69 (.cons hg69 (.cons hg69 .nil))))))) (.of_eq (by simp only [hg68, hg69, bs, reduceIte]))
        ·exact rg [hE, hE, hE, hY, hY, hN (.pk false), hE, hY, hY, hY, hN (.pk false)] (⟨[(0, pL (some 1) enc_api_Entry l), (47, pB (!(decide (a.Net = x67.1.Net) && (decide (a.Host = x67.1.Host) && (decide (a.Service = x67.1.Service) && true)))))], [], 0⟩) (.cons hg68 (.cons hg68 (.cons hg68 (.cons hg69 (.cons hg69 (.cons hg69 (.cons hg69 .nil))))))) (.of_eq (by simp only [hg68, hg69, bs, reduceIte]))
      ·refine x_cond _ rfl (fun hc71 => ?_) (fun hc71 => ?_)
       ·replace h := ite_t h hc71
        refine x_rg (rgn [hE] (⟨[(4, pB false)], [], 0⟩)) ?_
        refine x_toret ?_
        refine x_tr ?_
        obtain rfl := Option.some.inj h
        exact ret0 (.bool false) (.refl _) (fun _ => rfl)
       ·replace h := ite_f h hc71
        refine kw0 (⟨[(0, pL (some 1) enc_api_Entry l)], [], 0⟩) ?_
        refine x_skip ?_
        refine x_tn ?_
        exact ⟨(), h, by kernel_rfl⟩
     ·replace h := ite_f h hc65
      refine kw0 (⟨[(0, pL (some 1) enc_api_Entry l)], [], 0⟩) ?_
      refine x_skip ?_
      refine x_tn ?_
      exact ⟨(), h, by kernel_rfl⟩

end Go.Proofs.YtphblddgbbgdnaaDoor
