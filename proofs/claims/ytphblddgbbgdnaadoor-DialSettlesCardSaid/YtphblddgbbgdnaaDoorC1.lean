/- The functions of the program compute what their plain forms compute; printed by a program of the claim's author. -/
import Derived.Test.YtphblddgbbgdnaaDoorC
import Derived.Test.YtphblddgbbgdnaaDoorS
import Derived.Test.YtphblddgbbgdnaaDoorShelf
import Derived.Test.YtphblddgbbgdnaaDoorVmB
import Derived.Test.YtphblddgbbgdnaaDoorB
namespace Go.Proofs.YtphblddgbbgdnaaDoor
open Go.Vm
set_option autoImplicit false
set_option linter.unusedVariables false
set_option linter.unusedSimpArgs false
set_option maxRecDepth 100000

theorem c12 {s_ : Str} {r : (api_Addr × Int)} (h : dial_Parse s_ = some r) : CallOK Tryd.prog 12 [.str s_] (.tup [enc_api_Addr r.1, .int .i64 r.2]) true := by
  apply ok12
  unfold dial_Parse at h
  refine x_rg (rgn [hE, hE] (⟨[(0, pS s_), (2, .optr 0 0 0)], [(0, some (.p (some 3) [.agg [.str [], .str [], .str []]]))], 1⟩)) ?_
  obtain ⟨x1, hx1, h⟩ := bind_some h
  refine x_rg (rg0 [hE, hN (.cal [] (.usl none (List.map PV.str x1)) true), hE] (⟨[(2, .optr 0 0 0), (4, oL 1 PV.str x1)], [(0, some (.p (some 3) [.agg [.str [], .str [], .str []]])), (1, rL none PV.str x1)], 2⟩) (.cons (c31 hx1) .nil)) ?_
  refine x_seq ?_
  refine x_rg (st2 := ⟨[(2, .optr 0 0 0), (4, oL 1 PV.str x1), (15, pB ((decide ((List.length x1 : Int) < 2)) || (decide (3 < (List.length x1 : Int)))))], [(0, some (.p (some 3) [.agg [.str [], .str [], .str []]])), (1, rL none PV.str x1)], 2⟩) ?_ ?_
  ·rcases Bool.eq_false_or_eq_true (decide ((List.length x1 : Int) < 2)) with hg2 | hg2
   ·exact rg (obs := [((((List.map PV.str x1).length : Nat) : Int) = (List.length x1 : Int)), ((decide ((List.length x1 : Int) < 2)) = true), ((decide ((List.length x1 : Int) < 2)) = true), ((decide ((List.length x1 : Int) < 2)) = true), ((decide ((List.length x1 : Int) < 2)) = true)]) [hE, hN (.len (List.length x1 : Int)), hE, hE, hS, hS, hS, hN (.pk true)] (⟨[(2, .optr 0 0 0), (4, oL 1 PV.str x1), (15, pB true)], [(0, some (.p (some 3) [.agg [.str [], .str [], .str []]])), (1, rL none PV.str x1)], 2⟩) (.cons (by rw [List.length_map]) (.cons hg2 (.cons hg2 (.cons hg2 (.cons hg2 .nil))))) (.of_eq (by simp only [hg2, bs, reduceIte]))
   ·exact rg (obs := [((((List.map PV.str x1).length : Nat) : Int) = (List.length x1 : Int)), ((decide ((List.length x1 : Int) < 2)) = false), ((decide ((List.length x1 : Int) < 2)) = false), ((((List.map PV.str x1).length : Nat) : Int) = (List.length x1 : Int)), ((decide ((List.length x1 : Int) < 2)) = false), ((decide ((List.length x1 : Int) < 2)) = false)]) [hE, hN (.len (List.length x1 : Int)), hE, hE, hY, (.y, (.len (List.length x1 : Int))), hY, hN (.pk false)] (⟨[(2, .optr 0 0 0), (4, oL 1 PV.str x1), (15, pB (decide (3 < (List.length x1 : Int))))], [(0, some (.p (some 3) [.agg [.str [], .str [], .str []]])), (1, rL none PV.str x1)], 2⟩) (.cons (by rw [List.length_map]) (.cons hg2 (.cons hg2 (.cons (by rw [List.length_map]) (.cons hg2 (.cons hg2 .nil)))))) (.of_eq (by simp only [hg2, bs, reduceIte]))
  ·refine x_cond _ rfl (fun hc4 => ?_) (fun hc4 => ?_)
   ·replace h := ite_t h hc4
    refine x_rg (rgn [hE, hE, hE] (⟨[(2, .optr 0 0 0), (3, pI 36)], [(0, some (.p (some 3) [.agg [.str [], .str [], .str []]]))], 1⟩)) ?_
    refine x_toret ?_
    refine x_tr ?_
    obtain rfl := Option.some.inj h
    exact ret0 (.tup [.agg [.str [], .str [], .str []], .int .i64 36]) (.tup (.cons (.refl _) (.cons (.refl _) .nil))) (fun _ => rfl)
   ·replace h := ite_f h hc4
    refine kw0 (⟨[(2, .optr 0 0 0), (4, oL 1 PV.str x1)], [(0, some (.p (some 3) [.agg [.str [], .str [], .str []]])), (1, rL none PV.str x1)], 2⟩) ?_
    refine x_skip ?_
    refine x_tn ?_
    obtain ⟨x5, hx5, h⟩ := bind_some h
    obtain ⟨x6, hx6, h⟩ := bind_some h
    refine x_rg (rg0 (obs := [(0 ≤ (0 : Int) ∧ Int.toNat 0 < (List.map PV.str x1).length), ((List.map PV.str x1)[(0 + Int.toNat 0)]? = some (.str x5)), (0 ≤ (1 : Int) ∧ Int.toNat 1 < (List.map PV.str x1).length), ((List.map PV.str x1)[(0 + Int.toNat 1)]? = some (.str x6))]) [hE, hN .rAt, hN (.ld (.str x5)), hE, hN .rAt, hN (.ld (.str x6)), hE, hE, hE] (⟨[(2, .optr 0 0 0), (4, oL 1 PV.str x1), (5, .optr 2 0 0)], [(0, some (.p (some 3) [.agg [.str [], .str [], .str []]])), (1, rL none PV.str x1), (2, some (.p (some 3) [.agg [.str x5, .str x6, .str []]]))], 3⟩) (.cons (rAt_ob hx5 (by simp)) (.cons (ownAt hx5) (.cons (rAt_ob hx6 (by simp)) (.cons (ownAt hx6) .nil))))) ?_
    refine x_join (τ := Str) (fun t => dial_Parse_K7 x1 x5 x6 t = some r) (fun t => { tm := [(2, .optr 0 0 0), (4, .osl 1 0 (List.map PV.str x1).length), (5, .optr 2 0 0)], hp := [(0, some (.p (some 3) [.agg [.str [], .str [], .str []]])), (1, some (.p none (List.map PV.str x1))), (2, some (.p (some 3) [.agg [.str x5, .str x6, .str t]]))], nx := 3 }) ?_ ?_
    ·rintro p8 h
     replace h : dial_Parse_K7 x1 x5 x6 p8 = some r := h
     unfold dial_Parse_K7 at h
     refine x_seq ?_
     obtain ⟨x9, hx9, h⟩ := bind_some h
     refine x_rg (st2 := ⟨[(2, .optr 0 0 0), (5, .optr 1 0 0), (43, pB ((!x9) || ((decide ((List.length x1 : Int) = 3)) && (decide (p8 = [])))))], [(0, some (.p (some 3) [.agg [.str [], .str [], .str []]])), (1, some (.p (some 3) [.agg [.str x5, .str x6, .str p8]]))], 2⟩) ?_ ?_
     ·rcases Bool.eq_false_or_eq_true (!x9) with hg10 | hg10
      ·exact rg [hE, hN (.cal [] (.bool x9) true), hE, hE, hS, hS, hS, hS, (.u, .e), (.u, .e), (.u, .e), hS, hN (.pk true)] (⟨[(2, .optr 0 0 0), (5, .optr 1 0 0), (43, pB true)], [(0, some (.p (some 3) [.agg [.str [], .str [], .str []]])), (1, some (.p (some 3) [.agg [.str x5, .str x6, .str p8]]))], 2⟩) (.cons (c32 hx9) (.cons hg10 (.cons hg10 (.cons hg10 (.cons hg10 (.cons hg10 (.cons hg10 .nil))))))) (.of_eq (by simp only [hg10, bs, reduceIte]))
      ·rcases Bool.eq_false_or_eq_true (decide ((List.length x1 : Int) = 3)) with hg11 | hg11
       ·exact rg (obs := [(CallOK Tryd.prog 32 [.agg [.str x5, .str x6, .str p8]] (.bool x9) true), ((!x9) = false), ((!x9) = false), ((((List.map PV.str x1).length : Nat) : Int) = (List.length x1 : Int)), ((!x9) = false), ((!x9) = false), ((decide ((List.length x1 : Int) = 3)) = true), ((decide ((List.length x1 : Int) = 3)) = true), ((decide ((List.length x1 : Int) = 3)) = true), ((!x9) = false), ((decide ((List.length x1 : Int) = 3)) = true), ((!x9) = false)]) [hE, hN (.cal [] (.bool x9) true), hE, hE, hY, (.y, (.len (List.length x1 : Int))), hY, hY, hY, hY, hY, (.y, (.pk true)), hN (.pk false)] (⟨[(2, .optr 0 0 0), (5, .optr 1 0 0), (43, pB (decide (p8 = [])))], [(0, some (.p (some 3) [.agg [.str [], .str [], .str []]])), (1, some (.p (some 3) [.agg [.str x5, .str x6, .str p8]]))], 2⟩) (.cons (c32 hx9) (.cons hg10 (.cons hg10 (.cons (by rw [List.length_map]) (.cons hg10 (.cons hg10 (.cons hg11 (.cons hg11 (.cons hg11 (.cons hg10 (.cons hg11 (.cons hg10 .nil)))))))))))) (.of_eq (by simp only [hg10, hg11, bs, reduceIte]))
       ·exact rg (obs := [(CallOK Tryd.prog 32 [.agg [.str x5, .str x6, .str p8]] (.bool x9) true), ((!x9) = false), ((!x9) = false), ((((List.map PV.str x1).length : Nat) : Int) = (List.length x1 : Int)), ((!x9) = false), ((!x9) = false), ((decide ((List.length x1 : Int) = 3)) = false), ((decide ((List.length x1 : Int) = 3)) = false), ((decide ((List.length x1 : Int) = 3)) = false), ((!x9) = false), ((decide ((List.length x1 : Int) = 3)) = false), ((!x9) = false)]) [hE, hN (.cal [] (.bool x9) true), hE, hE, hY, (.y, (.len (List.length x1 : Int))), hY, hY, hS, hS, hS, (.y, (.pk false)), hN (.pk false)] (⟨[(2, .optr 0 0 0), (5, .optr 1 0 0), (43, pB false)], [(0, some (.p (some 3) [.agg [.str [], .str [], .str []]])), (1, some (.p (some 3) [.agg [.str x5, .str x6, .str p8]]))], 2⟩) (.cons (c32 hx9) (.cons hg10 (.cons hg10 (.cons (by rw [List.length_map]) (.cons hg10 (.cons hg10 (.cons hg11 (.cons hg11 (.cons hg11 (.cons hg10 (.cons hg11 (.cons hg10 .nil)))))))))))) (.of_eq (by simp only [hg10, hg11, bs, reduceIte]))
     ·refine x_cond _ rfl (fun hc13 => ?_) (fun hc13 => ?_)
      ·replace h := ite_t h hc13
       refine x_rg (rgn [hE, hE, hE] (⟨[(2, .optr 0 0 0), (3, pI 36)], [(0, some (.p (some 3) [.agg [.str [], .str [], .str []]]))], 1⟩)) ?_
       refine x_toret ?_
       refine x_tr ?_
       obtain rfl := Option.some.inj h
       exact ret0 (.tup [.agg [.str [], .str [], .str []], .int .i64 36]) (.tup (.cons (.refl _) (.cons (.refl _) .nil))) (fun _ => rfl)
      ·replace h := ite_f h hc13
       refine kw0 (⟨[(2, .optr 0 0 0), (5, .optr 1 0 0)], [(0, some (.p (some 3) [.agg [.str [], .str [], .str []]])), (1, some (.p (some 3) [.agg [.str x5, .str x6, .str p8]]))], 2⟩) ?_
       refine x_skip ?_
       refine x_tn ?_
       refine x_rg (rgn [hE, hE, hE] (⟨[(2, .optr 0 0 0), (3, pI 0)], [(0, some (.p (some 3) [.agg [.str x5, .str x6, .str p8]]))], 1⟩)) ?_
       refine x_toret ?_
       obtain rfl := Option.some.inj h
       exact ret0 (.tup [.agg [.str x5, .str x6, .str p8], .int .i64 0]) (.tup (.cons (.refl _) (.cons (.refl _) .nil))) (fun _ => rfl)
    ·refine x_rg (rg0 (obs := [((((List.map PV.str x1).length : Nat) : Int) = (List.length x1 : Int))]) [hE, hN (.len (List.length x1 : Int)), hE] (⟨[(2, .optr 0 0 0), (4, oL 1 PV.str x1), (5, .optr 2 0 0), (26, pB (decide ((List.length x1 : Int) = 3)))], [(0, some (.p (some 3) [.agg [.str [], .str [], .str []]])), (1, rL none PV.str x1), (2, some (.p (some 3) [.agg [.str x5, .str x6, .str []]]))], 3⟩) (.cons (by rw [List.length_map]) .nil)) ?_
     refine x_cond _ rfl (fun hc14 => ?_) (fun hc14 => ?_)
     ·replace h := ite_t h hc14
      obtain ⟨x15, hx15, h⟩ := bind_some h
      refine x_rgt (rg0 (obs := [(0 ≤ (2 : Int) ∧ Int.toNat 2 < (List.map PV.str x1).length), ((List.map PV.str x1)[(0 + Int.toNat 2)]? = some (.str x15))]) [hE, hN .rAt, hN (.ld (.str x15)), hE, hE] (⟨[(2, .optr 0 0 0), (4, oL 1 PV.str x1), (5, .optr 2 0 0)], [(0, some (.p (some 3) [.agg [.str [], .str [], .str []]])), (1, rL none PV.str x1), (2, some (.p (some 3) [.agg [.str x5, .str x6, .str x15]]))], 3⟩) (.cons (rAt_ob hx15 (by simp)) (.cons (ownAt hx15) .nil))) ?_
      refine x_tn ?_
      exact ⟨x15, h, by kernel_rfl⟩
     ·replace h := ite_f h hc14
      refine kw0 (⟨[(2, .optr 0 0 0), (4, oL 1 PV.str x1), (5, .optr 2 0 0)], [(0, some (.p (some 3) [.agg [.str [], .str [], .str []]])), (1, rL none PV.str x1), (2, some (.p (some 3) [.agg [.str x5, .str x6, .str []]]))], 3⟩) ?_
      refine x_skip ?_
      refine x_tn ?_
      exact ⟨[], h, by kernel_rfl⟩

theorem c11 {r : Bool} (h : law27_awake = some r) : CallOK Tryd.prog 11 [] (.bool r) true := by
  apply ok11
  unfold law27_awake at h
  refine x_rg (rgn [hE] (⟨[], [], 0⟩)) ?_
  obtain ⟨x1, hx1, h⟩ := bind_some h
  refine x_rg (rg0 [hN (.cal [] (.tup [.usl (some 1) (List.map enc_api_Entry x1.1), .int .i64 x1.2.1, .int .i64 x1.2.2]) false), hE, hE, hE, hE, hE, hE, hE] (⟨[(1, oL 0 enc_api_Entry x1.1), (2, pI x1.2.1), (3, pI x1.2.2)], [(0, rL (some 1) enc_api_Entry x1.1)], 1⟩) (.cons (c16 hx1) .nil)) ?_
  refine x_seq ?_
  obtain ⟨t6, ht, h⟩ := bind_some h
  refine x_rg (st2 := ⟨[(1, oL 0 enc_api_Entry x1.1), (31, pB t6)], [(0, rL (some 1) enc_api_Entry x1.1)], 1⟩) ?_ ?_
  ·rcases Bool.eq_false_or_eq_true (!decide (x1.2.2 = 0)) with hg2 | hg2
   ·replace ht := ite_t ht hg2
    have e := Option.some.inj ht
    subst e
    exact rg0 [hE, hE, hE, hS, hS, hN (.pk true), hE, hS, hS, hS, hE, hE, hS, hS, hS, hS, hS, hS, hE] (⟨[(1, oL 0 enc_api_Entry x1.1), (31, pB true)], [(0, rL (some 1) enc_api_Entry x1.1)], 1⟩) (.cons hg2 (.cons hg2 (.cons hg2 (.cons tt (.cons tt (.cons tt (.cons tt (.cons tt (.cons tt (.cons tt (.cons tt (.cons tt .nil))))))))))))
   ·replace ht := ite_f ht hg2
    rcases Bool.eq_false_or_eq_true (!decide (x1.2.1 = 0)) with hg3 | hg3
    ·replace ht := ite_t ht hg3
     have e := Option.some.inj ht
     subst e
     exact rg0 [hE, hE, hE, hY, hY, hN (.pk false), hE, hS, hS, hS, hN (.pk true), hE, hS, hS, hS, hS, hS, hS, hE] (⟨[(1, oL 0 enc_api_Entry x1.1), (31, pB true)], [(0, rL (some 1) enc_api_Entry x1.1)], 1⟩) (.cons hg2 (.cons hg2 (.cons hg2 (.cons hg3 (.cons hg3 (.cons hg3 (.cons hg3 (.cons tt (.cons tt (.cons tt (.cons tt (.cons tt (.cons tt .nil)))))))))))))
    ·replace ht := ite_f ht hg3
     rcases Bool.eq_false_or_eq_true (!decide ((List.length x1.1 : Int) = 3)) with hg4 | hg4
     ·replace ht := ite_t ht hg4
      have e := Option.some.inj ht
      subst e
      exact rg0 (obs := [((!decide (x1.2.2 = 0)) = false), ((!decide (x1.2.2 = 0)) = false), ((!decide (x1.2.2 = 0)) = false), ((!decide (x1.2.1 = 0)) = false), ((!decide (x1.2.1 = 0)) = false), ((((List.map enc_api_Entry x1.1).length : Nat) : Int) = (List.length x1.1 : Int)), ((!decide (x1.2.1 = 0)) = false), ((!decide (x1.2.1 = 0)) = false), ((!decide ((List.length x1.1 : Int) = 3)) = true), ((!decide ((List.length x1.1 : Int) = 3)) = true), ((!decide ((List.length x1.1 : Int) = 3)) = true), ((!decide ((List.length x1.1 : Int) = 3)) = true), ((!decide ((List.length x1.1 : Int) = 3)) = true), ((!decide ((List.length x1.1 : Int) = 3)) = true), ((!decide ((List.length x1.1 : Int) = 3)) = true)]) [hE, hE, hE, hY, hY, hN (.pk false), hE, hY, (.y, (.len (List.length x1.1 : Int))), hY, hN (.pk false), hE, hS, hS, hS, hS, hS, hS, hN (.pk true)] (⟨[(1, oL 0 enc_api_Entry x1.1), (31, pB true)], [(0, rL (some 1) enc_api_Entry x1.1)], 1⟩) (.cons hg2 (.cons hg2 (.cons hg2 (.cons hg3 (.cons hg3 (.cons (by rw [List.length_map]) (.cons hg3 (.cons hg3 (.cons hg4 (.cons hg4 (.cons hg4 (.cons hg4 (.cons hg4 (.cons hg4 (.cons hg4 .nil)))))))))))))))
     ·replace ht := ite_f ht hg4
      obtain ⟨x5, hx5, ht⟩ := bind_some ht
      have e := Option.some.inj ht
      subst e
      exact rg0 (obs := [((!decide (x1.2.2 = 0)) = false), ((!decide (x1.2.2 = 0)) = false), ((!decide (x1.2.2 = 0)) = false), ((!decide (x1.2.1 = 0)) = false), ((!decide (x1.2.1 = 0)) = false), ((((List.map enc_api_Entry x1.1).length : Nat) : Int) = (List.length x1.1 : Int)), ((!decide (x1.2.1 = 0)) = false), ((!decide (x1.2.1 = 0)) = false), ((!decide ((List.length x1.1 : Int) = 3)) = false), ((!decide ((List.length x1.1 : Int) = 3)) = false), (0 ≤ (1 : Int) ∧ Int.toNat 1 < (List.map enc_api_Entry x1.1).length), ((!decide ((List.length x1.1 : Int) = 3)) = false), ((!decide ((List.length x1.1 : Int) = 3)) = false), ((List.map enc_api_Entry x1.1)[(0 + Int.toNat 1)]? = some (enc_api_Entry x5)), ((!decide ((List.length x1.1 : Int) = 3)) = false), ((List.length (List.map enc_api_Attr x5.Attrs) : Int) = (List.length x5.Attrs : Int)), ((!decide ((List.length x1.1 : Int) = 3)) = false), ((!decide ((List.length x1.1 : Int) = 3)) = false)]) [hE, hE, hE, hY, hY, hN (.pk false), hE, hY, (.y, (.len (List.length x1.1 : Int))), hY, hN (.pk false), hE, hY, (.y, .rAt), hY, (.y, (.ld (enc_api_Entry x5))), (.y, (.len (List.length x5.Attrs : Int))), hY, hN (.pk false)] (⟨[(1, oL 0 enc_api_Entry x1.1), (31, pB (!decide ((List.length x5.Attrs : Int) = 2)))], [(0, rL (some 1) enc_api_Entry x1.1)], 1⟩) (.cons hg2 (.cons hg2 (.cons hg2 (.cons hg3 (.cons hg3 (.cons (by rw [List.length_map]) (.cons hg3 (.cons hg3 (.cons hg4 (.cons hg4 (.cons (rAt_ob hx5 (by simp)) (.cons hg4 (.cons hg4 (.cons (ownAt hx5) (.cons hg4 (.cons (by rw [List.length_map]) (.cons hg4 (.cons hg4 .nil))))))))))))))))))
  ·clear ht
   refine x_cond _ rfl (fun hc7 => ?_) (fun hc7 => ?_)
   ·replace h := ite_t h hc7
    refine x_rg (rgn [hE] (⟨[(0, pB false)], [], 0⟩)) ?_
    refine x_toret ?_
    refine x_tr ?_
    obtain rfl := Option.some.inj h
    exact ret0 (.bool false) (.refl _) (fun _ => rfl)
   ·replace h := ite_f h hc7
    refine kw0 (⟨[(1, oL 0 enc_api_Entry x1.1)], [(0, rL (some 1) enc_api_Entry x1.1)], 1⟩) ?_
    refine x_skip ?_
    refine x_tn ?_
    obtain ⟨x8, hx8, h⟩ := bind_some h
    refine x_rg (rg0 (obs := [(LesA [.sl (some 1) (List.take (List.map enc_api_Entry x1.1).length (List.drop 0 (List.map enc_api_Entry x1.1))), .str [116, 101, 114, 109], .agg [.str [110, 101, 116], .str [102, 115], .str []]] [.sl (some 1) (List.map enc_api_Entry x1.1), .str [116, 101, 114, 109], .agg [.str [110, 101, 116], .str [102, 115], .str []]]), (CallOK Tryd.prog 22 [.sl (some 1) (List.map enc_api_Entry x1.1), .str [116, 101, 114, 109], .agg [.str [110, 101, 116], .str [102, 115], .str []]] (.tup [.usl (some 3) (List.map enc_api_Addr x8.1), .int .i64 x8.2]) true), (0 + (List.map enc_api_Entry x1.1).length ≤ List.length (List.map enc_api_Entry x1.1))]) [hE, hE, hN (.call [] [.sl (some 1) (List.map enc_api_Entry x1.1), .str [116, 101, 114, 109], .agg [.str [110, 101, 116], .str [102, 115], .str []]] (.tup [.usl (some 3) (List.map enc_api_Addr x8.1), .int .i64 x8.2]) true), hE, hE, hE, hE, hE] (⟨[(3, pI x8.2), (4, oL 0 enc_api_Addr x8.1)], [(0, rL (some 3) enc_api_Addr x8.1)], 1⟩) (.cons (.cons (.of_eq (by rw [List.drop_zero, List.take_length])) (.cons (.refl _) (.cons (.refl _) .nil))) (.cons (c22 hx8) (.cons (by simp) .nil)))) ?_
    refine x_seq ?_
    refine x_rg (st2 := ⟨[(4, oL 0 enc_api_Addr x8.1), (44, pB ((!decide (x8.2 = 0)) || (!decide ((List.length x8.1 : Int) = 1))))], [(0, rL (some 3) enc_api_Addr x8.1)], 1⟩) ?_ ?_
    ·rcases Bool.eq_false_or_eq_true (!decide (x8.2 = 0)) with hg9 | hg9
     ·exact rg [hE, hE, hE, hS, hS, hS, hN (.pk true)] (⟨[(4, oL 0 enc_api_Addr x8.1), (44, pB true)], [(0, rL (some 3) enc_api_Addr x8.1)], 1⟩) (.cons hg9 (.cons hg9 (.cons hg9 (.cons hg9 .nil)))) (.of_eq (by simp only [hg9, bs, reduceIte]))
     ·exact rg (obs := [((!decide (x8.2 = 0)) = false), ((!decide (x8.2 = 0)) = false), ((((List.map enc_api_Addr x8.1).length : Nat) : Int) = (List.length x8.1 : Int)), ((!decide (x8.2 = 0)) = false), ((!decide (x8.2 = 0)) = false)]) [hE, hE, hE, hY, (.y, (.len (List.length x8.1 : Int))), hY, hN (.pk false)] (⟨[(4, oL 0 enc_api_Addr x8.1), (44, pB (!decide ((List.length x8.1 : Int) = 1)))], [(0, rL (some 3) enc_api_Addr x8.1)], 1⟩) (.cons hg9 (.cons hg9 (.cons (by rw [List.length_map]) (.cons hg9 (.cons hg9 .nil))))) (.of_eq (by simp only [hg9, bs, reduceIte]))
    ·refine x_cond _ rfl (fun hc11 => ?_) (fun hc11 => ?_)
     ·replace h := ite_t h hc11
      refine x_rg (rgn [hE] (⟨[(0, pB false)], [], 0⟩)) ?_
      refine x_toret ?_
      refine x_tr ?_
      obtain rfl := Option.some.inj h
      exact ret0 (.bool false) (.refl _) (fun _ => rfl)
     ·replace h := ite_f h hc11
      refine kw0 (⟨[(4, oL 0 enc_api_Addr x8.1)], [(0, rL (some 3) enc_api_Addr x8.1)], 1⟩) ?_
      refine x_skip ?_
      refine x_tn ?_
      obtain ⟨x12, hx12, h⟩ := bind_some h
      obtain ⟨x13, hx13, h⟩ := bind_some h
      refine x_rg (rg0 (obs := [(0 ≤ (0 : Int) ∧ Int.toNat 0 < (List.map enc_api_Addr x8.1).length), ((List.map enc_api_Addr x8.1)[(0 + Int.toNat 0)]? = some (enc_api_Addr x12)), (CallOK Tryd.prog 14 [enc_api_Addr x12] (.tup [.str x13.1, .int .i64 x13.2]) true)]) [hE, hN .rAt, hN (.ld (enc_api_Addr x12)), hN (.cal [] (.tup [.str x13.1, .int .i64 x13.2]) true), hE, hE, hE, hE, hE] (⟨[(3, pI x13.2), (4, oL 0 enc_api_Addr x8.1), (5, pS x13.1)], [(0, rL (some 3) enc_api_Addr x8.1)], 1⟩) (.cons (rAt_ob hx12 (by simp)) (.cons (ownAt hx12) (.cons (c14 hx13) .nil)))) ?_
      obtain ⟨x14, hx14, h⟩ := bind_some h
      refine x_rg (rg0 [hN (.cal [] (.tup [enc_api_Addr x14.1, .int .i64 x14.2]) true), hE, hE, hE, hE, hE, hE] (⟨[(3, pI x13.2), (4, oL 0 enc_api_Addr x8.1), (5, pS x13.1), (6, .optr 1 0 0), (7, pI x14.2)], [(0, rL (some 3) enc_api_Addr x8.1), (1, some (.p (some 3) [enc_api_Addr x14.1]))], 2⟩) (.cons (c12 hx14) .nil)) ?_
      obtain ⟨t19, ht, h⟩ := bind_some h
      refine x_rg (st2 := ⟨[(0, pB t19)], [], 0⟩) ?_ ?_
      ·rcases Bool.eq_false_or_eq_true (decide (x13.1 = [116, 99, 112, 33, 102, 115, 33, 53, 54, 52])) with hg15 | hg15
       ·replace ht := ite_t ht hg15
        rcases Bool.eq_false_or_eq_true (decide (x13.2 = 0)) with hg16 | hg16
        ·replace ht := ite_t ht hg16
         obtain ⟨x17, hx17, ht⟩ := bind_some ht
         rcases Bool.eq_false_or_eq_true (decide (x14.1.Net = x17.Net) && (decide (x14.1.Host = x17.Host) && (decide (x14.1.Service = x17.Service) && true))) with hg18 | hg18
         ·replace ht := ite_t ht hg18
          have e := Option.some.inj ht
          subst e
          exact rg0 (obs := [((decide (x13.1 = [116, 99, 112, 33, 102, 115, 33, 53, 54, 52])) = true), ((decide (x13.1 = [116, 99, 112, 33, 102, 115, 33, 53, 54, 52])) = true), ((decide (x13.1 = [116, 99, 112, 33, 102, 115, 33, 53, 54, 52])) = true), ((decide (x13.2 = 0)) = true), ((decide (x13.2 = 0)) = true), ((decide (x13.2 = 0)) = true), (0 ≤ (0 : Int) ∧ Int.toNat 0 < (List.map enc_api_Addr x8.1).length), ((decide (x13.2 = 0)) = true), ((List.map enc_api_Addr x8.1)[(0 + Int.toNat 0)]? = some (enc_api_Addr x17)), ((decide (x13.2 = 0)) = true), ((decide (x13.2 = 0)) = true), ((decide (x14.1.Net = x17.Net) && (decide (x14.1.Host = x17.Host) && (decide (x14.1.Service = x17.Service) && true))) = true), ((decide (x14.1.Net = x17.Net) && (decide (x14.1.Host = x17.Host) && (decide (x14.1.Service = x17.Service) && true))) = true), ((decide (x14.1.Net = x17.Net) && (decide (x14.1.Host = x17.Host) && (decide (x14.1.Service = x17.Service) && true))) = true)]) [hE, hE, hE, hY, hY, hN (.pk true), hE, hY, hY, (.y, .rAt), (.y, (.ld (enc_api_Addr x17))), hY, hN (.pk true), hE, hY, hY, hN (.pk true), hE] (⟨[(0, pB (decide (x14.2 = 0)))], [], 0⟩) (.cons hg15 (.cons hg15 (.cons hg15 (.cons hg16 (.cons hg16 (.cons hg16 (.cons (rAt_ob hx17 (by simp)) (.cons hg16 (.cons (ownAt hx17) (.cons hg16 (.cons hg16 (.cons hg18 (.cons hg18 (.cons hg18 .nil))))))))))))))
         ·replace ht := ite_f ht hg18
          have e := Option.some.inj ht
          subst e
          exact rg0 (obs := [((decide (x13.1 = [116, 99, 112, 33, 102, 115, 33, 53, 54, 52])) = true), ((decide (x13.1 = [116, 99, 112, 33, 102, 115, 33, 53, 54, 52])) = true), ((decide (x13.1 = [116, 99, 112, 33, 102, 115, 33, 53, 54, 52])) = true), ((decide (x13.2 = 0)) = true), ((decide (x13.2 = 0)) = true), ((decide (x13.2 = 0)) = true), (0 ≤ (0 : Int) ∧ Int.toNat 0 < (List.map enc_api_Addr x8.1).length), ((decide (x13.2 = 0)) = true), ((List.map enc_api_Addr x8.1)[(0 + Int.toNat 0)]? = some (enc_api_Addr x17)), ((decide (x13.2 = 0)) = true), ((decide (x13.2 = 0)) = true), ((decide (x14.1.Net = x17.Net) && (decide (x14.1.Host = x17.Host) && (decide (x14.1.Service = x17.Service) && true))) = false), ((decide (x14.1.Net = x17.Net) && (decide (x14.1.Host = x17.Host) && (decide (x14.1.Service = x17.Service) && true))) = false), ((decide (x14.1.Net = x17.Net) && (decide (x14.1.Host = x17.Host) && (decide (x14.1.Service = x17.Service) && true))) = false)]) [hE, hE, hE, hY, hY, hN (.pk true), hE, hY, hY, (.y, .rAt), (.y, (.ld (enc_api_Addr x17))), hY, hN (.pk true), hE, hS, hS, hN (.pk false), hE] (⟨[(0, pB false)], [], 0⟩) (.cons hg15 (.cons hg15 (.cons hg15 (.cons hg16 (.cons hg16 (.cons hg16 (.cons (rAt_ob hx17 (by simp)) (.cons hg16 (.cons (ownAt hx17) (.cons hg16 (.cons hg16 (.cons hg18 (.cons hg18 (.cons hg18 .nil))))))))))))))
        ·replace ht := ite_f ht hg16
         have e := Option.some.inj ht
         subst e
         exact rg0 (obs := [((decide (x13.1 = [116, 99, 112, 33, 102, 115, 33, 53, 54, 52])) = true), ((decide (x13.1 = [116, 99, 112, 33, 102, 115, 33, 53, 54, 52])) = true), ((decide (x13.1 = [116, 99, 112, 33, 102, 115, 33, 53, 54, 52])) = true), ((decide (x13.2 = 0)) = false), ((decide (x13.2 = 0)) = false), ((decide (x13.2 = 0)) = false), ((decide (x13.2 = 0)) = false), ((decide (x13.2 = 0)) = false), ((decide (x13.2 = 0)) = false), (false = false), (false = false)]) [hE, hE, hE, hY, hY, hN (.pk true), hE, hS, hS, hS, hS, hS, hN (.pk false), hE, hS, hS, hE, hE] (⟨[(0, pB false)], [], 0⟩) (.cons hg15 (.cons hg15 (.cons hg15 (.cons hg16 (.cons hg16 (.cons hg16 (.cons hg16 (.cons hg16 (.cons hg16 (.cons rfl (.cons rfl .nil)))))))))))
       ·replace ht := ite_f ht hg15
        have e := Option.some.inj ht
        subst e
        exact rg0 (obs := [((decide (x13.1 = [116, 99, 112, 33, 102, 115, 33, 53, 54, 52])) = false), ((decide (x13.1 = [116, 99, 112, 33, 102, 115, 33, 53, 54, 52])) = false), ((decide (x13.1 = [116, 99, 112, 33, 102, 115, 33, 53, 54, 52])) = false), (false = false), (false = false), (false = false), (false = false), (false = false), (false = false), (false = false)]) [hE, hE, hE, hS, hS, hN (.pk false), hE, hS, hS, hS, hS, hS, hE, hE, hS, hS, hE, hE] (⟨[(0, pB false)], [], 0⟩) (.cons hg15 (.cons hg15 (.cons hg15 (.cons rfl (.cons rfl (.cons rfl (.cons rfl (.cons rfl (.cons rfl (.cons rfl .nil))))))))))
      ·clear ht
       refine x_toret ?_
       obtain rfl := Option.some.inj h
       exact ret0 (.bool t19) (.refl _) (fun _ => rfl)

theorem c54 {s_ : Str} {more : Str} {most : Int} {r : Bool} (h : ref27_letters s_ more most = some r) : CallOK Tryd.prog 54 [.str s_, .str more, .int .i64 most] (.bool r) true := by
  apply ok54
  unfold ref27_letters at h
  refine x_rg (rgn [hE] (⟨[(0, pS s_), (1, pS more), (2, pI most)], [], 0⟩)) ?_
  refine x_seq ?_
  refine x_rg (rgn [hE] (⟨[(0, pS s_), (1, pS more), (2, pI most), (7, pI 0)], [], 0⟩)) ?_
  refine x_block ?_
  refine kw0 (⟨[(0, pS s_), (1, pS more), (2, pI most), (7, pI 0)], [], 0⟩) ?_
  refine x_loop (σ := Int) h (fun s => ⟨[(0, pS s_), (1, pS more), (2, pI most), (7, pI s)], [], 0⟩) (by kernel_rfl) ?_ ?_
  ·rintro i
   kernel_rfl
  ·rintro i x29 h hx29
   replace h : ref27_letters_L29 s_ more most i = some x29 := h
   unfold ref27_letters_L29 at h
   refine x_seq ?_
   refine x_rg (rgn [hE, hE, hE, hE] (⟨[(0, pS s_), (1, pS more), (2, pI most), (7, pI i), (13, pB (decide (i < (List.length s_ : Int))))], [], 0⟩)) ?_
   refine x_cond _ rfl (fun hc30 => ?_) (fun hc30 => ?_)
   ·replace h := ite_t h hc30
    refine kw0 (⟨[(0, pS s_), (1, pS more), (2, pI most), (7, pI i)], [], 0⟩) ?_
    refine x_skip ?_
    refine x_tn ?_
    refine x_seq ?_
    refine x_block ?_
    obtain ⟨c31, hc31, h⟩ := bind_some h
    obtain ⟨t41, ht, h⟩ := bind_some h
    refine x_rg (st2 := ⟨[(0, pS s_), (1, pS more), (2, pI most), (7, pI i), (8, pB t41)], [], 0⟩) ?_ ?_
    ·rcases Bool.eq_false_or_eq_true (decide (97 ≤ (c31.toNat : Int))) with hg32 | hg32
     ·replace ht := ite_t ht hg32
      obtain ⟨c33, hc33, ht⟩ := bind_some ht
      rcases Bool.eq_false_or_eq_true (decide ((c33.toNat : Int) ≤ 122)) with hg34 | hg34
      ·replace ht := ite_t ht hg34
       have e := Option.some.inj ht
       subst e
       exact rg0 [hE, hE, hN (.sAt c31), hE, hE, hY, hY, (.y, (.sAt c33)), hY, hN (.pk true), hE, hS, hS, hS, hS, hS, (.u, .e), (.u, .e), (.u, .e), (.u, .e), hS, hN (.pk true), hE] (⟨[(0, pS s_), (1, pS more), (2, pI most), (7, pI i), (8, pB true)], [], 0⟩) (.cons hc31 (.cons hg32 (.cons hg32 (.cons hg32 (.cons hc33 (.cons hg32 (.cons hg32 (.cons hg34 (.cons hg34 (.cons hg34 (.cons hg34 (.cons hg34 (.cons hg34 (.cons hg34 .nil))))))))))))))
      ·replace ht := ite_f ht hg34
       obtain ⟨c35, hc35, ht⟩ := bind_some ht
       rcases Bool.eq_false_or_eq_true (decide (48 ≤ (c35.toNat : Int))) with hg36 | hg36
       ·replace ht := ite_t ht hg36
        obtain ⟨c37, hc37, ht⟩ := bind_some ht
        have e := Option.some.inj ht
        subst e
        exact rg0 [hE, hE, hN (.sAt c31), hE, hE, hY, hY, (.y, (.sAt c33)), hY, hN (.pk true), hE, hY, hY, (.y, (.sAt c35)), hY, hY, hY, hY, (.y, (.sAt c37)), hY, (.y, (.pk true)), hN (.pk false), hE] (⟨[(0, pS s_), (1, pS more), (2, pI most), (7, pI i), (8, pB (decide ((c37.toNat : Int) ≤ 57)))], [], 0⟩) (.cons hc31 (.cons hg32 (.cons hg32 (.cons hg32 (.cons hc33 (.cons hg32 (.cons hg32 (.cons hg34 (.cons hg34 (.cons hg34 (.cons hc35 (.cons hg34 (.cons hg34 (.cons hg36 (.cons hg36 (.cons hg36 (.cons hc37 (.cons hg36 (.cons hg34 (.cons hg36 (.cons hg34 .nil)))))))))))))))))))))
       ·replace ht := ite_f ht hg36
        have e := Option.some.inj ht
        subst e
        exact rg0 [hE, hE, hN (.sAt c31), hE, hE, hY, hY, (.y, (.sAt c33)), hY, hN (.pk true), hE, hY, hY, (.y, (.sAt c35)), hY, hY, hS, hS, hS, hS, (.y, (.pk false)), hN (.pk false), hE] (⟨[(0, pS s_), (1, pS more), (2, pI most), (7, pI i), (8, pB false)], [], 0⟩) (.cons hc31 (.cons hg32 (.cons hg32 (.cons hg32 (.cons hc33 (.cons hg32 (.cons hg32 (.cons hg34 (.cons hg34 (.cons hg34 (.cons hc35 (.cons hg34 (.cons hg34 (.cons hg36 (.cons hg36 (.cons hg36 (.cons hg36 (.cons hg34 (.cons hg36 (.cons hg34 .nil))))))))))))))))))))
     ·replace ht := ite_f ht hg32
      obtain ⟨c38, hc38, ht⟩ := bind_some ht
      rcases Bool.eq_false_or_eq_true (decide (48 ≤ (c38.toNat : Int))) with hg39 | hg39
      ·replace ht := ite_t ht hg39
       obtain ⟨c40, hc40, ht⟩ := bind_some ht
       have e := Option.some.inj ht
       subst e
       exact rg0 (obs := [(strAt s_ i = some c31), ((decide (97 ≤ (c31.toNat : Int))) = false), ((decide (97 ≤ (c31.toNat : Int))) = false), ((decide (97 ≤ (c31.toNat : Int))) = false), ((decide (97 ≤ (c31.toNat : Int))) = false), ((decide (97 ≤ (c31.toNat : Int))) = false), (false = false), (false = false), (false = false), (strAt s_ i = some c38), (false = false), (false = false), ((decide (48 ≤ (c38.toNat : Int))) = true), ((decide (48 ≤ (c38.toNat : Int))) = true), ((decide (48 ≤ (c38.toNat : Int))) = true), (strAt s_ i = some c40), ((decide (48 ≤ (c38.toNat : Int))) = true), (false = false), ((decide (48 ≤ (c38.toNat : Int))) = true)]) [hE, hE, hN (.sAt c31), hE, hE, hS, hS, hS, hS, hN (.pk false), hE, hY, hY, (.y, (.sAt c38)), hY, hY, hY, hY, (.y, (.sAt c40)), hY, (.y, (.pk true)), hE, hE] (⟨[(0, pS s_), (1, pS more), (2, pI most), (7, pI i), (8, pB (decide ((c40.toNat : Int) ≤ 57)))], [], 0⟩) (.cons hc31 (.cons hg32 (.cons hg32 (.cons hg32 (.cons hg32 (.cons hg32 (.cons rfl (.cons rfl (.cons rfl (.cons hc38 (.cons rfl (.cons rfl (.cons hg39 (.cons hg39 (.cons hg39 (.cons hc40 (.cons hg39 (.cons rfl (.cons hg39 .nil)))))))))))))))))))
      ·replace ht := ite_f ht hg39
       have e := Option.some.inj ht
       subst e
       exact rg0 (obs := [(strAt s_ i = some c31), ((decide (97 ≤ (c31.toNat : Int))) = false), ((decide (97 ≤ (c31.toNat : Int))) = false), ((decide (97 ≤ (c31.toNat : Int))) = false), ((decide (97 ≤ (c31.toNat : Int))) = false), ((decide (97 ≤ (c31.toNat : Int))) = false), (false = false), (false = false), (false = false), (strAt s_ i = some c38), (false = false), (false = false), ((decide (48 ≤ (c38.toNat : Int))) = false), ((decide (48 ≤ (c38.toNat : Int))) = false), ((decide (48 ≤ (c38.toNat : Int))) = false), ((decide (48 ≤ (c38.toNat : Int))) = false), (false = false), ((decide (48 ≤ (c38.toNat : Int))) = false)]) [hE, hE, hN (.sAt c31), hE, hE, hS, hS, hS, hS, hN (.pk false), hE, hY, hY, (.y, (.sAt c38)), hY, hY, hS, hS, hS, hS, (.y, (.pk false)), hE, hE] (⟨[(0, pS s_), (1, pS more), (2, pI most), (7, pI i), (8, pB false)], [], 0⟩) (.cons hc31 (.cons hg32 (.cons hg32 (.cons hg32 (.cons hg32 (.cons hg32 (.cons rfl (.cons rfl (.cons rfl (.cons hc38 (.cons rfl (.cons rfl (.cons hg39 (.cons hg39 (.cons hg39 (.cons hg39 (.cons rfl (.cons hg39 .nil))))))))))))))))))
    ·clear ht
     refine x_seq ?_
     refine x_rg (rgn [hE] (⟨[(0, pS s_), (1, pS more), (2, pI most), (7, pI i), (8, pB t41), (9, pI 0)], [], 0⟩)) ?_
     refine x_block ?_
     refine kw0 (⟨[(0, pS s_), (1, pS more), (2, pI most), (7, pI i), (8, pB t41), (9, pI 0)], [], 0⟩) ?_
     refine x_loop (σ := (Bool × Int)) h (fun s => ⟨[(0, pS s_), (1, pS more), (2, pI most), (7, pI i), (8, pB s.1), (9, pI s.2)], [], 0⟩) (by kernel_rfl) ?_ ?_
     ·rintro ⟨ok, k⟩
      kernel_rfl
     ·rintro ⟨ok, k⟩ x49 h hx49
      replace h : ref27_letters_L49 s_ more i ok k = some x49 := h
      unfold ref27_letters_L49 at h
      refine x_seq ?_
      refine x_rg (rgn [hE, hE, hE, hE] (⟨[(0, pS s_), (1, pS more), (2, pI most), (7, pI i), (8, pB ok), (9, pI k), (41, pB (decide (k < (List.length more : Int))))], [], 0⟩)) ?_
      refine x_cond _ rfl (fun hc50 => ?_) (fun hc50 => ?_)
      ·replace h := ite_t h hc50
       refine kw0 (⟨[(0, pS s_), (1, pS more), (2, pI most), (7, pI i), (8, pB ok), (9, pI k)], [], 0⟩) ?_
       refine x_skip ?_
       refine x_tn ?_
       refine x_seq ?_
       refine x_block ?_
       obtain ⟨t54, ht, h⟩ := bind_some h
       refine x_rgt (st2 := ⟨[(0, pS s_), (1, pS more), (2, pI most), (7, pI i), (8, pB t54), (9, pI k)], [], 0⟩) ?_ ?_
       ·rcases Bool.eq_false_or_eq_true ok with hg51 | hg51
        ·replace ht := ite_t ht hg51
         have e := Option.some.inj ht
         subst e
         exact rg0 [hE, hE, hS, hS, hS, hS, hS, hS, hS, hN (.pk true), hE] (⟨[(0, pS s_), (1, pS more), (2, pI most), (7, pI i), (8, pB true), (9, pI k)], [], 0⟩) (.cons hg51 (.cons hg51 (.cons hg51 (.cons hg51 (.cons hg51 (.cons hg51 (.cons hg51 (.cons hg51 .nil))))))))
        ·replace ht := ite_f ht hg51
         obtain ⟨c52, hc52, ht⟩ := bind_some ht
         obtain ⟨c53, hc53, ht⟩ := bind_some ht
         have e := Option.some.inj ht
         subst e
         exact rg0 [hE, hE, hY, hY, (.y, (.sAt c52)), hY, hY, (.y, (.sAt c53)), hY, hN (.pk false), hE] (⟨[(0, pS s_), (1, pS more), (2, pI most), (7, pI i), (8, pB (decide ((c52.toNat : Int) = (c53.toNat : Int)))), (9, pI k)], [], 0⟩) (.cons hg51 (.cons hg51 (.cons hg51 (.cons hc52 (.cons hg51 (.cons hg51 (.cons hg51 (.cons hc53 (.cons hg51 (.cons hg51 .nil))))))))))
       ·clear ht
        refine x_bn ?_
        refine x_tn ?_
        refine x_rgt (rgn [hE, hE, hE] (⟨[(0, pS s_), (1, pS more), (2, pI most), (7, pI i), (8, pB t54), (9, pI (IntKind.wrap .i64 (k + 1)))], [], 0⟩)) ?_
        refine x_tn ?_
        exact ⟨_, (Option.some.inj h).symm, by kernel_rfl⟩
      ·replace h := ite_f h hc50
       refine kw0 (⟨[(0, pS s_), (1, pS more), (2, pI most), (7, pI i), (8, pB ok)], [], 0⟩) ?_
       refine x_exit ?_
       refine x_te ?_
       refine x_te ?_
       replace h := done_map h hx49
       unfold ref27_letters_A56 at h
       refine x_bh ?_
       refine x_tn ?_
       refine x_rg (rgn [hE, hE] (⟨[(0, pS s_), (1, pS more), (2, pI most), (7, pI i), (55, pB (!ok))], [], 0⟩)) ?_
       refine x_cond _ rfl (fun hc55 => ?_) (fun hc55 => ?_)
       ·replace h := ite_t h hc55
        refine x_rg (rgn [hE] (⟨[(6, pB false)], [], 0⟩)) ?_
        refine x_toret ?_
        refine x_br ?_
        refine x_tr ?_
        refine x_tr ?_
        replace h := done_leaf h hx29
        refine x_br ?_
        refine x_tr ?_
        obtain rfl := Option.some.inj h
        exact ret0 (.bool false) (.refl _) (fun _ => rfl)
       ·replace h := ite_f h hc55
        refine kw0 (⟨[(0, pS s_), (1, pS more), (2, pI most), (7, pI i)], [], 0⟩) ?_
        refine x_skip ?_
        refine x_bn ?_
        refine x_tn ?_
        refine x_rgt (rgn [hE, hE, hE] (⟨[(0, pS s_), (1, pS more), (2, pI most), (7, pI (IntKind.wrap .i64 (i + 1)))], [], 0⟩)) ?_
        refine x_tn ?_
        exact ⟨_, (Option.some.inj h).symm, by kernel_rfl⟩
   ·replace h := ite_f h hc30
    refine kw0 (⟨[(0, pS s_), (2, pI most)], [], 0⟩) ?_
    refine x_exit ?_
    refine x_te ?_
    refine x_te ?_
    replace h := done_leaf h hx29
    refine x_bh ?_
    refine x_tn ?_
    refine x_rg (st2 := ⟨[(6, pB ((decide (1 ≤ (List.length s_ : Int))) && (decide ((List.length s_ : Int) ≤ most))))], [], 0⟩) ?_ ?_
    ·rcases Bool.eq_false_or_eq_true (decide (1 ≤ (List.length s_ : Int))) with hg57 | hg57
     ·exact rg [hE, hE, hE, hE, hY, hY, hY, hY, hN (.pk true), hE] (⟨[(6, pB (decide ((List.length s_ : Int) ≤ most)))], [], 0⟩) (.cons hg57 (.cons hg57 (.cons hg57 (.cons hg57 (.cons hg57 .nil))))) (.of_eq (by simp only [hg57, bs, reduceIte]))
     ·exact rg [hE, hE, hE, hE, hS, hS, hS, hS, hN (.pk false), hE] (⟨[(6, pB false)], [], 0⟩) (.cons hg57 (.cons hg57 (.cons hg57 (.cons hg57 (.cons hg57 .nil))))) (.of_eq (by simp only [hg57, bs, reduceIte]))
    ·refine x_toret ?_
     obtain rfl := Option.some.inj h
     exact ret0 (.bool ((decide (1 ≤ (List.length s_ : Int))) && (decide ((List.length s_ : Int) ≤ most)))) (.refl _) (fun _ => rfl)

theorem c52 {s_ : Str} {r : Bool} (h : ref27_Net s_ = some r) : CallOK Tryd.prog 52 [.str s_] (.bool r) true := by
  apply ok52
  unfold ref27_Net at h
  refine x_rg (rgn [hE] (⟨[(0, pS s_)], [], 0⟩)) ?_
  obtain ⟨x1, hx1, h⟩ := bind_some h
  obtain ⟨t4, ht, h⟩ := bind_some h
  refine x_rg (st2 := ⟨[(2, pB t4)], [], 0⟩) ?_ ?_
  ·rcases Bool.eq_false_or_eq_true x1 with hg2 | hg2
   ·replace ht := ite_t ht hg2
    obtain ⟨c3, hc3, ht⟩ := bind_some ht
    have e := Option.some.inj ht
    subst e
    exact rg0 [hE, hN (.cal [] (.bool x1) true), hE, hY, (.y, (.sAt c3)), hY, hN (.pk true), hE] (⟨[(2, pB (decide (97 ≤ (c3.toNat : Int))))], [], 0⟩) (.cons (c54 hx1) (.cons hg2 (.cons hg2 (.cons hc3 (.cons hg2 (.cons hg2 .nil))))))
   ·replace ht := ite_f ht hg2
    have e := Option.some.inj ht
    subst e
    exact rg0 [hE, hN (.cal [] (.bool x1) true), hE, hS, hS, hS, hN (.pk false), hE] (⟨[(2, pB false)], [], 0⟩) (.cons (c54 hx1) (.cons hg2 (.cons hg2 (.cons hg2 (.cons hg2 .nil)))))
  ·clear ht
   refine x_toret ?_
   obtain rfl := Option.some.inj h
   exact ret0 (.bool t4) (.refl _) (fun _ => rfl)

theorem c53 {s_ : Str} {r : Bool} (h : ref27_Host s_ = some r) : CallOK Tryd.prog 53 [.str s_] (.bool r) true := by
  apply ok53
  unfold ref27_Host at h
  refine x_rg (rgn [hE] (⟨[(0, pS s_)], [], 0⟩)) ?_
  obtain ⟨x1, hx1, h⟩ := bind_some h
  refine x_rg (rg0 [hE, hN (.cal [] (.bool x1) true), hE] (⟨[(2, pB x1)], [], 0⟩) (.cons (c54 hx1) .nil)) ?_
  refine x_toret ?_
  obtain rfl := Option.some.inj h
  exact ret0 (.bool x1) (.refl _) (fun _ => rfl)

theorem c25 {a : api_Addr} {r : Bool} (h : ref27_Right a = some r) : CallOK Tryd.prog 25 [enc_api_Addr a] (.bool r) true := by
  apply ok25
  unfold ref27_Right at h
  refine x_rg (rgn [hE, hE] (⟨[(1, .optr 0 0 0)], [(0, some (.p (some 3) [enc_api_Addr a]))], 1⟩)) ?_
  obtain ⟨x1, hx1, h⟩ := bind_some h
  obtain ⟨t10, ht, h⟩ := bind_some h
  refine x_rg (st2 := ⟨[(2, pB t10)], [], 0⟩) ?_ ?_
  ·rcases Bool.eq_false_or_eq_true x1 with hg2 | hg2
   ·replace ht := ite_t ht hg2
    rcases Bool.eq_false_or_eq_true (decide (a.Host = [42])) with hg3 | hg3
    ·replace ht := ite_t ht hg3
     rcases Bool.eq_false_or_eq_true (decide (a.Service = [])) with hg4 | hg4
     ·replace ht := ite_t ht hg4
      have e := Option.some.inj ht
      subst e
      exact rg0 [hE, hE, hN (.cal [] (.bool x1) true), hE, hY, hY, hY, hY, hS, hS, hS, (.y, (.pk true)), hN (.pk true), hE, hY, hY, hY, hY, hS, hS, hS, (.y, (.pk true)), hE, hE] (⟨[(2, pB true)], [], 0⟩) (.cons (c52 hx1) (.cons hg2 (.cons hg2 (.cons hg2 (.cons hg2 (.cons hg3 (.cons hg3 (.cons hg3 (.cons hg2 (.cons hg3 (.cons hg2 (.cons tt (.cons tt (.cons tt (.cons tt (.cons hg4 (.cons hg4 (.cons hg4 (.cons tt (.cons hg4 .nil))))))))))))))))))))
     ·replace ht := ite_f ht hg4
      obtain ⟨x5, hx5, ht⟩ := bind_some ht
      have e := Option.some.inj ht
      subst e
      exact rg0 [hE, hE, hN (.cal [] (.bool x1) true), hE, hY, hY, hY, hY, hS, hS, hS, (.y, (.pk true)), hN (.pk true), hE, hY, hY, hY, hY, hY, hY, (.y, (.cal [] (.bool x5) true)), (.y, (.pk false)), hE, hE] (⟨[(2, pB x5)], [], 0⟩) (.cons (c52 hx1) (.cons hg2 (.cons hg2 (.cons hg2 (.cons hg2 (.cons hg3 (.cons hg3 (.cons hg3 (.cons hg2 (.cons hg3 (.cons hg2 (.cons tt (.cons tt (.cons tt (.cons tt (.cons hg4 (.cons hg4 (.cons hg4 (.cons (c54 hx5) (.cons tt (.cons hg4 .nil)))))))))))))))))))))
    ·replace ht := ite_f ht hg3
     obtain ⟨x6, hx6, ht⟩ := bind_some ht
     rcases Bool.eq_false_or_eq_true x6 with hg7 | hg7
     ·replace ht := ite_t ht hg7
      rcases Bool.eq_false_or_eq_true (decide (a.Service = [])) with hg8 | hg8
      ·replace ht := ite_t ht hg8
       have e := Option.some.inj ht
       subst e
       exact rg0 [hE, hE, hN (.cal [] (.bool x1) true), hE, hY, hY, hY, hY, hY, hY, (.y, (.cal [] (.bool x6) true)), (.y, (.pk false)), hN (.pk true), hE, hY, hY, hY, hY, hS, hS, hS, (.y, (.pk true)), hN (.pk true), hE] (⟨[(2, pB true)], [], 0⟩) (.cons (c52 hx1) (.cons hg2 (.cons hg2 (.cons hg2 (.cons hg2 (.cons hg3 (.cons hg3 (.cons hg3 (.cons (c53 hx6) (.cons hg2 (.cons hg3 (.cons hg2 (.cons hg7 (.cons hg7 (.cons hg7 (.cons hg7 (.cons hg8 (.cons hg8 (.cons hg8 (.cons hg7 (.cons hg8 (.cons hg7 .nil))))))))))))))))))))))
      ·replace ht := ite_f ht hg8
       obtain ⟨x9, hx9, ht⟩ := bind_some ht
       have e := Option.some.inj ht
       subst e
       exact rg0 [hE, hE, hN (.cal [] (.bool x1) true), hE, hY, hY, hY, hY, hY, hY, (.y, (.cal [] (.bool x6) true)), (.y, (.pk false)), hN (.pk true), hE, hY, hY, hY, hY, hY, hY, (.y, (.cal [] (.bool x9) true)), (.y, (.pk false)), hN (.pk true), hE] (⟨[(2, pB x9)], [], 0⟩) (.cons (c52 hx1) (.cons hg2 (.cons hg2 (.cons hg2 (.cons hg2 (.cons hg3 (.cons hg3 (.cons hg3 (.cons (c53 hx6) (.cons hg2 (.cons hg3 (.cons hg2 (.cons hg7 (.cons hg7 (.cons hg7 (.cons hg7 (.cons hg8 (.cons hg8 (.cons hg8 (.cons (c54 hx9) (.cons hg7 (.cons hg8 (.cons hg7 .nil)))))))))))))))))))))))
     ·replace ht := ite_f ht hg7
      have e := Option.some.inj ht
      subst e
      exact rg0 [hE, hE, hN (.cal [] (.bool x1) true), hE, hY, hY, hY, hY, hY, hY, (.y, (.cal [] (.bool x6) true)), (.y, (.pk false)), hN (.pk true), hE, hS, hS, hS, hS, (.u, .e), (.u, .e), (.u, .e), hS, hN (.pk false), hE] (⟨[(2, pB false)], [], 0⟩) (.cons (c52 hx1) (.cons hg2 (.cons hg2 (.cons hg2 (.cons hg2 (.cons hg3 (.cons hg3 (.cons hg3 (.cons (c53 hx6) (.cons hg2 (.cons hg3 (.cons hg2 (.cons hg7 (.cons hg7 (.cons hg7 (.cons hg7 (.cons hg7 (.cons hg7 .nil))))))))))))))))))
   ·replace ht := ite_f ht hg2
    have e := Option.some.inj ht
    subst e
    exact rg0 (obs := [(CallOK Tryd.prog 52 [.str a.Net] (.bool x1) true), (x1 = false), (x1 = false), (x1 = false), (x1 = false), (x1 = false), (x1 = false), (false = false), (false = false), (false = false), (false = false), (false = false)]) [hE, hE, hN (.cal [] (.bool x1) true), hE, hS, hS, hS, hS, (.u, .e), (.u, .e), (.u, .e), hS, hN (.pk false), hE, hS, hS, hS, hS, (.u, .e), (.u, .e), (.u, .e), hS, hE, hE] (⟨[(2, pB false)], [], 0⟩) (.cons (c52 hx1) (.cons hg2 (.cons hg2 (.cons hg2 (.cons hg2 (.cons hg2 (.cons hg2 (.cons rfl (.cons rfl (.cons rfl (.cons rfl (.cons rfl .nil))))))))))))
  ·clear ht
   refine x_toret ?_
   obtain rfl := Option.some.inj h
   exact ret0 (.bool t10) (.refl _) (fun _ => rfl)

theorem c19 {l : (List api_Entry)} {r : Bool} (h : law27_small l = some r) : CallOK Tryd.prog 19 [.sl (some 1) (List.map enc_api_Entry l)] (.bool r) true := by
  apply ok19
  unfold law27_small at h
  refine x_rg (rgn [hE] (⟨[(0, pL (some 1) enc_api_Entry l)], [], 0⟩)) ?_
  refine x_seq ?_
  refine x_rg (rg0 [hE, hN (.len (List.length l : Int)), hE] (⟨[(0, pL (some 1) enc_api_Entry l), (8, pB (decide (300 < (List.length l : Int))))], [], 0⟩) (.cons (lenM enc_api_Entry l) .nil)) ?_
  refine x_cond _ rfl (fun hc1 => ?_) (fun hc1 => ?_)
  ·replace h := ite_t h hc1
   refine x_rg (rgn [hE] (⟨[(2, pB false)], [], 0⟩)) ?_
   refine x_toret ?_
   refine x_tr ?_
   obtain rfl := Option.some.inj h
   exact ret0 (.bool false) (.refl _) (fun _ => rfl)
  ·replace h := ite_f h hc1
   refine kw0 (⟨[(0, pL (some 1) enc_api_Entry l)], [], 0⟩) ?_
   refine x_skip ?_
   refine x_tn ?_
   refine x_rg (rgn [hE] (⟨[(0, pL (some 1) enc_api_Entry l), (3, pI 0)], [], 0⟩)) ?_
   refine x_seq ?_
   refine x_rg (rg0 [hE, hN (.len (List.length l : Int)), hE] (⟨[(0, pL (some 1) enc_api_Entry l), (3, pI 0), (10, pI (List.length l : Int)), (11, pI 0)], [], 0⟩) (.cons (lenM enc_api_Entry l) .nil)) ?_
   refine x_block ?_
   refine kw0 (⟨[(0, pL (some 1) enc_api_Entry l), (3, pI 0), (10, pI (List.length l : Int)), (11, pI 0)], [], 0⟩) ?_
   refine x_loop (σ := (Int × Int)) h (fun s => ⟨[(0, pL (some 1) enc_api_Entry l), (3, pI s.1), (10, pI (List.length l : Int)), (11, pI s.2)], [], 0⟩) (by kernel_rfl) ?_ ?_
   ·rintro ⟨n, v25⟩
    kernel_rfl
   ·rintro ⟨n, v25⟩ x26 h hx26
    replace h : law27_small_L26 l n v25 = some x26 := h
    unfold law27_small_L26 at h
    refine x_rg (rgn [hE] (⟨[(0, pL (some 1) enc_api_Entry l), (3, pI n), (10, pI (List.length l : Int)), (11, pI v25), (12, pB (decide (v25 < (List.length l : Int))))], [], 0⟩)) ?_
    refine x_seq ?_
    refine x_cond _ rfl (fun hc27 => ?_) (fun hc27 => ?_)
    ·replace h := ite_t h hc27
     refine kw0 (⟨[(0, pL (some 1) enc_api_Entry l), (3, pI n), (10, pI (List.length l : Int)), (11, pI v25)], [], 0⟩) ?_
     refine x_skip ?_
     refine x_tn ?_
     refine x_seq ?_
     refine x_block ?_
     refine x_rg (rgn [hE, hE] (⟨[(0, pL (some 1) enc_api_Entry l), (3, pI n), (4, pI v25), (10, pI (List.length l : Int)), (11, pI v25)], [], 0⟩)) ?_
     obtain ⟨x28, hx28, h⟩ := bind_some h
     refine x_rg (rg0 [hE, hE, hE, hN (.pAt (enc_api_Entry x28)), hE, hE, hN (.len (List.length x28.Attrs : Int)), hE, hE] (⟨[(0, pL (some 1) enc_api_Entry l), (3, pI (IntKind.wrap .i64 (n + (List.length x28.Attrs : Int)))), (4, pI v25), (10, pI (List.length l : Int)), (11, pI v25)], [], 0⟩) (.cons (lsAt_map (f := enc_api_Entry) hx28) (.cons (lenM enc_api_Attr x28.Attrs) .nil))) ?_
     refine x_seq ?_
     refine x_rg (rgn [hE, hE] (⟨[(0, pL (some 1) enc_api_Entry l), (3, pI (IntKind.wrap .i64 (n + (List.length x28.Attrs : Int)))), (4, pI v25), (10, pI (List.length l : Int)), (11, pI v25), (23, pB (decide (600 < (IntKind.wrap .i64 (n + (List.length x28.Attrs : Int))))))], [], 0⟩)) ?_
     refine x_cond _ rfl (fun hc29 => ?_) (fun hc29 => ?_)
     ·replace h := ite_t h hc29
      refine x_rg (rgn [hE] (⟨[(2, pB false)], [], 0⟩)) ?_
      refine x_toret ?_
      refine x_tr ?_
      refine x_br ?_
      refine x_tr ?_
      refine x_tr ?_
      replace h := done_leaf h hx26
      refine x_br ?_
      refine x_tr ?_
      obtain rfl := Option.some.inj h
      exact ret0 (.bool false) (.refl _) (fun _ => rfl)
     ·replace h := ite_f h hc29
      refine kw0 (⟨[(0, pL (some 1) enc_api_Entry l), (3, pI (IntKind.wrap .i64 (n + (List.length x28.Attrs : Int)))), (4, pI v25), (10, pI (List.length l : Int)), (11, pI v25)], [], 0⟩) ?_
      refine x_skip ?_
      refine x_tn ?_
      obtain ⟨x30, hx30, h⟩ := bind_some h
      refine x_rg (rg0 [hE, hE, hN (.pAt (enc_api_Entry x30)), hE, hE, hN (.len (List.length x30.Attrs : Int)), hE] (⟨[(0, pL (some 1) enc_api_Entry l), (3, pI (IntKind.wrap .i64 (n + (List.length x28.Attrs : Int)))), (4, pI v25), (10, pI (List.length l : Int)), (11, pI v25), (29, pI (List.length x30.Attrs : Int)), (30, pI 0)], [], 0⟩) (.cons (lsAt_map (f := enc_api_Entry) hx30) (.cons (lenM enc_api_Attr x30.Attrs) .nil))) ?_
      refine x_block ?_
      refine kw0 (⟨[(0, pL (some 1) enc_api_Entry l), (3, pI (IntKind.wrap .i64 (n + (List.length x28.Attrs : Int)))), (4, pI v25), (10, pI (List.length l : Int)), (11, pI v25), (29, pI (List.length x30.Attrs : Int)), (30, pI 0)], [], 0⟩) ?_
      refine x_loop (σ := Int) h (fun s => ⟨[(0, pL (some 1) enc_api_Entry l), (3, pI (IntKind.wrap .i64 (n + (List.length x28.Attrs : Int)))), (4, pI v25), (10, pI (List.length l : Int)), (11, pI v25), (29, pI (List.length x30.Attrs : Int)), (30, pI s)], [], 0⟩) (by kernel_rfl) ?_ ?_
      ·rintro v39
       kernel_rfl
      ·rintro v39 x40 h hx40
       replace h : law27_small_L40 l n v25 x28 x30 v39 = some x40 := h
       unfold law27_small_L40 at h
       refine x_rg (rgn [hE] (⟨[(0, pL (some 1) enc_api_Entry l), (3, pI (IntKind.wrap .i64 (n + (List.length x28.Attrs : Int)))), (4, pI v25), (10, pI (List.length l : Int)), (11, pI v25), (29, pI (List.length x30.Attrs : Int)), (30, pI v39), (31, pB (decide (v39 < (List.length x30.Attrs : Int))))], [], 0⟩)) ?_
       refine x_seq ?_
       refine x_cond _ rfl (fun hc41 => ?_) (fun hc41 => ?_)
       ·replace h := ite_t h hc41
        refine kw0 (⟨[(0, pL (some 1) enc_api_Entry l), (3, pI (IntKind.wrap .i64 (n + (List.length x28.Attrs : Int)))), (4, pI v25), (10, pI (List.length l : Int)), (11, pI v25), (29, pI (List.length x30.Attrs : Int)), (30, pI v39)], [], 0⟩) ?_
        refine x_skip ?_
        refine x_tn ?_
        refine x_seq ?_
        refine x_block ?_
        refine x_rg (rgn [hE, hE] (⟨[(0, pL (some 1) enc_api_Entry l), (3, pI (IntKind.wrap .i64 (n + (List.length x28.Attrs : Int)))), (4, pI v25), (5, pI v39), (10, pI (List.length l : Int)), (11, pI v25), (29, pI (List.length x30.Attrs : Int)), (30, pI v39)], [], 0⟩)) ?_
        obtain ⟨x42, hx42, h⟩ := bind_some h
        obtain ⟨x43, hx43, h⟩ := bind_some h
        obtain ⟨t47, ht, h⟩ := bind_some h
        refine x_rg (st2 := ⟨[(0, pL (some 1) enc_api_Entry l), (3, pI (IntKind.wrap .i64 (n + (List.length x28.Attrs : Int)))), (4, pI v25), (10, pI (List.length l : Int)), (11, pI v25), (29, pI (List.length x30.Attrs : Int)), (30, pI v39), (56, pB t47)], [], 0⟩) ?_ ?_
        ·rcases Bool.eq_false_or_eq_true (decide (1100 < (List.length x43.Name : Int))) with hg44 | hg44
         ·replace ht := ite_t ht hg44
          have e := Option.some.inj ht
          subst e
          exact rg0 [hE, hE, hN (.pAt (enc_api_Entry x42)), hE, hE, hE, hN (.pAt (enc_api_Attr x43)), hE, hE, hE, hE, hE, hS, hS, hS, hS, hS, hS, hS, hS, hS, hS, hS, hN (.pk true)] (⟨[(0, pL (some 1) enc_api_Entry l), (3, pI (IntKind.wrap .i64 (n + (List.length x28.Attrs : Int)))), (4, pI v25), (10, pI (List.length l : Int)), (11, pI v25), (29, pI (List.length x30.Attrs : Int)), (30, pI v39), (56, pB true)], [], 0⟩) (.cons (lsAt_map (f := enc_api_Entry) hx42) (.cons (lsAt_map (f := enc_api_Attr) hx43) (.cons hg44 (.cons hg44 (.cons hg44 (.cons hg44 (.cons hg44 (.cons hg44 (.cons hg44 (.cons hg44 (.cons hg44 (.cons hg44 (.cons hg44 (.cons hg44 .nil))))))))))))))
         ·replace ht := ite_f ht hg44
          obtain ⟨x45, hx45, ht⟩ := bind_some ht
          obtain ⟨x46, hx46, ht⟩ := bind_some ht
          have e := Option.some.inj ht
          subst e
          exact rg0 [hE, hE, hN (.pAt (enc_api_Entry x42)), hE, hE, hE, hN (.pAt (enc_api_Attr x43)), hE, hE, hE, hE, hE, hY, hY, (.y, (.pAt (enc_api_Entry x45))), hY, hY, hY, (.y, (.pAt (enc_api_Attr x46))), hY, hY, hY, hY, hN (.pk false)] (⟨[(0, pL (some 1) enc_api_Entry l), (3, pI (IntKind.wrap .i64 (n + (List.length x28.Attrs : Int)))), (4, pI v25), (10, pI (List.length l : Int)), (11, pI v25), (29, pI (List.length x30.Attrs : Int)), (30, pI v39), (56, pB (decide (1100 < (List.length x46.Value : Int))))], [], 0⟩) (.cons (lsAt_map (f := enc_api_Entry) hx42) (.cons (lsAt_map (f := enc_api_Attr) hx43) (.cons hg44 (.cons hg44 (.cons hg44 (.cons (lsAt_map (f := enc_api_Entry) hx45) (.cons hg44 (.cons hg44 (.cons hg44 (.cons hg44 (.cons (lsAt_map (f := enc_api_Attr) hx46) (.cons hg44 (.cons hg44 (.cons hg44 (.cons hg44 (.cons hg44 .nil))))))))))))))))
        ·clear ht
         refine x_cond _ rfl (fun hc48 => ?_) (fun hc48 => ?_)
         ·replace h := ite_t h hc48
          refine x_rg (rgn [hE] (⟨[(2, pB false)], [], 0⟩)) ?_
          refine x_toret ?_
          refine x_br ?_
          refine x_tr ?_
          refine x_tr ?_
          replace h := done_leaf h hx40
          refine x_br ?_
          refine x_br ?_
          refine x_tr ?_
          refine x_tr ?_
          replace h := done_leaf h hx26
          refine x_br ?_
          refine x_tr ?_
          obtain rfl := Option.some.inj h
          exact ret0 (.bool false) (.refl _) (fun _ => rfl)
         ·replace h := ite_f h hc48
          refine kw0 (⟨[(0, pL (some 1) enc_api_Entry l), (3, pI (IntKind.wrap .i64 (n + (List.length x28.Attrs : Int)))), (4, pI v25), (10, pI (List.length l : Int)), (11, pI v25), (29, pI (List.length x30.Attrs : Int)), (30, pI v39)], [], 0⟩) ?_
          refine x_skip ?_
          refine x_bn ?_
          refine x_tn ?_
          refine x_rgt (rgn [hE, hE] (⟨[(0, pL (some 1) enc_api_Entry l), (3, pI (IntKind.wrap .i64 (n + (List.length x28.Attrs : Int)))), (4, pI v25), (10, pI (List.length l : Int)), (11, pI v25), (29, pI (List.length x30.Attrs : Int)), (30, pI (IntKind.wrap .i64 (v39 + 1)))], [], 0⟩)) ?_
          refine x_tn ?_
          exact ⟨_, (Option.some.inj h).symm, by kernel_rfl⟩
       ·replace h := ite_f h hc41
        refine kw0 (⟨[(0, pL (some 1) enc_api_Entry l), (3, pI (IntKind.wrap .i64 (n + (List.length x28.Attrs : Int)))), (10, pI (List.length l : Int)), (11, pI v25)], [], 0⟩) ?_
        refine x_exit ?_
        refine x_te ?_
        refine x_te ?_
        replace h := done_leaf h hx40
        refine x_bh ?_
        refine x_bn ?_
        refine x_tn ?_
        refine x_rgt (rgn [hE, hE] (⟨[(0, pL (some 1) enc_api_Entry l), (3, pI (IntKind.wrap .i64 (n + (List.length x28.Attrs : Int)))), (10, pI (List.length l : Int)), (11, pI (IntKind.wrap .i64 (v25 + 1)))], [], 0⟩)) ?_
        refine x_tn ?_
        exact ⟨_, (Option.some.inj h).symm, by kernel_rfl⟩
    ·replace h := ite_f h hc27
     refine kw0 (⟨[], [], 0⟩) ?_
     refine x_exit ?_
     refine x_te ?_
     refine x_te ?_
     replace h := done_leaf h hx26
     refine x_bh ?_
     refine x_tn ?_
     refine x_rg (rgn [hE] (⟨[(2, pB true)], [], 0⟩)) ?_
     refine x_toret ?_
     obtain rfl := Option.some.inj h
     exact ret0 (.bool true) (.refl _) (fun _ => rfl)

theorem c44 {l : (List api_Attr)} {name : Str} {r : (Str × Bool)} (h : ref22_Find l name = some r) : CallOK Tryd.prog 44 [.sl (some 3) (List.map enc_api_Attr l), .str name] (.tup [.str r.1, .bool r.2]) true := by
  apply ok44
  unfold ref22_Find at h
  refine x_rg (rgn [hE, hE] (⟨[(0, pL (some 3) enc_api_Attr l), (1, pS name)], [], 0⟩)) ?_
  refine x_seq ?_
  refine x_rg (rgn [hE] (⟨[(0, pL (some 3) enc_api_Attr l), (1, pS name), (6, pI 0)], [], 0⟩)) ?_
  refine x_block ?_
  refine kw0 (⟨[(0, pL (some 3) enc_api_Attr l), (1, pS name), (6, pI 0)], [], 0⟩) ?_
  refine x_loop (σ := Int) h (fun s => ⟨[(0, pL (some 3) enc_api_Attr l), (1, pS name), (6, pI s)], [], 0⟩) (by kernel_rfl) ?_ ?_
  ·rintro i
   kernel_rfl
  ·rintro i x9 h hx9
   replace h : ref22_Find_L9 l name i = some x9 := h
   unfold ref22_Find_L9 at h
   refine x_seq ?_
   refine x_rg (rg0 [hE, hE, hN (.len (List.length l : Int)), hE] (⟨[(0, pL (some 3) enc_api_Attr l), (1, pS name), (6, pI i), (10, pB (decide (i < (List.length l : Int))))], [], 0⟩) (.cons (lenM enc_api_Attr l) .nil)) ?_
   refine x_cond _ rfl (fun hc10 => ?_) (fun hc10 => ?_)
   ·replace h := ite_t h hc10
    refine kw0 (⟨[(0, pL (some 3) enc_api_Attr l), (1, pS name), (6, pI i)], [], 0⟩) ?_
    refine x_skip ?_
    refine x_tn ?_
    refine x_seq ?_
    refine x_block ?_
    obtain ⟨x11, hx11, h⟩ := bind_some h
    obtain ⟨t14, ht, h⟩ := bind_some h
    refine x_rg (st2 := ⟨[(0, pL (some 3) enc_api_Attr l), (1, pS name), (6, pI i), (27, pB t14)], [], 0⟩) ?_ ?_
    ·rcases Bool.eq_false_or_eq_true (decide (x11.Name = name)) with hg12 | hg12
     ·replace ht := ite_t ht hg12
      obtain ⟨x13, hx13, ht⟩ := bind_some ht
      have e := Option.some.inj ht
      subst e
      exact rg0 [hE, hE, hN (.pAt (enc_api_Attr x11)), hE, hE, hE, hE, hE, hY, hY, (.y, (.pAt (enc_api_Attr x13))), hY, hY, hY, hN (.pk true)] (⟨[(0, pL (some 3) enc_api_Attr l), (1, pS name), (6, pI i), (27, pB (!x13.Query))], [], 0⟩) (.cons (lsAt_map (f := enc_api_Attr) hx11) (.cons hg12 (.cons hg12 (.cons hg12 (.cons (lsAt_map (f := enc_api_Attr) hx13) (.cons hg12 (.cons hg12 (.cons hg12 (.cons hg12 .nil)))))))))
     ·replace ht := ite_f ht hg12
      have e := Option.some.inj ht
      subst e
      exact rg0 [hE, hE, hN (.pAt (enc_api_Attr x11)), hE, hE, hE, hE, hE, hS, hS, hS, hS, hS, hS, hN (.pk false)] (⟨[(0, pL (some 3) enc_api_Attr l), (1, pS name), (6, pI i), (27, pB false)], [], 0⟩) (.cons (lsAt_map (f := enc_api_Attr) hx11) (.cons hg12 (.cons hg12 (.cons hg12 (.cons hg12 (.cons hg12 (.cons hg12 (.cons hg12 .nil))))))))
    ·clear ht
     refine x_cond _ rfl (fun hc15 => ?_) (fun hc15 => ?_)
     ·replace h := ite_t h hc15
      obtain ⟨x16, hx16, h⟩ := bind_some h
      refine x_rg (rg0 [hE, hE, hN (.pAt (enc_api_Attr x16)), hE, hE, hE, hE] (⟨[(4, pS x16.Value), (5, pB true)], [], 0⟩) (.cons (lsAt_map (f := enc_api_Attr) hx16) .nil)) ?_
      refine x_toret ?_
      refine x_br ?_
      refine x_tr ?_
      refine x_tr ?_
      replace h := done_leaf h hx9
      refine x_br ?_
      refine x_tr ?_
      obtain rfl := Option.some.inj h
      exact ret0 (.tup [.str x16.Value, .bool true]) (.tup (.cons (.refl _) (.cons (.refl _) .nil))) (fun _ => rfl)
     ·replace h := ite_f h hc15
      refine kw0 (⟨[(0, pL (some 3) enc_api_Attr l), (1, pS name), (6, pI i)], [], 0⟩) ?_
      refine x_skip ?_
      refine x_bn ?_
      refine x_tn ?_
      refine x_rgt (rgn [hE, hE, hE] (⟨[(0, pL (some 3) enc_api_Attr l), (1, pS name), (6, pI (IntKind.wrap .i64 (i + 1)))], [], 0⟩)) ?_
      refine x_tn ?_
      exact ⟨_, (Option.some.inj h).symm, by kernel_rfl⟩
   ·replace h := ite_f h hc10
    refine kw0 (⟨[], [], 0⟩) ?_
    refine x_exit ?_
    refine x_te ?_
    refine x_te ?_
    replace h := done_leaf h hx9
    refine x_bh ?_
    refine x_tn ?_
    refine x_rg (rgn [hE, hE] (⟨[(4, pS []), (5, pB false)], [], 0⟩)) ?_
    refine x_toret ?_
    obtain rfl := Option.some.inj h
    exact ret0 (.tup [.str [], .bool false]) (.tup (.cons (.refl _) (.cons (.refl _) .nil))) (fun _ => rfl)

theorem c49 {l : (List Str)} {s_ : Str} {r : Bool} (h : ref27_has l s_ = some r) : CallOK Tryd.prog 49 [.sl none (List.map PV.str l), .str s_] (.bool r) true := by
  apply ok49
  unfold ref27_has at h
  refine x_rg (rgn [hE] (⟨[(0, pL none PV.str l), (1, pS s_)], [], 0⟩)) ?_
  refine x_seq ?_
  refine x_rg (rgn [hE] (⟨[(0, pL none PV.str l), (1, pS s_), (5, pI 0)], [], 0⟩)) ?_
  refine x_block ?_
  refine kw0 (⟨[(0, pL none PV.str l), (1, pS s_), (5, pI 0)], [], 0⟩) ?_
  refine x_loop (σ := Int) h (fun s => ⟨[(0, pL none PV.str l), (1, pS s_), (5, pI s)], [], 0⟩) (by kernel_rfl) ?_ ?_
  ·rintro i
   kernel_rfl
  ·rintro i x5 h hx5
   replace h : ref27_has_L5 l s_ i = some x5 := h
   unfold ref27_has_L5 at h
   refine x_seq ?_
   refine x_rg (rg0 [hE, hE, hN (.len (List.length l : Int)), hE] (⟨[(0, pL none PV.str l), (1, pS s_), (5, pI i), (9, pB (decide (i < (List.length l : Int))))], [], 0⟩) (.cons (lenM PV.str l) .nil)) ?_
   refine x_cond _ rfl (fun hc6 => ?_) (fun hc6 => ?_)
   ·replace h := ite_t h hc6
    refine kw0 (⟨[(0, pL none PV.str l), (1, pS s_), (5, pI i)], [], 0⟩) ?_
    refine x_skip ?_
    refine x_tn ?_
    refine x_seq ?_
    refine x_block ?_
    obtain ⟨x7, hx7, h⟩ := bind_some h
    refine x_rg (rg0 [hE, hE, hN (.pAt (.str x7)), hE, hE, hE] (⟨[(0, pL none PV.str l), (1, pS s_), (5, pI i), (17, pB (decide (x7 = s_)))], [], 0⟩) (.cons (lsAt_map (f := PV.str) hx7) .nil)) ?_
    refine x_cond _ rfl (fun hc8 => ?_) (fun hc8 => ?_)
    ·replace h := ite_t h hc8
     refine x_rg (rgn [hE] (⟨[(4, pB true)], [], 0⟩)) ?_
     refine x_toret ?_
     refine x_br ?_
     refine x_tr ?_
     refine x_tr ?_
     replace h := done_leaf h hx5
     refine x_br ?_
     refine x_tr ?_
     obtain rfl := Option.some.inj h
     exact ret0 (.bool true) (.refl _) (fun _ => rfl)
    ·replace h := ite_f h hc8
     refine kw0 (⟨[(0, pL none PV.str l), (1, pS s_), (5, pI i)], [], 0⟩) ?_
     refine x_skip ?_
     refine x_bn ?_
     refine x_tn ?_
     refine x_rgt (rgn [hE, hE, hE] (⟨[(0, pL none PV.str l), (1, pS s_), (5, pI (IntKind.wrap .i64 (i + 1)))], [], 0⟩)) ?_
     refine x_tn ?_
     exact ⟨_, (Option.some.inj h).symm, by kernel_rfl⟩
   ·replace h := ite_f h hc6
    refine kw0 (⟨[], [], 0⟩) ?_
    refine x_exit ?_
    refine x_te ?_
    refine x_te ?_
    replace h := done_leaf h hx5
    refine x_bh ?_
    refine x_tn ?_
    refine x_rg (rgn [hE] (⟨[(4, pB false)], [], 0⟩)) ?_
    refine x_toret ?_
    obtain rfl := Option.some.inj h
    exact ret0 (.bool false) (.refl _) (fun _ => rfl)

theorem c45 {l : (List api_Entry)} {name : Str} {r : (List Str)} (h : ref27_values l name = some r) : CallOK Tryd.prog 45 [.sl (some 1) (List.map enc_api_Entry l), .str name] (.usl none (List.map PV.str r)) true := by
  apply ok45
  unfold ref27_values at h
  refine x_rg (rgn [hE] (⟨[(0, pL (some 1) enc_api_Entry l), (1, pS name)], [], 0⟩)) ?_
  refine x_rg (st2 := { tm := [(0, .pv (.sl (some 1) (List.map enc_api_Entry l))), (1, .pv (.str name)), (5, .osl 0 0 (List.map PV.str ([] : List Str)).length)], hp := [(0, some (.p none (List.map PV.str ([] : List Str))))], nx := 1 }) (rg [hE] ({ tm := [(0, .pv (.sl (some 1) (List.map enc_api_Entry l))), (1, .pv (.str name)), (5, .pv (.nilsl))], hp := [], nx := 0 }) .nil ((Sub.keep (ks := [0, 1, 5]) (st := ownSt 5 none ({ tm := [(0, .pv (.sl (some 1) (List.map enc_api_Entry l))), (1, .pv (.str name)), (5, .pv (.nilsl))], hp := [], nx := 0 })) (st' := { tm := [(0, .pv (.sl (some 1) (List.map enc_api_Entry l))), (1, .pv (.str name)), (5, .osl 0 0 (List.map PV.str ([] : List Str)).length)], hp := [(0, some (.p none (List.map PV.str ([] : List Str))))], nx := 1 }) (by kernel_rfl)).trans (own_sound 5 none ({ tm := [(0, .pv (.sl (some 1) (List.map enc_api_Entry l))), (1, .pv (.str name)), (5, .pv (.nilsl))], hp := [], nx := 0 })))) ?_
  refine x_seq ?_
  refine x_rg (rgn [hE] (⟨[(0, pL (some 1) enc_api_Entry l), (1, pS name), (5, oL 0 PV.str ([] : List Str)), (6, pI 0)], [(0, rL none PV.str ([] : List Str))], 1⟩)) ?_
  refine x_block ?_
  refine kw0 (⟨[(0, pL (some 1) enc_api_Entry l), (1, pS name), (5, oL 0 PV.str ([] : List Str)), (6, pI 0)], [(0, rL none PV.str ([] : List Str))], 1⟩) ?_
  refine x_loop (σ := (Int × (List Str))) h (fun s => ⟨[(0, pL (some 1) enc_api_Entry l), (1, pS name), (5, oL 0 PV.str s.2), (6, pI s.1)], [(0, rL none PV.str s.2)], 1⟩) (by kernel_rfl) ?_ ?_
  ·rintro ⟨i, out⟩
   kernel_rfl
  ·rintro ⟨i, out⟩ x11 h hx11
   replace h : ref27_values_L11 l name i out = some x11 := h
   unfold ref27_values_L11 at h
   refine x_seq ?_
   refine x_rg (rg0 [hE, hE, hN (.len (List.length l : Int)), hE] (⟨[(0, pL (some 1) enc_api_Entry l), (1, pS name), (5, oL 0 PV.str out), (6, pI i), (12, pB (decide (i < (List.length l : Int))))], [(0, rL none PV.str out)], 1⟩) (.cons (lenM enc_api_Entry l) .nil)) ?_
   refine x_cond _ rfl (fun hc12 => ?_) (fun hc12 => ?_)
   ·replace h := ite_t h hc12
    refine kw0 (⟨[(0, pL (some 1) enc_api_Entry l), (1, pS name), (5, oL 0 PV.str out), (6, pI i)], [(0, rL none PV.str out)], 1⟩) ?_
    refine x_skip ?_
    refine x_tn ?_
    refine x_seq ?_
    refine x_block ?_
    obtain ⟨x13, hx13, h⟩ := bind_some h
    obtain ⟨x14, hx14, h⟩ := bind_some h
    refine x_rg (rg0 [hE, hE, hN (.pAt (enc_api_Entry x13)), hE, hE, hE, hN (.cal [] (.tup [.str x14.1, .bool x14.2]) true), hE, hE, hE, hE, hE] (⟨[(0, pL (some 1) enc_api_Entry l), (1, pS name), (5, oL 0 PV.str out), (6, pI i), (7, pS x14.1), (8, pB x14.2)], [(0, rL none PV.str out)], 1⟩) (.cons (lsAt_map (f := enc_api_Entry) hx13) (.cons (c44 hx14) .nil))) ?_
    obtain ⟨t17, ht, h⟩ := bind_some h
    refine x_rg (st2 := ⟨[(0, pL (some 1) enc_api_Entry l), (1, pS name), (5, oL 0 PV.str out), (6, pI i), (7, pS x14.1), (31, pB t17)], [(0, rL none PV.str out)], 1⟩) ?_ ?_
    ·rcases Bool.eq_false_or_eq_true x14.2 with hg15 | hg15
     ·replace ht := ite_t ht hg15
      obtain ⟨x16, hx16, ht⟩ := bind_some ht
      have e := Option.some.inj ht
      subst e
      exact rg0 (obs := [(x14.2 = true), (x14.2 = true), (x14.2 = true), (LesA [.sl none (List.take (List.map PV.str out).length (List.drop 0 (List.map PV.str out))), .str x14.1] [.sl none (List.map PV.str out), .str x14.1]), (CallOK Tryd.prog 49 [.sl none (List.map PV.str out), .str x14.1] (.bool x16) true), (0 + (List.map PV.str out).length ≤ List.length (List.map PV.str out)), (x14.2 = true), (x14.2 = true)]) [hE, hE, hY, hY, (.y, (.call [] [.sl none (List.map PV.str out), .str x14.1] (.bool x16) true)), hY, hN (.pk true)] (⟨[(0, pL (some 1) enc_api_Entry l), (1, pS name), (5, oL 0 PV.str out), (6, pI i), (7, pS x14.1), (31, pB (!x16))], [(0, rL none PV.str out)], 1⟩) (.cons hg15 (.cons hg15 (.cons hg15 (.cons (.cons (.of_eq (by rw [List.drop_zero, List.take_length])) (.cons (.refl _) .nil)) (.cons (c49 hx16) (.cons (by simp) (.cons hg15 (.cons hg15 .nil))))))))
     ·replace ht := ite_f ht hg15
      have e := Option.some.inj ht
      subst e
      exact rg0 [hE, hE, hS, hS, hS, hS, hN (.pk false)] (⟨[(0, pL (some 1) enc_api_Entry l), (1, pS name), (5, oL 0 PV.str out), (6, pI i), (7, pS x14.1), (31, pB false)], [(0, rL none PV.str out)], 1⟩) (.cons hg15 (.cons hg15 (.cons hg15 (.cons hg15 (.cons hg15 .nil)))))
    ·clear ht
     refine x_cond _ rfl (fun hc18 => ?_) (fun hc18 => ?_)
     ·replace h := ite_t h hc18
      obtain ⟨x19, hx19, h⟩ := bind_some h
      refine x_rgt (rg0 (obs := [(List.take (List.map PV.str out).length (List.map PV.str out) ++ List.take 1 (List.drop 0 ([.str x14.1] : List PV)) = (List.map PV.str x19)), (List.length (List.map PV.str x19) * 16 ≤ 140737488355328), (List.length (List.map PV.str x19) ≤ 9223372036854775807), ((List.map PV.str out).length ≤ List.length (List.map PV.str out)), (0 + 1 ≤ List.length ([.str x14.1] : List PV))]) [hE, hE, hE, hN (.app (List.map PV.str x19)), hE] (⟨[(0, pL (some 1) enc_api_Entry l), (1, pS name), (5, oL 0 PV.str x19), (6, pI i)], [(0, rL none PV.str x19)], 1⟩) (.cons (app_ob hx19 (.all _) (.rfl _)) (.cons (by rw [List.length_map]; exact (appL_ok hx19).2.1) (.cons (by rw [List.length_map]; exact (appL_ok hx19).2.2) (.cons (Nat.le_refl _) (.cons (by simp) .nil)))))) ?_
      refine x_bn ?_
      refine x_tn ?_
      refine x_rgt (rgn [hE, hE, hE] (⟨[(0, pL (some 1) enc_api_Entry l), (1, pS name), (5, oL 0 PV.str x19), (6, pI (IntKind.wrap .i64 (i + 1)))], [(0, rL none PV.str x19)], 1⟩)) ?_
      refine x_tn ?_
      exact ⟨_, (Option.some.inj h).symm, by kernel_rfl⟩
     ·replace h := ite_f h hc18
      refine kw0 (⟨[(0, pL (some 1) enc_api_Entry l), (1, pS name), (5, oL 0 PV.str out), (6, pI i)], [(0, rL none PV.str out)], 1⟩) ?_
      refine x_skip ?_
      refine x_bn ?_
      refine x_tn ?_
      refine x_rgt (rgn [hE, hE, hE] (⟨[(0, pL (some 1) enc_api_Entry l), (1, pS name), (5, oL 0 PV.str out), (6, pI (IntKind.wrap .i64 (i + 1)))], [(0, rL none PV.str out)], 1⟩)) ?_
      refine x_tn ?_
      exact ⟨_, (Option.some.inj h).symm, by kernel_rfl⟩
   ·replace h := ite_f h hc12
    refine kw0 (⟨[(5, oL 0 PV.str out)], [(0, rL none PV.str out)], 1⟩) ?_
    refine x_exit ?_
    refine x_te ?_
    refine x_te ?_
    replace h := done_leaf h hx11
    refine x_bh ?_
    refine x_tn ?_
    refine x_rg (rgn [hE, hE] (⟨[(4, oL 0 PV.str out)], [(0, rL none PV.str out)], 1⟩)) ?_
    refine x_toret ?_
    obtain rfl := Option.some.inj h
    exact x_ret (.usl none (List.take (List.map PV.str out).length (List.map PV.str out))) [0] [(List.map PV.str out).length ≤ List.length (List.map PV.str out)] (by kernel_rfl) (.cons (Nat.le_refl _) .nil) (by decide) (.of_eq (by rw [List.take_length])) (fun _ => (usl_ns (sh := none) (fun _ => rfl)))

theorem c24 {l : (List api_Entry)} {r : (List Str)} (h : ref27_Nets l = some r) : CallOK Tryd.prog 24 [.sl (some 1) (List.map enc_api_Entry l)] (.usl none (List.map PV.str r)) true := by
  apply ok24
  unfold ref27_Nets at h
  refine x_rg (rgn [hE] (⟨[(0, pL (some 1) enc_api_Entry l)], [], 0⟩)) ?_
  refine x_rg (st2 := { tm := [(0, .pv (.sl (some 1) (List.map enc_api_Entry l))), (3, .osl 0 0 (List.map PV.str ([] : List Str)).length)], hp := [(0, some (.p none (List.map PV.str ([] : List Str))))], nx := 1 }) (rg [hE] ({ tm := [(0, .pv (.sl (some 1) (List.map enc_api_Entry l))), (3, .pv (.nilsl))], hp := [], nx := 0 }) .nil ((Sub.keep (ks := [0, 3]) (st := ownSt 3 none ({ tm := [(0, .pv (.sl (some 1) (List.map enc_api_Entry l))), (3, .pv (.nilsl))], hp := [], nx := 0 })) (st' := { tm := [(0, .pv (.sl (some 1) (List.map enc_api_Entry l))), (3, .osl 0 0 (List.map PV.str ([] : List Str)).length)], hp := [(0, some (.p none (List.map PV.str ([] : List Str))))], nx := 1 }) (by kernel_rfl)).trans (own_sound 3 none ({ tm := [(0, .pv (.sl (some 1) (List.map enc_api_Entry l))), (3, .pv (.nilsl))], hp := [], nx := 0 })))) ?_
  obtain ⟨x1, hx1, h⟩ := bind_some h
  refine x_rg (rg0 [hE, hN (.cal [] (.usl none (List.map PV.str x1)) true), hE] (⟨[(3, oL 0 PV.str ([] : List Str)), (4, oL 1 PV.str x1)], [(0, rL none PV.str ([] : List Str)), (1, rL none PV.str x1)], 2⟩) (.cons (c45 hx1) .nil)) ?_
  refine x_seq ?_
  refine x_rg (rgn [hE] (⟨[(3, oL 0 PV.str ([] : List Str)), (4, oL 1 PV.str x1), (5, pI 0)], [(0, rL none PV.str ([] : List Str)), (1, rL none PV.str x1)], 2⟩)) ?_
  refine x_block ?_
  refine kw0 (⟨[(3, oL 0 PV.str ([] : List Str)), (4, oL 1 PV.str x1), (5, pI 0)], [(0, rL none PV.str ([] : List Str)), (1, rL none PV.str x1)], 2⟩) ?_
  refine x_loop (σ := (Int × (List Str))) h (fun s => ⟨[(3, oL 0 PV.str s.2), (4, oL 1 PV.str x1), (5, pI s.1)], [(0, rL none PV.str s.2), (1, rL none PV.str x1)], 2⟩) (by kernel_rfl) ?_ ?_
  ·rintro ⟨i, out⟩
   kernel_rfl
  ·rintro ⟨i, out⟩ x13 h hx13
   replace h : ref27_Nets_L13 x1 i out = some x13 := h
   unfold ref27_Nets_L13 at h
   refine x_seq ?_
   refine x_rg (rg0 (obs := [((((List.map PV.str x1).length : Nat) : Int) = (List.length x1 : Int))]) [hE, hE, hN (.len (List.length x1 : Int)), hE] (⟨[(3, oL 0 PV.str out), (4, oL 1 PV.str x1), (5, pI i), (11, pB (decide (i < (List.length x1 : Int))))], [(0, rL none PV.str out), (1, rL none PV.str x1)], 2⟩) (.cons (by rw [List.length_map]) .nil)) ?_
   refine x_cond _ rfl (fun hc14 => ?_) (fun hc14 => ?_)
   ·replace h := ite_t h hc14
    refine kw0 (⟨[(3, oL 0 PV.str out), (4, oL 1 PV.str x1), (5, pI i)], [(0, rL none PV.str out), (1, rL none PV.str x1)], 2⟩) ?_
    refine x_skip ?_
    refine x_tn ?_
    refine x_seq ?_
    refine x_block ?_
    obtain ⟨x15, hx15, h⟩ := bind_some h
    obtain ⟨x16, hx16, h⟩ := bind_some h
    obtain ⟨t19, ht, h⟩ := bind_some h
    refine x_rg (st2 := ⟨[(3, oL 0 PV.str out), (4, oL 1 PV.str x1), (5, pI i), (25, pB t19)], [(0, rL none PV.str out), (1, rL none PV.str x1)], 2⟩) ?_ ?_
    ·rcases Bool.eq_false_or_eq_true x16 with hg17 | hg17
     ·replace ht := ite_t ht hg17
      obtain ⟨x18, hx18, ht⟩ := bind_some ht
      have e := Option.some.inj ht
      subst e
      exact rg0 (obs := [(0 ≤ (i : Int) ∧ Int.toNat i < (List.map PV.str x1).length), ((List.map PV.str x1)[(0 + Int.toNat i)]? = some (.str x15)), (CallOK Tryd.prog 52 [.str x15] (.bool x16) true), (x16 = true), (x16 = true), (x16 = true), (0 ≤ (i : Int) ∧ Int.toNat i < (List.map PV.str x1).length), (x16 = true), ((List.map PV.str x1)[(0 + Int.toNat i)]? = some (.str x18)), (x16 = true), (x16 = true)]) [hE, hE, hN .rAt, hN (.ld (.str x15)), hN (.cal [] (.bool x16) true), hE, hY, hY, (.y, .rAt), (.y, (.ld (.str x18))), hY, hN (.pk true)] (⟨[(3, oL 0 PV.str out), (4, oL 1 PV.str x1), (5, pI i), (25, pB (!decide (x18 = [110, 101, 116])))], [(0, rL none PV.str out), (1, rL none PV.str x1)], 2⟩) (.cons (rAt_ob hx15 (by simp)) (.cons (ownAt hx15) (.cons (c52 hx16) (.cons hg17 (.cons hg17 (.cons hg17 (.cons (rAt_ob hx18 (by simp)) (.cons hg17 (.cons (ownAt hx18) (.cons hg17 (.cons hg17 .nil)))))))))))
     ·replace ht := ite_f ht hg17
      have e := Option.some.inj ht
      subst e
      exact rg0 (obs := [(0 ≤ (i : Int) ∧ Int.toNat i < (List.map PV.str x1).length), ((List.map PV.str x1)[(0 + Int.toNat i)]? = some (.str x15)), (CallOK Tryd.prog 52 [.str x15] (.bool x16) true), (x16 = false), (x16 = false), (x16 = false), (x16 = false), (x16 = false), (x16 = false)]) [hE, hE, hN .rAt, hN (.ld (.str x15)), hN (.cal [] (.bool x16) true), hE, hS, hS, hS, hS, hS, hN (.pk false)] (⟨[(3, oL 0 PV.str out), (4, oL 1 PV.str x1), (5, pI i), (25, pB false)], [(0, rL none PV.str out), (1, rL none PV.str x1)], 2⟩) (.cons (rAt_ob hx15 (by simp)) (.cons (ownAt hx15) (.cons (c52 hx16) (.cons hg17 (.cons hg17 (.cons hg17 (.cons hg17 (.cons hg17 (.cons hg17 .nil)))))))))
    ·clear ht
     refine x_cond _ rfl (fun hc20 => ?_) (fun hc20 => ?_)
     ·replace h := ite_t h hc20
      obtain ⟨x21, hx21, h⟩ := bind_some h
      obtain ⟨x22, hx22, h⟩ := bind_some h
      refine x_rgt (rg0 (obs := [(0 ≤ (i : Int) ∧ Int.toNat i < (List.map PV.str x1).length), ((List.map PV.str x1)[(0 + Int.toNat i)]? = some (.str x21)), (List.take (List.map PV.str out).length (List.map PV.str out) ++ List.take 1 (List.drop 0 ([.str x21] : List PV)) = (List.map PV.str x22)), (List.length (List.map PV.str x22) * 16 ≤ 140737488355328), (List.length (List.map PV.str x22) ≤ 9223372036854775807), ((List.map PV.str out).length ≤ List.length (List.map PV.str out)), (0 + 1 ≤ List.length ([.str x21] : List PV))]) [hE, hE, hE, hN .rAt, hN (.ld (.str x21)), hE, hN (.app (List.map PV.str x22)), hE] (⟨[(3, oL 0 PV.str x22), (4, oL 1 PV.str x1), (5, pI i)], [(0, rL none PV.str x22), (1, rL none PV.str x1)], 2⟩) (.cons (rAt_ob hx21 (by simp)) (.cons (ownAt hx21) (.cons (app_ob hx22 (.all _) (.rfl _)) (.cons (by rw [List.length_map]; exact (appL_ok hx22).2.1) (.cons (by rw [List.length_map]; exact (appL_ok hx22).2.2) (.cons (Nat.le_refl _) (.cons (by simp) .nil)))))))) ?_
      refine x_bn ?_
      refine x_tn ?_
      refine x_rgt (rgn [hE, hE, hE] (⟨[(3, oL 0 PV.str x22), (4, oL 1 PV.str x1), (5, pI (IntKind.wrap .i64 (i + 1)))], [(0, rL none PV.str x22), (1, rL none PV.str x1)], 2⟩)) ?_
      refine x_tn ?_
      exact ⟨_, (Option.some.inj h).symm, by kernel_rfl⟩
     ·replace h := ite_f h hc20
      refine kw0 (⟨[(3, oL 0 PV.str out), (4, oL 1 PV.str x1), (5, pI i)], [(0, rL none PV.str out), (1, rL none PV.str x1)], 2⟩) ?_
      refine x_skip ?_
      refine x_bn ?_
      refine x_tn ?_
      refine x_rgt (rgn [hE, hE, hE] (⟨[(3, oL 0 PV.str out), (4, oL 1 PV.str x1), (5, pI (IntKind.wrap .i64 (i + 1)))], [(0, rL none PV.str out), (1, rL none PV.str x1)], 2⟩)) ?_
      refine x_tn ?_
      exact ⟨_, (Option.some.inj h).symm, by kernel_rfl⟩
   ·replace h := ite_f h hc14
    refine kw0 (⟨[(3, oL 0 PV.str out)], [(0, rL none PV.str out)], 1⟩) ?_
    refine x_exit ?_
    refine x_te ?_
    refine x_te ?_
    replace h := done_leaf h hx13
    refine x_bh ?_
    refine x_tn ?_
    refine x_rg (rgn [hE, hE] (⟨[(2, oL 0 PV.str out)], [(0, rL none PV.str out)], 1⟩)) ?_
    refine x_toret ?_
    obtain rfl := Option.some.inj h
    exact x_ret (.usl none (List.take (List.map PV.str out).length (List.map PV.str out))) [0] [(List.map PV.str out).length ≤ List.length (List.map PV.str out)] (by kernel_rfl) (.cons (Nat.le_refl _) .nil) (by decide) (.of_eq (by rw [List.take_length])) (fun _ => (usl_ns (sh := none) (fun _ => rfl)))

theorem c27 {l : (List api_Entry)} {name : Str} {r : Bool} (h : ref27_Known l name = some r) : CallOK Tryd.prog 27 [.sl (some 1) (List.map enc_api_Entry l), .str name] (.bool r) true := by
  apply ok27
  unfold ref27_Known at h
  refine x_rg (rgn [hE] (⟨[(0, pL (some 1) enc_api_Entry l), (1, pS name)], [], 0⟩)) ?_
  obtain ⟨x1, hx1, h⟩ := bind_some h
  obtain ⟨x2, hx2, h⟩ := bind_some h
  refine x_rg (rg0 (obs := [(CallOK Tryd.prog 45 [.sl (some 1) (List.map enc_api_Entry l), .str [104, 111, 115, 116]] (.usl none (List.map PV.str x1)) true), (LesA [.sl none (List.take (List.map PV.str x1).length (List.drop 0 (List.map PV.str x1))), .str name] [.sl none (List.map PV.str x1), .str name]), (CallOK Tryd.prog 49 [.sl none (List.map PV.str x1), .str name] (.bool x2) true), (0 + (List.map PV.str x1).length ≤ List.length (List.map PV.str x1))]) [hE, hN (.cal [] (.usl none (List.map PV.str x1)) true), hE, hN (.call [] [.sl none (List.map PV.str x1), .str name] (.bool x2) true), hE] (⟨[(4, pB x2)], [], 0⟩) (.cons (c45 hx1) (.cons (.cons (.of_eq (by rw [List.drop_zero, List.take_length])) (.cons (.refl _) .nil)) (.cons (c49 hx2) (.cons (by simp) .nil))))) ?_
  refine x_toret ?_
  obtain rfl := Option.some.inj h
  exact ret0 (.bool x2) (.refl _) (fun _ => rfl)

theorem c78 {base : Int} {r : Bool} (h : ref01_based base = some r) : CallOK Tryd.prog 78 [.int .i64 base] (.bool r) true := by
  apply ok78
  unfold ref01_based at h
  refine x_rg (rgn [hE] (⟨[(0, pI base)], [], 0⟩)) ?_
  refine x_rg (st2 := ⟨[(2, pB ((decide (base = 8)) || ((decide (base = 10)) || (decide (base = 16)))))], [], 0⟩) ?_ ?_
  ·rcases Bool.eq_false_or_eq_true (decide (base = 8)) with hg1 | hg1
   ·exact rg [hE, hE, hE, hS, hS, hN (.pk true), hE, hS, hS, hE, hE] (⟨[(2, pB true)], [], 0⟩) (.cons hg1 (.cons hg1 (.cons hg1 (.cons tt (.cons tt .nil))))) (.of_eq (by simp only [hg1, bs, reduceIte]))
   ·rcases Bool.eq_false_or_eq_true (decide (base = 10)) with hg2 | hg2
    ·exact rg [hE, hE, hE, hY, hY, hN (.pk false), hE, hS, hS, hN (.pk true), hE] (⟨[(2, pB true)], [], 0⟩) (.cons hg1 (.cons hg1 (.cons hg1 (.cons hg2 (.cons hg2 (.cons hg2 .nil)))))) (.of_eq (by simp only [hg1, hg2, bs, reduceIte]))
    ·exact rg [hE, hE, hE, hY, hY, hN (.pk false), hE, hY, hY, hN (.pk false), hE] (⟨[(2, pB (decide (base = 16)))], [], 0⟩) (.cons hg1 (.cons hg1 (.cons hg1 (.cons hg2 (.cons hg2 (.cons hg2 .nil)))))) (.of_eq (by simp only [hg1, hg2, bs, reduceIte]))
  ·refine x_toret ?_
   obtain rfl := Option.some.inj h
   exact ret0 (.bool ((decide (base = 8)) || ((decide (base = 10)) || (decide (base = 16))))) (.refl _) (fun _ => rfl)

theorem c79 {c : Int} {r : Int} (h : ref01_digit c = some r) : CallOK Tryd.prog 79 [.int .u8 c] (.int .i64 r) true := by
  apply ok79
  unfold ref01_digit at h
  refine x_rg (rgn [hE] (⟨[(0, .pv (.int .u8 c))], [], 0⟩)) ?_
  refine x_seq ?_
  refine x_block ?_
  refine x_rg (st2 := ⟨[(0, .pv (.int .u8 c)), (3, pB ((decide (48 ≤ c)) && (decide (c ≤ 57))))], [], 0⟩) ?_ ?_
  ·rcases Bool.eq_false_or_eq_true (decide (48 ≤ c)) with hg1 | hg1
   ·exact rg [hE, hE, hE, hY, hY, hN (.pk true), hE] (⟨[(0, .pv (.int .u8 c)), (3, pB (decide (c ≤ 57)))], [], 0⟩) (.cons hg1 (.cons hg1 (.cons hg1 .nil))) (.of_eq (by simp only [hg1, bs, reduceIte]))
   ·exact rg [hE, hE, hE, hS, hS, hN (.pk false), hE] (⟨[(0, .pv (.int .u8 c)), (3, pB false)], [], 0⟩) (.cons hg1 (.cons hg1 (.cons hg1 .nil))) (.of_eq (by simp only [hg1, bs, reduceIte]))
  ·refine x_cond _ rfl (fun hc3 => ?_) (fun hc3 => ?_)
   ·replace h := ite_t h hc3
    refine x_rg (rgn [hE, hE, hE, hE] (⟨[(2, pI (IntKind.wrap .i64 ((IntKind.wrap .i64 c) - 48)))], [], 0⟩)) ?_
    refine x_toret ?_
    refine x_br ?_
    refine x_tr ?_
    obtain rfl := Option.some.inj h
    exact ret0 (.int .i64 (IntKind.wrap .i64 ((IntKind.wrap .i64 c) - 48))) (.refl _) (fun _ => rfl)
   ·replace h := ite_f h hc3
    refine x_rg (st2 := ⟨[(0, .pv (.int .u8 c)), (13, pB ((decide (97 ≤ c)) && (decide (c ≤ 102))))], [], 0⟩) ?_ ?_
    ·rcases Bool.eq_false_or_eq_true (decide (97 ≤ c)) with hg4 | hg4
     ·exact rg [hE, hE, hE, hY, hY, hN (.pk true), hE] (⟨[(0, .pv (.int .u8 c)), (13, pB (decide (c ≤ 102)))], [], 0⟩) (.cons hg4 (.cons hg4 (.cons hg4 .nil))) (.of_eq (by simp only [hg4, bs, reduceIte]))
     ·exact rg [hE, hE, hE, hS, hS, hN (.pk false), hE] (⟨[(0, .pv (.int .u8 c)), (13, pB false)], [], 0⟩) (.cons hg4 (.cons hg4 (.cons hg4 .nil))) (.of_eq (by simp only [hg4, bs, reduceIte]))
    ·refine x_cond _ rfl (fun hc6 => ?_) (fun hc6 => ?_)
     ·replace h := ite_t h hc6
      refine x_rg (rgn [hE, hE, hE, hE, hE] (⟨[(2, pI (IntKind.wrap .i64 ((IntKind.wrap .i64 ((IntKind.wrap .i64 c) - 97)) + 10)))], [], 0⟩)) ?_
      refine x_toret ?_
      refine x_br ?_
      refine x_tr ?_
      obtain rfl := Option.some.inj h
      exact ret0 (.int .i64 (IntKind.wrap .i64 ((IntKind.wrap .i64 ((IntKind.wrap .i64 c) - 97)) + 10))) (.refl _) (fun _ => rfl)
     ·replace h := ite_f h hc6
      refine kw0 (⟨[], [], 0⟩) ?_
      refine x_skip ?_
      refine x_bn ?_
      refine x_tn ?_
      refine x_rg (rgn [hE] (⟨[(2, pI (-1))], [], 0⟩)) ?_
      refine x_toret ?_
      obtain rfl := Option.some.inj h
      exact ret0 (.int .i64 (-1)) (.refl _) (fun _ => rfl)

theorem c55 {s_ : Str} {base : Int} {most : Int} {r : (Int × Int)} (h : ref01_Parse s_ base most = some r) : CallOK Tryd.prog 55 [.str s_, .int .i64 base, .int .i64 most] (.tup [.int .i64 r.1, .int .i64 r.2]) true := by
  apply ok55
  unfold ref01_Parse at h
  refine x_rg (rgn [hE, hE] (⟨[(0, pS s_), (1, pI base), (2, pI most)], [], 0⟩)) ?_
  refine x_seq ?_
  obtain ⟨x1, hx1, h⟩ := bind_some h
  refine x_rg (st2 := ⟨[(0, pS s_), (1, pI base), (2, pI most), (17, pB ((!x1) || (decide (most < 0))))], [], 0⟩) ?_ ?_
  ·rcases Bool.eq_false_or_eq_true (!x1) with hg2 | hg2
   ·exact rg [hE, hN (.cal [] (.bool x1) true), hE, hE, hS, hS, hN (.pk true)] (⟨[(0, pS s_), (1, pI base), (2, pI most), (17, pB true)], [], 0⟩) (.cons (c78 hx1) (.cons hg2 (.cons hg2 (.cons hg2 .nil)))) (.of_eq (by simp only [hg2, bs, reduceIte]))
   ·exact rg [hE, hN (.cal [] (.bool x1) true), hE, hE, hY, hY, hN (.pk false)] (⟨[(0, pS s_), (1, pI base), (2, pI most), (17, pB (decide (most < 0)))], [], 0⟩) (.cons (c78 hx1) (.cons hg2 (.cons hg2 (.cons hg2 .nil)))) (.of_eq (by simp only [hg2, bs, reduceIte]))
  ·refine x_cond _ rfl (fun hc4 => ?_) (fun hc4 => ?_)
   ·replace h := ite_t h hc4
    refine x_rg (rgn [hE, hE] (⟨[(6, pI 0), (7, pI 1)], [], 0⟩)) ?_
    refine x_toret ?_
    refine x_tr ?_
    obtain rfl := Option.some.inj h
    exact ret0 (.tup [.int .i64 0, .int .i64 1]) (.tup (.cons (.refl _) (.cons (.refl _) .nil))) (fun _ => rfl)
   ·replace h := ite_f h hc4
    refine kw0 (⟨[(0, pS s_), (1, pI base), (2, pI most)], [], 0⟩) ?_
    refine x_skip ?_
    refine x_tn ?_
    refine x_seq ?_
    obtain ⟨t8, ht, h⟩ := bind_some h
    refine x_rg (st2 := ⟨[(0, pS s_), (1, pI base), (2, pI most), (29, pB t8)], [], 0⟩) ?_ ?_
    ·rcases Bool.eq_false_or_eq_true (decide (s_ = [])) with hg5 | hg5
     ·replace ht := ite_t ht hg5
      have e := Option.some.inj ht
      subst e
      exact rg0 [hE, hE, hE, hS, hS, hS, hS, (.u, .e), (.u, .e), (.u, .e), hS, hN (.pk true)] (⟨[(0, pS s_), (1, pI base), (2, pI most), (29, pB true)], [], 0⟩) (.cons hg5 (.cons hg5 (.cons hg5 (.cons hg5 (.cons hg5 (.cons hg5 .nil))))))
     ·replace ht := ite_f ht hg5
      rcases Bool.eq_false_or_eq_true (decide (1 < (List.length s_ : Int))) with hg6 | hg6
      ·replace ht := ite_t ht hg6
       obtain ⟨c7, hc7, ht⟩ := bind_some ht
       have e := Option.some.inj ht
       subst e
       exact rg0 [hE, hE, hE, hY, hY, hY, hY, hY, (.y, (.sAt c7)), hY, (.y, (.pk true)), hN (.pk false)] (⟨[(0, pS s_), (1, pI base), (2, pI most), (29, pB (decide ((c7.toNat : Int) = 48)))], [], 0⟩) (.cons hg5 (.cons hg5 (.cons hg5 (.cons hg5 (.cons hg6 (.cons hg6 (.cons hc7 (.cons hg6 (.cons hg5 (.cons hg6 (.cons hg5 .nil)))))))))))
      ·replace ht := ite_f ht hg6
       have e := Option.some.inj ht
       subst e
       exact rg0 [hE, hE, hE, hY, hY, hY, hY, hS, hS, hS, (.y, (.pk false)), hN (.pk false)] (⟨[(0, pS s_), (1, pI base), (2, pI most), (29, pB false)], [], 0⟩) (.cons hg5 (.cons hg5 (.cons hg5 (.cons hg5 (.cons hg6 (.cons hg6 (.cons hg6 (.cons hg5 (.cons hg6 (.cons hg5 .nil))))))))))
    ·clear ht
     refine x_cond _ rfl (fun hc9 => ?_) (fun hc9 => ?_)
     ·replace h := ite_t h hc9
      refine x_rg (rgn [hE, hE] (⟨[(6, pI 0), (7, pI 5)], [], 0⟩)) ?_
      refine x_toret ?_
      refine x_tr ?_
      obtain rfl := Option.some.inj h
      exact ret0 (.tup [.int .i64 0, .int .i64 5]) (.tup (.cons (.refl _) (.cons (.refl _) .nil))) (fun _ => rfl)
     ·replace h := ite_f h hc9
      refine kw0 (⟨[(0, pS s_), (1, pI base), (2, pI most)], [], 0⟩) ?_
      refine x_skip ?_
      refine x_tn ?_
      refine x_rg (rgn [hE] (⟨[(0, pS s_), (1, pI base), (2, pI most), (8, pI 0)], [], 0⟩)) ?_
      refine x_seq ?_
      refine x_rg (rgn [hE] (⟨[(0, pS s_), (1, pI base), (2, pI most), (8, pI 0), (9, pI 0)], [], 0⟩)) ?_
      refine x_block ?_
      refine kw0 (⟨[(0, pS s_), (1, pI base), (2, pI most), (8, pI 0), (9, pI 0)], [], 0⟩) ?_
      refine x_loop (σ := (Int × Int)) h (fun s => ⟨[(0, pS s_), (1, pI base), (2, pI most), (8, pI s.1), (9, pI s.2)], [], 0⟩) (by kernel_rfl) ?_ ?_
      ·rintro ⟨n, i⟩
       kernel_rfl
      ·rintro ⟨n, i⟩ x21 h hx21
       replace h : ref01_Parse_L21 s_ base most n i = some x21 := h
       unfold ref01_Parse_L21 at h
       refine x_seq ?_
       refine x_rg (rgn [hE, hE, hE, hE] (⟨[(0, pS s_), (1, pI base), (2, pI most), (8, pI n), (9, pI i), (33, pB (decide (i < (List.length s_ : Int))))], [], 0⟩)) ?_
       refine x_cond _ rfl (fun hc22 => ?_) (fun hc22 => ?_)
       ·replace h := ite_t h hc22
        refine kw0 (⟨[(0, pS s_), (1, pI base), (2, pI most), (8, pI n), (9, pI i)], [], 0⟩) ?_
        refine x_skip ?_
        refine x_tn ?_
        refine x_seq ?_
        refine x_block ?_
        obtain ⟨c23, hc23, h⟩ := bind_some h
        obtain ⟨x24, hx24, h⟩ := bind_some h
        refine x_rg (rg0 [hE, hE, hN (.sAt c23), hN (.cal [] (.int .i64 x24) true), hE] (⟨[(0, pS s_), (1, pI base), (2, pI most), (8, pI n), (9, pI i), (10, pI x24)], [], 0⟩) (.cons hc23 (.cons (c79 hx24) .nil))) ?_
        refine x_seq ?_
        obtain ⟨t29, ht, h⟩ := bind_some h
        refine x_rg (st2 := ⟨[(0, pS s_), (1, pI base), (2, pI most), (8, pI n), (9, pI i), (10, pI x24), (60, pB t29)], [], 0⟩) ?_ ?_
        ·rcases Bool.eq_false_or_eq_true (decide (x24 < 0)) with hg25 | hg25
         ·replace ht := ite_t ht hg25
          have e := Option.some.inj ht
          subst e
          exact rg0 [hE, hE, hE, hS, hS, hS, hN (.pk true), hE, hS, hS, hS, hE, hE, hS, hS, hS, hS, hS, hS, hS, hE] (⟨[(0, pS s_), (1, pI base), (2, pI most), (8, pI n), (9, pI i), (10, pI x24), (60, pB true)], [], 0⟩) (.cons hg25 (.cons hg25 (.cons hg25 (.cons hg25 (.cons tt (.cons tt (.cons tt (.cons tt (.cons tt (.cons tt (.cons tt (.cons tt (.cons tt (.cons tt .nil))))))))))))))
         ·replace ht := ite_f ht hg25
          rcases Bool.eq_false_or_eq_true (decide (base ≤ x24)) with hg26 | hg26
          ·replace ht := ite_t ht hg26
           have e := Option.some.inj ht
           subst e
           exact rg0 [hE, hE, hE, hY, hY, hY, hN (.pk false), hE, hS, hS, hS, hN (.pk true), hE, hS, hS, hS, hS, hS, hS, hS, hE] (⟨[(0, pS s_), (1, pI base), (2, pI most), (8, pI n), (9, pI i), (10, pI x24), (60, pB true)], [], 0⟩) (.cons hg25 (.cons hg25 (.cons hg25 (.cons hg25 (.cons hg26 (.cons hg26 (.cons hg26 (.cons hg26 (.cons tt (.cons tt (.cons tt (.cons tt (.cons tt (.cons tt (.cons tt .nil)))))))))))))))
          ·replace ht := ite_f ht hg26
           rcases Bool.eq_false_or_eq_true (decide (most < x24)) with hg27 | hg27
           ·replace ht := ite_t ht hg27
            have e := Option.some.inj ht
            subst e
            exact rg0 [hE, hE, hE, hY, hY, hY, hN (.pk false), hE, hY, hY, hY, hN (.pk false), hE, hS, hS, hS, hS, hS, hS, hS, hN (.pk true)] (⟨[(0, pS s_), (1, pI base), (2, pI most), (8, pI n), (9, pI i), (10, pI x24), (60, pB true)], [], 0⟩) (.cons hg25 (.cons hg25 (.cons hg25 (.cons hg25 (.cons hg26 (.cons hg26 (.cons hg26 (.cons hg26 (.cons hg27 (.cons hg27 (.cons hg27 (.cons hg27 (.cons hg27 (.cons hg27 (.cons hg27 (.cons hg27 .nil))))))))))))))))
           ·replace ht := ite_f ht hg27
            obtain ⟨x28, hx28, ht⟩ := bind_some ht
            have e := Option.some.inj ht
            subst e
            exact rg0 [hE, hE, hE, hY, hY, hY, hN (.pk false), hE, hY, hY, hY, hN (.pk false), hE, hY, hY, hY, hY, hY, (.y, (.dv x28)), hY, hN (.pk false)] (⟨[(0, pS s_), (1, pI base), (2, pI most), (8, pI n), (9, pI i), (10, pI x24), (60, pB (decide (x28 < n)))], [], 0⟩) (.cons hg25 (.cons hg25 (.cons hg25 (.cons hg25 (.cons hg26 (.cons hg26 (.cons hg26 (.cons hg26 (.cons hg27 (.cons hg27 (.cons hg27 (.cons hg27 (.cons hg27 (.cons hg27 (.cons hx28 (.cons hg27 (.cons hg27 .nil)))))))))))))))))
        ·clear ht
         refine x_cond _ rfl (fun hc30 => ?_) (fun hc30 => ?_)
         ·replace h := ite_t h hc30
          refine x_rg (rgn [hE, hE] (⟨[(6, pI 0), (7, pI 5)], [], 0⟩)) ?_
          refine x_toret ?_
          refine x_tr ?_
          refine x_br ?_
          refine x_tr ?_
          refine x_tr ?_
          replace h := done_leaf h hx21
          refine x_br ?_
          refine x_tr ?_
          obtain rfl := Option.some.inj h
          exact ret0 (.tup [.int .i64 0, .int .i64 5]) (.tup (.cons (.refl _) (.cons (.refl _) .nil))) (fun _ => rfl)
         ·replace h := ite_f h hc30
          refine kw0 (⟨[(0, pS s_), (1, pI base), (2, pI most), (8, pI n), (9, pI i), (10, pI x24)], [], 0⟩) ?_
          refine x_skip ?_
          refine x_tn ?_
          refine x_rgt (rgn [hE, hE, hE, hE, hE, hE] (⟨[(0, pS s_), (1, pI base), (2, pI most), (8, pI (IntKind.wrap .i64 ((IntKind.wrap .i64 (n * base)) + x24))), (9, pI i)], [], 0⟩)) ?_
          refine x_bn ?_
          refine x_tn ?_
          refine x_rgt (rgn [hE, hE, hE] (⟨[(0, pS s_), (1, pI base), (2, pI most), (8, pI (IntKind.wrap .i64 ((IntKind.wrap .i64 (n * base)) + x24))), (9, pI (IntKind.wrap .i64 (i + 1)))], [], 0⟩)) ?_
          refine x_tn ?_
          exact ⟨_, (Option.some.inj h).symm, by kernel_rfl⟩
       ·replace h := ite_f h hc22
        refine kw0 (⟨[(8, pI n)], [], 0⟩) ?_
        refine x_exit ?_
        refine x_te ?_
        refine x_te ?_
        replace h := done_leaf h hx21
        refine x_bh ?_
        refine x_tn ?_
        refine x_rg (rgn [hE, hE, hE] (⟨[(6, pI n), (7, pI 0)], [], 0⟩)) ?_
        refine x_toret ?_
        obtain rfl := Option.some.inj h
        exact ret0 (.tup [.int .i64 n, .int .i64 0]) (.tup (.cons (.refl _) (.cons (.refl _) .nil))) (fun _ => rfl)

theorem c26 {s_ : Str} {r : Bool} (h : ref27_Port s_ = some r) : CallOK Tryd.prog 26 [.str s_] (.bool r) true := by
  apply ok26
  unfold ref27_Port at h
  refine x_rg (rgn [hE] (⟨[(0, pS s_)], [], 0⟩)) ?_
  obtain ⟨x1, hx1, h⟩ := bind_some h
  refine x_rg (rg0 [hE, hN (.cal [] (.tup [.int .i64 x1.1, .int .i64 x1.2]) true), hE, hE, hE, hE, hE] (⟨[(3, pI x1.1), (4, pI x1.2)], [], 0⟩) (.cons (c55 hx1) .nil)) ?_
  refine x_rg (st2 := ⟨[(2, pB ((decide (x1.2 = 0)) && (decide (1 ≤ x1.1))))], [], 0⟩) ?_ ?_
  ·rcases Bool.eq_false_or_eq_true (decide (x1.2 = 0)) with hg2 | hg2
   ·exact rg [hE, hE, hE, hY, hY, hN (.pk true), hE] (⟨[(2, pB (decide (1 ≤ x1.1)))], [], 0⟩) (.cons hg2 (.cons hg2 (.cons hg2 .nil))) (.of_eq (by simp only [hg2, bs, reduceIte]))
   ·exact rg [hE, hE, hE, hS, hS, hN (.pk false), hE] (⟨[(2, pB false)], [], 0⟩) (.cons hg2 (.cons hg2 (.cons hg2 .nil))) (.of_eq (by simp only [hg2, bs, reduceIte]))
  ·refine x_toret ?_
   obtain rfl := Option.some.inj h
   exact ret0 (.bool ((decide (x1.2 = 0)) && (decide (1 ≤ x1.1)))) (.refl _) (fun _ => rfl)

theorem c7 {l : (List api_Entry)} {host : Str} {a : api_Addr} {r : Bool} (h : law27_DialSettles l host a = some r) : CallOK Tryd.prog 7 [.sl (some 1) (List.map enc_api_Entry l), .str host, enc_api_Addr a] (.bool r) true := by
  apply ok7
  unfold law27_DialSettles at h
  refine x_rg (rgn [hE, hE] (⟨[(0, pL (some 1) enc_api_Entry l), (1, pS host), (5, .optr 0 0 0)], [(0, some (.p (some 3) [enc_api_Addr a]))], 1⟩)) ?_
  refine x_seq ?_
  obtain ⟨x1, hx1, h⟩ := bind_some h
  obtain ⟨t5, ht, h⟩ := bind_some h
  refine x_rg (st2 := ⟨[(0, pL (some 1) enc_api_Entry l), (1, pS host), (5, .optr 0 0 0), (27, pB t5)], [(0, some (.p (some 3) [enc_api_Addr a]))], 1⟩) ?_ ?_
  ·rcases Bool.eq_false_or_eq_true (!x1) with hg2 | hg2
   ·replace ht := ite_t ht hg2
    have e := Option.some.inj ht
    subst e
    exact rg0 [hE, hN (.cal [] (.bool x1) true), hE, hE, hS, hS, hS, hN (.pk true), hE, hS, hS, hS, hE] (⟨[(0, pL (some 1) enc_api_Entry l), (1, pS host), (5, .optr 0 0 0), (27, pB true)], [(0, some (.p (some 3) [enc_api_Addr a]))], 1⟩) (.cons (c19 hx1) (.cons hg2 (.cons hg2 (.cons hg2 (.cons hg2 (.cons tt (.cons tt (.cons tt .nil))))))))
   ·replace ht := ite_f ht hg2
    rcases Bool.eq_false_or_eq_true (decide (1000 < (List.length host : Int))) with hg3 | hg3
    ·replace ht := ite_t ht hg3
     have e := Option.some.inj ht
     subst e
     exact rg0 [hE, hN (.cal [] (.bool x1) true), hE, hE, hY, hY, hY, hN (.pk false), hE, hS, hS, hS, hN (.pk true)] (⟨[(0, pL (some 1) enc_api_Entry l), (1, pS host), (5, .optr 0 0 0), (27, pB true)], [(0, some (.p (some 3) [enc_api_Addr a]))], 1⟩) (.cons (c19 hx1) (.cons hg2 (.cons hg2 (.cons hg2 (.cons hg2 (.cons hg3 (.cons hg3 (.cons hg3 (.cons hg3 .nil)))))))))
    ·replace ht := ite_f ht hg3
     obtain ⟨x4, hx4, ht⟩ := bind_some ht
     have e := Option.some.inj ht
     subst e
     exact rg0 [hE, hN (.cal [] (.bool x1) true), hE, hE, hY, hY, hY, hN (.pk false), hE, hY, (.y, (.cal [] (.bool x4) true)), hY, hN (.pk false)] (⟨[(0, pL (some 1) enc_api_Entry l), (1, pS host), (5, .optr 0 0 0), (27, pB (!x4))], [(0, some (.p (some 3) [enc_api_Addr a]))], 1⟩) (.cons (c19 hx1) (.cons hg2 (.cons hg2 (.cons hg2 (.cons hg2 (.cons hg3 (.cons hg3 (.cons (c10 hx4) (.cons hg3 (.cons hg3 .nil))))))))))
  ·clear ht
   refine x_cond _ rfl (fun hc6 => ?_) (fun hc6 => ?_)
   ·replace h := ite_t h hc6
    obtain ⟨x7, hx7, h⟩ := bind_some h
    refine x_rg (rg0 [hN (.cal [] (.bool x7) true), hE] (⟨[(6, pB x7)], [], 0⟩) (.cons (c11 hx7) .nil)) ?_
    refine x_toret ?_
    refine x_tr ?_
    obtain rfl := Option.some.inj h
    exact ret0 (.bool x7) (.refl _) (fun _ => rfl)
   ·replace h := ite_f h hc6
    refine kw0 (⟨[(0, pL (some 1) enc_api_Entry l), (1, pS host), (5, .optr 0 0 0)], [(0, some (.p (some 3) [enc_api_Addr a]))], 1⟩) ?_
    refine x_skip ?_
    refine x_tn ?_
    obtain ⟨x8, hx8, h⟩ := bind_some h
    refine x_rg (rg0 [hE, hE, hE, hN (.cal [] (.tup [.usl (some 3) (List.map enc_api_Addr x8.1), .int .i64 x8.2]) true), hE, hE, hE, hE, hE] (⟨[(0, pL (some 1) enc_api_Entry l), (1, pS host), (7, oL 0 enc_api_Addr x8.1), (8, pI x8.2)], [(0, rL (some 3) enc_api_Addr x8.1)], 1⟩) (.cons (c22 hx8) .nil)) ?_
    refine x_seq ?_
    refine x_rg (rgn [hE, hE] (⟨[(0, pL (some 1) enc_api_Entry l), (1, pS host), (7, oL 0 enc_api_Addr x8.1), (37, pB (!decide (x8.2 = 0)))], [(0, rL (some 3) enc_api_Addr x8.1)], 1⟩)) ?_
    refine x_cond _ rfl (fun hc9 => ?_) (fun hc9 => ?_)
    ·replace h := ite_t h hc9
     obtain ⟨t12, ht, h⟩ := bind_some h
     refine x_rg (st2 := ⟨[(6, pB t12)], [], 0⟩) ?_ ?_
     ·rcases Bool.eq_false_or_eq_true (decide ((List.length x8.1 : Int) = 0)) with hg10 | hg10
      ·replace ht := ite_t ht hg10
       obtain ⟨x11, hx11, ht⟩ := bind_some ht
       have e := Option.some.inj ht
       subst e
       exact rg0 (obs := [((((List.map enc_api_Addr x8.1).length : Nat) : Int) = (List.length x8.1 : Int)), ((decide ((List.length x8.1 : Int) = 0)) = true), (CallOK Tryd.prog 11 [] (.bool x11) true), ((decide ((List.length x8.1 : Int) = 0)) = true)]) [hE, hN (.len (List.length x8.1 : Int)), hE, hE, (.y, (.cal [] (.bool x11) true)), hN (.pk true), hE] (⟨[(6, pB x11)], [], 0⟩) (.cons (by rw [List.length_map]) (.cons hg10 (.cons (c11 hx11) (.cons hg10 .nil))))
      ·replace ht := ite_f ht hg10
       have e := Option.some.inj ht
       subst e
       exact rg0 (obs := [((((List.map enc_api_Addr x8.1).length : Nat) : Int) = (List.length x8.1 : Int)), ((decide ((List.length x8.1 : Int) = 0)) = false), ((decide ((List.length x8.1 : Int) = 0)) = false)]) [hE, hN (.len (List.length x8.1 : Int)), hE, hE, hS, hN (.pk false), hE] (⟨[(6, pB false)], [], 0⟩) (.cons (by rw [List.length_map]) (.cons hg10 (.cons hg10 .nil)))
     ·clear ht
      refine x_toret ?_
      refine x_tr ?_
      obtain rfl := Option.some.inj h
      exact ret0 (.bool t12) (.refl _) (fun _ => rfl)
    ·replace h := ite_f h hc9
     refine kw0 (⟨[(0, pL (some 1) enc_api_Entry l), (1, pS host), (7, oL 0 enc_api_Addr x8.1)], [(0, rL (some 3) enc_api_Addr x8.1)], 1⟩) ?_
     refine x_skip ?_
     refine x_tn ?_
     obtain ⟨x13, hx13, h⟩ := bind_some h
     refine x_rg (rg0 [hE, hN (.cal [] (.usl none (List.map PV.str x13)) true), hE] (⟨[(0, pL (some 1) enc_api_Entry l), (1, pS host), (7, oL 0 enc_api_Addr x8.1), (9, oL 1 PV.str x13)], [(0, rL (some 3) enc_api_Addr x8.1), (1, rL none PV.str x13)], 2⟩) (.cons (c24 hx13) .nil)) ?_
     refine x_seq ?_
     refine x_rg (rg0 (obs := [((((List.map enc_api_Addr x8.1).length : Nat) : Int) = (List.length x8.1 : Int))]) [hE, hN (.len (List.length x8.1 : Int)), hE] (⟨[(0, pL (some 1) enc_api_Entry l), (1, pS host), (7, oL 0 enc_api_Addr x8.1), (9, oL 1 PV.str x13), (47, pI (List.length x8.1 : Int)), (48, pI 0)], [(0, rL (some 3) enc_api_Addr x8.1), (1, rL none PV.str x13)], 2⟩) (.cons (by rw [List.length_map]) .nil)) ?_
     refine x_block ?_
     refine kw0 (⟨[(0, pL (some 1) enc_api_Entry l), (1, pS host), (7, oL 0 enc_api_Addr x8.1), (9, oL 1 PV.str x13), (47, pI (List.length x8.1 : Int)), (48, pI 0)], [(0, rL (some 3) enc_api_Addr x8.1), (1, rL none PV.str x13)], 2⟩) ?_
     refine x_loop (σ := Int) h (fun s => ⟨[(0, pL (some 1) enc_api_Entry l), (1, pS host), (7, oL 0 enc_api_Addr x8.1), (9, oL 1 PV.str x13), (47, pI (List.length x8.1 : Int)), (48, pI s)], [(0, rL (some 3) enc_api_Addr x8.1), (1, rL none PV.str x13)], 2⟩) (by kernel_rfl) ?_ ?_
     ·rintro v51
      kernel_rfl
     ·rintro v51 x52 h hx52
      replace h : law27_DialSettles_L52 l host x8 x13 v51 = some x52 := h
      unfold law27_DialSettles_L52 at h
      refine x_rg (rgn [hE] (⟨[(0, pL (some 1) enc_api_Entry l), (1, pS host), (7, oL 0 enc_api_Addr x8.1), (9, oL 1 PV.str x13), (47, pI (List.length x8.1 : Int)), (48, pI v51), (49, pB (decide (v51 < (List.length x8.1 : Int))))], [(0, rL (some 3) enc_api_Addr x8.1), (1, rL none PV.str x13)], 2⟩)) ?_
      refine x_seq ?_
      refine x_cond _ rfl (fun hc53 => ?_) (fun hc53 => ?_)
      ·replace h := ite_t h hc53
       refine kw0 (⟨[(0, pL (some 1) enc_api_Entry l), (1, pS host), (7, oL 0 enc_api_Addr x8.1), (9, oL 1 PV.str x13), (47, pI (List.length x8.1 : Int)), (48, pI v51)], [(0, rL (some 3) enc_api_Addr x8.1), (1, rL none PV.str x13)], 2⟩) ?_
       refine x_skip ?_
       refine x_tn ?_
       refine x_seq ?_
       refine x_block ?_
       refine x_rg (rgn [hE, hE] (⟨[(0, pL (some 1) enc_api_Entry l), (1, pS host), (7, oL 0 enc_api_Addr x8.1), (9, oL 1 PV.str x13), (10, pI v51), (47, pI (List.length x8.1 : Int)), (48, pI v51)], [(0, rL (some 3) enc_api_Addr x8.1), (1, rL none PV.str x13)], 2⟩)) ?_
       refine x_rg (rgn [hE] (⟨[(0, pL (some 1) enc_api_Entry l), (1, pS host), (7, oL 0 enc_api_Addr x8.1), (9, oL 1 PV.str x13), (10, pI v51), (11, pB false), (47, pI (List.length x8.1 : Int)), (48, pI v51)], [(0, rL (some 3) enc_api_Addr x8.1), (1, rL none PV.str x13)], 2⟩)) ?_
       refine x_seq ?_
       refine x_rg (rg0 (obs := [((((List.map PV.str x13).length : Nat) : Int) = (List.length x13 : Int))]) [hE, hN (.len (List.length x13 : Int)), hE] (⟨[(0, pL (some 1) enc_api_Entry l), (1, pS host), (7, oL 0 enc_api_Addr x8.1), (9, oL 1 PV.str x13), (10, pI v51), (11, pB false), (47, pI (List.length x8.1 : Int)), (48, pI v51), (52, pI (List.length x13 : Int)), (53, pI 0)], [(0, rL (some 3) enc_api_Addr x8.1), (1, rL none PV.str x13)], 2⟩) (.cons (by rw [List.length_map]) .nil)) ?_
       refine x_block ?_
       refine kw0 (⟨[(0, pL (some 1) enc_api_Entry l), (1, pS host), (7, oL 0 enc_api_Addr x8.1), (9, oL 1 PV.str x13), (10, pI v51), (11, pB false), (47, pI (List.length x8.1 : Int)), (48, pI v51), (52, pI (List.length x13 : Int)), (53, pI 0)], [(0, rL (some 3) enc_api_Addr x8.1), (1, rL none PV.str x13)], 2⟩) ?_
       refine x_loop (σ := (Bool × Int)) h (fun s => ⟨[(0, pL (some 1) enc_api_Entry l), (1, pS host), (7, oL 0 enc_api_Addr x8.1), (9, oL 1 PV.str x13), (10, pI v51), (11, pB s.1), (47, pI (List.length x8.1 : Int)), (48, pI v51), (52, pI (List.length x13 : Int)), (53, pI s.2)], [(0, rL (some 3) enc_api_Addr x8.1), (1, rL none PV.str x13)], 2⟩) (by kernel_rfl) ?_ ?_
       ·rintro ⟨known, v58⟩
        kernel_rfl
       ·rintro ⟨known, v58⟩ x59 h hx59
        replace h : law27_DialSettles_L59 l host x8 x13 v51 known v58 = some x59 := h
        unfold law27_DialSettles_L59 at h
        refine x_rg (rgn [hE] (⟨[(0, pL (some 1) enc_api_Entry l), (1, pS host), (7, oL 0 enc_api_Addr x8.1), (9, oL 1 PV.str x13), (10, pI v51), (11, pB known), (47, pI (List.length x8.1 : Int)), (48, pI v51), (52, pI (List.length x13 : Int)), (53, pI v58), (54, pB (decide (v58 < (List.length x13 : Int))))], [(0, rL (some 3) enc_api_Addr x8.1), (1, rL none PV.str x13)], 2⟩)) ?_
        refine x_seq ?_
        refine x_cond _ rfl (fun hc60 => ?_) (fun hc60 => ?_)
        ·replace h := ite_t h hc60
         refine kw0 (⟨[(0, pL (some 1) enc_api_Entry l), (1, pS host), (7, oL 0 enc_api_Addr x8.1), (9, oL 1 PV.str x13), (10, pI v51), (11, pB known), (47, pI (List.length x8.1 : Int)), (48, pI v51), (52, pI (List.length x13 : Int)), (53, pI v58)], [(0, rL (some 3) enc_api_Addr x8.1), (1, rL none PV.str x13)], 2⟩) ?_
         refine x_skip ?_
         refine x_tn ?_
         refine x_seq ?_
         refine x_block ?_
         refine x_rg (rgn [hE, hE] (⟨[(0, pL (some 1) enc_api_Entry l), (1, pS host), (7, oL 0 enc_api_Addr x8.1), (9, oL 1 PV.str x13), (10, pI v51), (11, pB known), (12, pI v58), (47, pI (List.length x8.1 : Int)), (48, pI v51), (52, pI (List.length x13 : Int)), (53, pI v58)], [(0, rL (some 3) enc_api_Addr x8.1), (1, rL none PV.str x13)], 2⟩)) ?_
         obtain ⟨t64, ht, h⟩ := bind_some h
         refine x_rgt (st2 := ⟨[(0, pL (some 1) enc_api_Entry l), (1, pS host), (7, oL 0 enc_api_Addr x8.1), (9, oL 1 PV.str x13), (10, pI v51), (11, pB t64), (47, pI (List.length x8.1 : Int)), (48, pI v51), (52, pI (List.length x13 : Int)), (53, pI v58)], [(0, rL (some 3) enc_api_Addr x8.1), (1, rL none PV.str x13)], 2⟩) ?_ ?_
         ·rcases Bool.eq_false_or_eq_true known with hg61 | hg61
          ·replace ht := ite_t ht hg61
           have e := Option.some.inj ht
           subst e
           exact rg0 [hE, hE, hS, hS, hS, hS, hS, hS, hS, hS, hS, hS, hN (.pk true), hE] (⟨[(0, pL (some 1) enc_api_Entry l), (1, pS host), (7, oL 0 enc_api_Addr x8.1), (9, oL 1 PV.str x13), (10, pI v51), (11, pB true), (47, pI (List.length x8.1 : Int)), (48, pI v51), (52, pI (List.length x13 : Int)), (53, pI v58)], [(0, rL (some 3) enc_api_Addr x8.1), (1, rL none PV.str x13)], 2⟩) (.cons hg61 (.cons hg61 (.cons hg61 (.cons hg61 (.cons hg61 (.cons hg61 (.cons hg61 (.cons hg61 (.cons hg61 (.cons hg61 (.cons hg61 .nil)))))))))))
          ·replace ht := ite_f ht hg61
           obtain ⟨x62, hx62, ht⟩ := bind_some ht
           obtain ⟨x63, hx63, ht⟩ := bind_some ht
           have e := Option.some.inj ht
           subst e
           exact rg0 (obs := [(known = false), (known = false), (known = false), (0 ≤ (v58 : Int) ∧ Int.toNat v58 < (List.map PV.str x13).length), (known = false), ((List.map PV.str x13)[(0 + Int.toNat v58)]? = some (.str x62)), (known = false), (known = false), (known = false), (0 ≤ (v51 : Int) ∧ Int.toNat v51 < (List.map enc_api_Addr x8.1).length), (known = false), (known = false), ((List.map enc_api_Addr x8.1)[(0 + Int.toNat v51)]? = some (enc_api_Addr x63)), (known = false), (known = false)]) [hE, hE, hY, hY, (.y, .rAt), (.y, (.ld (.str x62))), hY, hY, (.y, .rAt), hY, (.y, (.ld (enc_api_Addr x63))), hY, hN (.pk false), hE] (⟨[(0, pL (some 1) enc_api_Entry l), (1, pS host), (7, oL 0 enc_api_Addr x8.1), (9, oL 1 PV.str x13), (10, pI v51), (11, pB (decide (x62 = x63.Net))), (47, pI (List.length x8.1 : Int)), (48, pI v51), (52, pI (List.length x13 : Int)), (53, pI v58)], [(0, rL (some 3) enc_api_Addr x8.1), (1, rL none PV.str x13)], 2⟩) (.cons hg61 (.cons hg61 (.cons hg61 (.cons (rAt_ob hx62 (by simp)) (.cons hg61 (.cons (ownAt hx62) (.cons hg61 (.cons hg61 (.cons hg61 (.cons (rAt_ob hx63 (by simp)) (.cons hg61 (.cons hg61 (.cons (ownAt hx63) (.cons hg61 (.cons hg61 .nil)))))))))))))))
         ·clear ht
          refine x_bn ?_
          refine x_tn ?_
          refine x_rgt (rgn [hE, hE] (⟨[(0, pL (some 1) enc_api_Entry l), (1, pS host), (7, oL 0 enc_api_Addr x8.1), (9, oL 1 PV.str x13), (10, pI v51), (11, pB t64), (47, pI (List.length x8.1 : Int)), (48, pI v51), (52, pI (List.length x13 : Int)), (53, pI (IntKind.wrap .i64 (v58 + 1)))], [(0, rL (some 3) enc_api_Addr x8.1), (1, rL none PV.str x13)], 2⟩)) ?_
          refine x_tn ?_
          exact ⟨_, (Option.some.inj h).symm, by kernel_rfl⟩
        ·replace h := ite_f h hc60
         refine kw0 (⟨[(0, pL (some 1) enc_api_Entry l), (1, pS host), (7, oL 0 enc_api_Addr x8.1), (9, oL 1 PV.str x13), (10, pI v51), (11, pB known), (47, pI (List.length x8.1 : Int)), (48, pI v51)], [(0, rL (some 3) enc_api_Addr x8.1), (1, rL none PV.str x13)], 2⟩) ?_
         refine x_exit ?_
         refine x_te ?_
         refine x_te ?_
         replace h := done_map h hx59
         unfold law27_DialSettles_A89 at h
         refine x_bh ?_
         refine x_tn ?_
         refine x_seq ?_
         obtain ⟨t71, ht, h⟩ := bind_some h
         refine x_rg (st2 := ⟨[(0, pL (some 1) enc_api_Entry l), (1, pS host), (7, oL 0 enc_api_Addr x8.1), (9, oL 1 PV.str x13), (10, pI v51), (47, pI (List.length x8.1 : Int)), (48, pI v51), (88, pB t71)], [(0, rL (some 3) enc_api_Addr x8.1), (1, rL none PV.str x13)], 2⟩) ?_ ?_
         ·rcases Bool.eq_false_or_eq_true (!known) with hg65 | hg65
          ·replace ht := ite_t ht hg65
           have e := Option.some.inj ht
           subst e
           exact rg0 [hE, hE, hE, hS, hS, hS, hS, hS, hS, hN (.pk true), hE, hS, hS, hS, hS, hS, hS, hS, hE] (⟨[(0, pL (some 1) enc_api_Entry l), (1, pS host), (7, oL 0 enc_api_Addr x8.1), (9, oL 1 PV.str x13), (10, pI v51), (47, pI (List.length x8.1 : Int)), (48, pI v51), (88, pB true)], [(0, rL (some 3) enc_api_Addr x8.1), (1, rL none PV.str x13)], 2⟩) (.cons hg65 (.cons hg65 (.cons hg65 (.cons hg65 (.cons hg65 (.cons hg65 (.cons hg65 (.cons tt (.cons tt (.cons tt (.cons tt (.cons tt (.cons tt (.cons tt .nil))))))))))))))
          ·replace ht := ite_f ht hg65
           obtain ⟨x66, hx66, ht⟩ := bind_some ht
           obtain ⟨x67, hx67, ht⟩ := bind_some ht
           rcases Bool.eq_false_or_eq_true (!x67) with hg68 | hg68
           ·replace ht := ite_t ht hg68
            have e := Option.some.inj ht
            subst e
            exact rg0 (obs := [((!known) = false), ((!known) = false), ((!known) = false), (0 ≤ (v51 : Int) ∧ Int.toNat v51 < (List.map enc_api_Addr x8.1).length), ((!known) = false), ((List.map enc_api_Addr x8.1)[(0 + Int.toNat v51)]? = some (enc_api_Addr x66)), ((!known) = false), (CallOK Tryd.prog 25 [enc_api_Addr x66] (.bool x67) true), ((!known) = false), ((!known) = false), ((!x67) = true), ((!x67) = true), ((!x67) = true), ((!x67) = true), ((!x67) = true), ((!x67) = true), ((!x67) = true), ((!x67) = true)]) [hE, hE, hE, hY, hY, (.y, .rAt), (.y, (.ld (enc_api_Addr x66))), (.y, (.cal [] (.bool x67) true)), hY, hN (.pk false), hE, hS, hS, hS, hS, hS, hS, hS, hN (.pk true)] (⟨[(0, pL (some 1) enc_api_Entry l), (1, pS host), (7, oL 0 enc_api_Addr x8.1), (9, oL 1 PV.str x13), (10, pI v51), (47, pI (List.length x8.1 : Int)), (48, pI v51), (88, pB true)], [(0, rL (some 3) enc_api_Addr x8.1), (1, rL none PV.str x13)], 2⟩) (.cons hg65 (.cons hg65 (.cons hg65 (.cons (rAt_ob hx66 (by simp)) (.cons hg65 (.cons (ownAt hx66) (.cons hg65 (.cons (c25 hx67) (.cons hg65 (.cons hg65 (.cons hg68 (.cons hg68 (.cons hg68 (.cons hg68 (.cons hg68 (.cons hg68 (.cons hg68 (.cons hg68 .nil))))))))))))))))))
           ·replace ht := ite_f ht hg68
            obtain ⟨x69, hx69, ht⟩ := bind_some ht
            obtain ⟨x70, hx70, ht⟩ := bind_some ht
            have e := Option.some.inj ht
            subst e
            exact rg0 (obs := [((!known) = false), ((!known) = false), ((!known) = false), (0 ≤ (v51 : Int) ∧ Int.toNat v51 < (List.map enc_api_Addr x8.1).length), ((!known) = false), ((List.map enc_api_Addr x8.1)[(0 + Int.toNat v51)]? = some (enc_api_Addr x66)), ((!known) = false), (CallOK Tryd.prog 25 [enc_api_Addr x66] (.bool x67) true), ((!known) = false), ((!known) = false), ((!x67) = false), ((!x67) = false), ((!x67) = false), (0 ≤ (v51 : Int) ∧ Int.toNat v51 < (List.map enc_api_Addr x8.1).length), ((!x67) = false), ((!x67) = false), ((List.map enc_api_Addr x8.1)[(0 + Int.toNat v51)]? = some (enc_api_Addr x69)), ((!x67) = false), (CallOK Tryd.prog 26 [.str x69.Service] (.bool x70) true), ((!x67) = false), ((!x67) = false)]) [hE, hE, hE, hY, hY, (.y, .rAt), (.y, (.ld (enc_api_Addr x66))), (.y, (.cal [] (.bool x67) true)), hY, hN (.pk false), hE, hY, hY, (.y, .rAt), hY, (.y, (.ld (enc_api_Addr x69))), (.y, (.cal [] (.bool x70) true)), hY, hN (.pk false)] (⟨[(0, pL (some 1) enc_api_Entry l), (1, pS host), (7, oL 0 enc_api_Addr x8.1), (9, oL 1 PV.str x13), (10, pI v51), (47, pI (List.length x8.1 : Int)), (48, pI v51), (88, pB (!x70))], [(0, rL (some 3) enc_api_Addr x8.1), (1, rL none PV.str x13)], 2⟩) (.cons hg65 (.cons hg65 (.cons hg65 (.cons (rAt_ob hx66 (by simp)) (.cons hg65 (.cons (ownAt hx66) (.cons hg65 (.cons (c25 hx67) (.cons hg65 (.cons hg65 (.cons hg68 (.cons hg68 (.cons hg68 (.cons (rAt_ob hx69 (by simp)) (.cons hg68 (.cons hg68 (.cons (ownAt hx69) (.cons hg68 (.cons (c26 hx70) (.cons hg68 (.cons hg68 .nil)))))))))))))))))))))
         ·clear ht
          refine x_cond _ rfl (fun hc72 => ?_) (fun hc72 => ?_)
          ·replace h := ite_t h hc72
           refine x_rg (rgn [hE] (⟨[(6, pB false)], [], 0⟩)) ?_
           refine x_toret ?_
           refine x_tr ?_
           refine x_br ?_
           refine x_tr ?_
           refine x_tr ?_
           replace h := done_leaf h hx52
           refine x_br ?_
           refine x_tr ?_
           obtain rfl := Option.some.inj h
           exact ret0 (.bool false) (.refl _) (fun _ => rfl)
          ·replace h := ite_f h hc72
           refine kw0 (⟨[(0, pL (some 1) enc_api_Entry l), (1, pS host), (7, oL 0 enc_api_Addr x8.1), (9, oL 1 PV.str x13), (10, pI v51), (47, pI (List.length x8.1 : Int)), (48, pI v51)], [(0, rL (some 3) enc_api_Addr x8.1), (1, rL none PV.str x13)], 2⟩) ?_
           refine x_skip ?_
           refine x_tn ?_
           refine x_seq ?_
           obtain ⟨x73, hx73, h⟩ := bind_some h
           obtain ⟨t79, ht, h⟩ := bind_some h
           refine x_rg (st2 := ⟨[(0, pL (some 1) enc_api_Entry l), (1, pS host), (7, oL 0 enc_api_Addr x8.1), (9, oL 1 PV.str x13), (10, pI v51), (47, pI (List.length x8.1 : Int)), (48, pI v51), (112, pB t79)], [(0, rL (some 3) enc_api_Addr x8.1), (1, rL none PV.str x13)], 2⟩) ?_ ?_
           ·rcases Bool.eq_false_or_eq_true (!decide (x73.Host = [42])) with hg74 | hg74
            ·replace ht := ite_t ht hg74
             obtain ⟨x75, hx75, ht⟩ := bind_some ht
             rcases Bool.eq_false_or_eq_true (decide (x75.Host = [115, 101, 108, 102])) with hg76 | hg76
             ·replace ht := ite_t ht hg76
              have e := Option.some.inj ht
              subst e
              exact rg0 (obs := [(0 ≤ (v51 : Int) ∧ Int.toNat v51 < (List.map enc_api_Addr x8.1).length), ((List.map enc_api_Addr x8.1)[(0 + Int.toNat v51)]? = some (enc_api_Addr x73)), ((!decide (x73.Host = [42])) = true), ((!decide (x73.Host = [42])) = true), ((!decide (x73.Host = [42])) = true), (0 ≤ (v51 : Int) ∧ Int.toNat v51 < (List.map enc_api_Addr x8.1).length), ((!decide (x73.Host = [42])) = true), ((!decide (x73.Host = [42])) = true), ((List.map enc_api_Addr x8.1)[(0 + Int.toNat v51)]? = some (enc_api_Addr x75)), ((!decide (x73.Host = [42])) = true), ((!decide (x73.Host = [42])) = true), ((decide (x75.Host = [115, 101, 108, 102])) = true), ((decide (x75.Host = [115, 101, 108, 102])) = true), ((decide (x75.Host = [115, 101, 108, 102])) = true), ((decide (x75.Host = [115, 101, 108, 102])) = true), ((decide (x75.Host = [115, 101, 108, 102])) = true), ((decide (x75.Host = [115, 101, 108, 102])) = true), ((decide (x75.Host = [115, 101, 108, 102])) = true), ((decide (x75.Host = [115, 101, 108, 102])) = true), ((!decide (x73.Host = [42])) = true), ((decide (x75.Host = [115, 101, 108, 102])) = true), ((!decide (x73.Host = [42])) = true)]) [hE, hE, hN .rAt, hE, hN (.ld (enc_api_Addr x73)), hE, hE, hY, hY, (.y, .rAt), hY, (.y, (.ld (enc_api_Addr x75))), hY, hY, hS, hS, hS, hS, hS, hS, hS, hS, (.y, (.pk true)), hN (.pk true)] (⟨[(0, pL (some 1) enc_api_Entry l), (1, pS host), (7, oL 0 enc_api_Addr x8.1), (9, oL 1 PV.str x13), (10, pI v51), (47, pI (List.length x8.1 : Int)), (48, pI v51), (112, pB true)], [(0, rL (some 3) enc_api_Addr x8.1), (1, rL none PV.str x13)], 2⟩) (.cons (rAt_ob hx73 (by simp)) (.cons (ownAt hx73) (.cons hg74 (.cons hg74 (.cons hg74 (.cons (rAt_ob hx75 (by simp)) (.cons hg74 (.cons hg74 (.cons (ownAt hx75) (.cons hg74 (.cons hg74 (.cons hg76 (.cons hg76 (.cons hg76 (.cons hg76 (.cons hg76 (.cons hg76 (.cons hg76 (.cons hg76 (.cons hg74 (.cons hg76 (.cons hg74 .nil))))))))))))))))))))))
             ·replace ht := ite_f ht hg76
              obtain ⟨x77, hx77, ht⟩ := bind_some ht
              obtain ⟨x78, hx78, ht⟩ := bind_some ht
              have e := Option.some.inj ht
              subst e
              exact rg0 (obs := [(0 ≤ (v51 : Int) ∧ Int.toNat v51 < (List.map enc_api_Addr x8.1).length), ((List.map enc_api_Addr x8.1)[(0 + Int.toNat v51)]? = some (enc_api_Addr x73)), ((!decide (x73.Host = [42])) = true), ((!decide (x73.Host = [42])) = true), ((!decide (x73.Host = [42])) = true), (0 ≤ (v51 : Int) ∧ Int.toNat v51 < (List.map enc_api_Addr x8.1).length), ((!decide (x73.Host = [42])) = true), ((!decide (x73.Host = [42])) = true), ((List.map enc_api_Addr x8.1)[(0 + Int.toNat v51)]? = some (enc_api_Addr x75)), ((!decide (x73.Host = [42])) = true), ((!decide (x73.Host = [42])) = true), ((decide (x75.Host = [115, 101, 108, 102])) = false), ((decide (x75.Host = [115, 101, 108, 102])) = false), ((decide (x75.Host = [115, 101, 108, 102])) = false), ((decide (x75.Host = [115, 101, 108, 102])) = false), (0 ≤ (v51 : Int) ∧ Int.toNat v51 < (List.map enc_api_Addr x8.1).length), ((decide (x75.Host = [115, 101, 108, 102])) = false), ((decide (x75.Host = [115, 101, 108, 102])) = false), ((List.map enc_api_Addr x8.1)[(0 + Int.toNat v51)]? = some (enc_api_Addr x77)), ((decide (x75.Host = [115, 101, 108, 102])) = false), (CallOK Tryd.prog 27 [.sl (some 1) (List.map enc_api_Entry l), .str x77.Host] (.bool x78) true), ((decide (x75.Host = [115, 101, 108, 102])) = false), ((!decide (x73.Host = [42])) = true), ((decide (x75.Host = [115, 101, 108, 102])) = false), ((!decide (x73.Host = [42])) = true)]) [hE, hE, hN .rAt, hE, hN (.ld (enc_api_Addr x73)), hE, hE, hY, hY, (.y, .rAt), hY, (.y, (.ld (enc_api_Addr x75))), hY, hY, hY, hY, hY, (.y, .rAt), hY, (.y, (.ld (enc_api_Addr x77))), (.y, (.cal [] (.bool x78) true)), hY, (.y, (.pk false)), hN (.pk true)] (⟨[(0, pL (some 1) enc_api_Entry l), (1, pS host), (7, oL 0 enc_api_Addr x8.1), (9, oL 1 PV.str x13), (10, pI v51), (47, pI (List.length x8.1 : Int)), (48, pI v51), (112, pB (!x78))], [(0, rL (some 3) enc_api_Addr x8.1), (1, rL none PV.str x13)], 2⟩) (.cons (rAt_ob hx73 (by simp)) (.cons (ownAt hx73) (.cons hg74 (.cons hg74 (.cons hg74 (.cons (rAt_ob hx75 (by simp)) (.cons hg74 (.cons hg74 (.cons (ownAt hx75) (.cons hg74 (.cons hg74 (.cons hg76 (.cons hg76 (.cons hg76 (.cons hg76 (.cons (rAt_ob hx77 (by simp)) (.cons hg76 (.cons hg76 (.cons (ownAt hx77) (.cons hg76 (.cons (c27 hx78) (.cons hg76 (.cons hg74 (.cons hg76 (.cons hg74 .nil)))))))))))))))))))))))))
            ·replace ht := ite_f ht hg74
             have e := Option.some.inj ht
             subst e
             exact rg0 (obs := [(0 ≤ (v51 : Int) ∧ Int.toNat v51 < (List.map enc_api_Addr x8.1).length), ((List.map enc_api_Addr x8.1)[(0 + Int.toNat v51)]? = some (enc_api_Addr x73)), ((!decide (x73.Host = [42])) = false), ((!decide (x73.Host = [42])) = false), ((!decide (x73.Host = [42])) = false), ((!decide (x73.Host = [42])) = false), ((!decide (x73.Host = [42])) = false), ((!decide (x73.Host = [42])) = false), ((!decide (x73.Host = [42])) = false), ((!decide (x73.Host = [42])) = false), ((!decide (x73.Host = [42])) = false)]) [hE, hE, hN .rAt, hE, hN (.ld (enc_api_Addr x73)), hE, hE, hS, hS, hS, hS, hS, hS, hS, (.u, .e), (.u, .e), (.u, .e), (.u, .e), (.u, .e), (.u, .e), (.u, .e), (.u, .e), hS, hN (.pk false)] (⟨[(0, pL (some 1) enc_api_Entry l), (1, pS host), (7, oL 0 enc_api_Addr x8.1), (9, oL 1 PV.str x13), (10, pI v51), (47, pI (List.length x8.1 : Int)), (48, pI v51), (112, pB false)], [(0, rL (some 3) enc_api_Addr x8.1), (1, rL none PV.str x13)], 2⟩) (.cons (rAt_ob hx73 (by simp)) (.cons (ownAt hx73) (.cons hg74 (.cons hg74 (.cons hg74 (.cons hg74 (.cons hg74 (.cons hg74 (.cons hg74 (.cons hg74 (.cons hg74 .nil)))))))))))
           ·clear ht
            refine x_cond _ rfl (fun hc80 => ?_) (fun hc80 => ?_)
            ·replace h := ite_t h hc80
             refine kw0 (⟨[(0, pL (some 1) enc_api_Entry l), (1, pS host), (7, oL 0 enc_api_Addr x8.1), (9, oL 1 PV.str x13), (47, pI (List.length x8.1 : Int)), (48, pI v51)], [(0, rL (some 3) enc_api_Addr x8.1), (1, rL none PV.str x13)], 2⟩) ?_
             refine x_exit ?_
             refine x_te ?_
             refine x_bh ?_
             refine x_tn ?_
             refine x_rgt (rgn [hE, hE] (⟨[(0, pL (some 1) enc_api_Entry l), (1, pS host), (7, oL 0 enc_api_Addr x8.1), (9, oL 1 PV.str x13), (47, pI (List.length x8.1 : Int)), (48, pI (IntKind.wrap .i64 (v51 + 1)))], [(0, rL (some 3) enc_api_Addr x8.1), (1, rL none PV.str x13)], 2⟩)) ?_
             refine x_tn ?_
             exact ⟨_, (Option.some.inj h).symm, by kernel_rfl⟩
            ·replace h := ite_f h hc80
             refine kw0 (⟨[(0, pL (some 1) enc_api_Entry l), (1, pS host), (7, oL 0 enc_api_Addr x8.1), (9, oL 1 PV.str x13), (10, pI v51), (47, pI (List.length x8.1 : Int)), (48, pI v51)], [(0, rL (some 3) enc_api_Addr x8.1), (1, rL none PV.str x13)], 2⟩) ?_
             refine x_skip ?_
             refine x_tn ?_
             obtain ⟨x81, hx81, h⟩ := bind_some h
             obtain ⟨x82, hx82, h⟩ := bind_some h
             refine x_rg (rg0 (obs := [(0 ≤ (v51 : Int) ∧ Int.toNat v51 < (List.map enc_api_Addr x8.1).length), ((List.map enc_api_Addr x8.1)[(0 + Int.toNat v51)]? = some (enc_api_Addr x81)), (CallOK Tryd.prog 22 [.sl (some 1) (List.map enc_api_Entry l), .str host, enc_api_Addr x81] (.tup [.usl (some 3) (List.map enc_api_Addr x82.1), .int .i64 x82.2]) true)]) [hE, hE, hE, hE, hN .rAt, hN (.ld (enc_api_Addr x81)), hN (.cal [] (.tup [.usl (some 3) (List.map enc_api_Addr x82.1), .int .i64 x82.2]) true), hE, hE, hE, hE, hE] (⟨[(0, pL (some 1) enc_api_Entry l), (1, pS host), (7, oL 0 enc_api_Addr x8.1), (9, oL 1 PV.str x13), (10, pI v51), (13, oL 2 enc_api_Addr x82.1), (14, pI x82.2), (47, pI (List.length x8.1 : Int)), (48, pI v51)], [(0, rL (some 3) enc_api_Addr x8.1), (1, rL none PV.str x13), (2, rL (some 3) enc_api_Addr x82.1)], 3⟩) (.cons (rAt_ob hx81 (by simp)) (.cons (ownAt hx81) (.cons (c22 hx82) .nil)))) ?_
             obtain ⟨t87, ht, h⟩ := bind_some h
             refine x_rg (st2 := ⟨[(0, pL (some 1) enc_api_Entry l), (1, pS host), (7, oL 0 enc_api_Addr x8.1), (9, oL 1 PV.str x13), (47, pI (List.length x8.1 : Int)), (48, pI v51), (139, pB t87)], [(0, rL (some 3) enc_api_Addr x8.1), (1, rL none PV.str x13)], 2⟩) ?_ ?_
             ·rcases Bool.eq_false_or_eq_true (!decide (x82.2 = 0)) with hg83 | hg83
              ·replace ht := ite_t ht hg83
               have e := Option.some.inj ht
               subst e
               exact rg0 [hE, hE, hE, hS, hS, hS, hN (.pk true), hE, hS, hS, hS, hS, hS, hS, hS, hS, hE] (⟨[(0, pL (some 1) enc_api_Entry l), (1, pS host), (7, oL 0 enc_api_Addr x8.1), (9, oL 1 PV.str x13), (47, pI (List.length x8.1 : Int)), (48, pI v51), (139, pB true)], [(0, rL (some 3) enc_api_Addr x8.1), (1, rL none PV.str x13)], 2⟩) (.cons hg83 (.cons hg83 (.cons hg83 (.cons hg83 (.cons tt (.cons tt (.cons tt (.cons tt (.cons tt (.cons tt (.cons tt (.cons tt .nil))))))))))))
              ·replace ht := ite_f ht hg83
               rcases Bool.eq_false_or_eq_true (!decide ((List.length x82.1 : Int) = 1)) with hg84 | hg84
               ·replace ht := ite_t ht hg84
                have e := Option.some.inj ht
                subst e
                exact rg0 (obs := [((!decide (x82.2 = 0)) = false), ((!decide (x82.2 = 0)) = false), ((((List.map enc_api_Addr x82.1).length : Nat) : Int) = (List.length x82.1 : Int)), ((!decide (x82.2 = 0)) = false), ((!decide (x82.2 = 0)) = false), ((!decide ((List.length x82.1 : Int) = 1)) = true), ((!decide ((List.length x82.1 : Int) = 1)) = true), ((!decide ((List.length x82.1 : Int) = 1)) = true), ((!decide ((List.length x82.1 : Int) = 1)) = true), ((!decide ((List.length x82.1 : Int) = 1)) = true), ((!decide ((List.length x82.1 : Int) = 1)) = true), ((!decide ((List.length x82.1 : Int) = 1)) = true), ((!decide ((List.length x82.1 : Int) = 1)) = true), ((!decide ((List.length x82.1 : Int) = 1)) = true)]) [hE, hE, hE, hY, (.y, (.len (List.length x82.1 : Int))), hY, hN (.pk false), hE, hS, hS, hS, hS, hS, hS, hS, hS, hN (.pk true)] (⟨[(0, pL (some 1) enc_api_Entry l), (1, pS host), (7, oL 0 enc_api_Addr x8.1), (9, oL 1 PV.str x13), (47, pI (List.length x8.1 : Int)), (48, pI v51), (139, pB true)], [(0, rL (some 3) enc_api_Addr x8.1), (1, rL none PV.str x13)], 2⟩) (.cons hg83 (.cons hg83 (.cons (by rw [List.length_map]) (.cons hg83 (.cons hg83 (.cons hg84 (.cons hg84 (.cons hg84 (.cons hg84 (.cons hg84 (.cons hg84 (.cons hg84 (.cons hg84 (.cons hg84 .nil))))))))))))))
               ·replace ht := ite_f ht hg84
                obtain ⟨x85, hx85, ht⟩ := bind_some ht
                obtain ⟨x86, hx86, ht⟩ := bind_some ht
                have e := Option.some.inj ht
                subst e
                exact rg0 (obs := [((!decide (x82.2 = 0)) = false), ((!decide (x82.2 = 0)) = false), ((((List.map enc_api_Addr x82.1).length : Nat) : Int) = (List.length x82.1 : Int)), ((!decide (x82.2 = 0)) = false), ((!decide (x82.2 = 0)) = false), ((!decide ((List.length x82.1 : Int) = 1)) = false), ((!decide ((List.length x82.1 : Int) = 1)) = false), (0 ≤ (0 : Int) ∧ Int.toNat 0 < (List.map enc_api_Addr x82.1).length), ((!decide ((List.length x82.1 : Int) = 1)) = false), ((List.map enc_api_Addr x82.1)[(0 + Int.toNat 0)]? = some (enc_api_Addr x85)), ((!decide ((List.length x82.1 : Int) = 1)) = false), ((!decide ((List.length x82.1 : Int) = 1)) = false), ((!decide ((List.length x82.1 : Int) = 1)) = false), (0 ≤ (v51 : Int) ∧ Int.toNat v51 < (List.map enc_api_Addr x8.1).length), ((!decide ((List.length x82.1 : Int) = 1)) = false), ((List.map enc_api_Addr x8.1)[(0 + Int.toNat v51)]? = some (enc_api_Addr x86)), ((!decide ((List.length x82.1 : Int) = 1)) = false), ((!decide ((List.length x82.1 : Int) = 1)) = false)]) [hE, hE, hE, hY, (.y, (.len (List.length x82.1 : Int))), hY, hN (.pk false), hE, hY, (.y, .rAt), (.y, (.ld (enc_api_Addr x85))), hY, hY, (.y, .rAt), (.y, (.ld (enc_api_Addr x86))), hY, hN (.pk false)] (⟨[(0, pL (some 1) enc_api_Entry l), (1, pS host), (7, oL 0 enc_api_Addr x8.1), (9, oL 1 PV.str x13), (47, pI (List.length x8.1 : Int)), (48, pI v51), (139, pB (!(decide (x85.Net = x86.Net) && (decide (x85.Host = x86.Host) && (decide (x85.Service = x86.Service) && true)))))], [(0, rL (some 3) enc_api_Addr x8.1), (1, rL none PV.str x13)], 2⟩) (.cons hg83 (.cons hg83 (.cons (by rw [List.length_map]) (.cons hg83 (.cons hg83 (.cons hg84 (.cons hg84 (.cons (rAt_ob hx85 (by simp)) (.cons hg84 (.cons (ownAt hx85) (.cons hg84 (.cons hg84 (.cons hg84 (.cons (rAt_ob hx86 (by simp)) (.cons hg84 (.cons (ownAt hx86) (.cons hg84 (.cons hg84 .nil))))))))))))))))))
             ·clear ht
              refine x_cond _ rfl (fun hc88 => ?_) (fun hc88 => ?_)
              ·replace h := ite_t h hc88
               refine x_rg (rgn [hE] (⟨[(6, pB false)], [], 0⟩)) ?_
               refine x_toret ?_
               refine x_br ?_
               refine x_tr ?_
               refine x_tr ?_
               replace h := done_leaf h hx52
               refine x_br ?_
               refine x_tr ?_
               obtain rfl := Option.some.inj h
               exact ret0 (.bool false) (.refl _) (fun _ => rfl)
              ·replace h := ite_f h hc88
               refine kw0 (⟨[(0, pL (some 1) enc_api_Entry l), (1, pS host), (7, oL 0 enc_api_Addr x8.1), (9, oL 1 PV.str x13), (47, pI (List.length x8.1 : Int)), (48, pI v51)], [(0, rL (some 3) enc_api_Addr x8.1), (1, rL none PV.str x13)], 2⟩) ?_
               refine x_skip ?_
               refine x_bn ?_
               refine x_tn ?_
               refine x_rgt (rgn [hE, hE] (⟨[(0, pL (some 1) enc_api_Entry l), (1, pS host), (7, oL 0 enc_api_Addr x8.1), (9, oL 1 PV.str x13), (47, pI (List.length x8.1 : Int)), (48, pI (IntKind.wrap .i64 (v51 + 1)))], [(0, rL (some 3) enc_api_Addr x8.1), (1, rL none PV.str x13)], 2⟩)) ?_
               refine x_tn ?_
               exact ⟨_, (Option.some.inj h).symm, by kernel_rfl⟩
      ·replace h := ite_f h hc53
       refine kw0 (⟨[(7, oL 0 enc_api_Addr x8.1)], [(0, rL (some 3) enc_api_Addr x8.1)], 1⟩) ?_
       refine x_exit ?_
       refine x_te ?_
       refine x_te ?_
       replace h := done_map h hx52
       unfold law27_DialSettles_A93 at h
       refine x_bh ?_
       refine x_tn ?_
       obtain ⟨t92, ht, h⟩ := bind_some h
       refine x_rg (st2 := ⟨[(6, pB t92)], [], 0⟩) ?_ ?_
       ·rcases Bool.eq_false_or_eq_true (decide (0 < (List.length x8.1 : Int))) with hg90 | hg90
        ·replace ht := ite_t ht hg90
         obtain ⟨x91, hx91, ht⟩ := bind_some ht
         have e := Option.some.inj ht
         subst e
         exact rg0 (obs := [((((List.map enc_api_Addr x8.1).length : Nat) : Int) = (List.length x8.1 : Int)), ((decide (0 < (List.length x8.1 : Int))) = true), (CallOK Tryd.prog 11 [] (.bool x91) true), ((decide (0 < (List.length x8.1 : Int))) = true)]) [hE, hN (.len (List.length x8.1 : Int)), hE, hE, (.y, (.cal [] (.bool x91) true)), hN (.pk true), hE] (⟨[(6, pB x91)], [], 0⟩) (.cons (by rw [List.length_map]) (.cons hg90 (.cons (c11 hx91) (.cons hg90 .nil))))
        ·replace ht := ite_f ht hg90
         have e := Option.some.inj ht
         subst e
         exact rg0 (obs := [((((List.map enc_api_Addr x8.1).length : Nat) : Int) = (List.length x8.1 : Int)), ((decide (0 < (List.length x8.1 : Int))) = false), ((decide (0 < (List.length x8.1 : Int))) = false)]) [hE, hN (.len (List.length x8.1 : Int)), hE, hE, hS, hN (.pk false), hE] (⟨[(6, pB false)], [], 0⟩) (.cons (by rw [List.length_map]) (.cons hg90 (.cons hg90 .nil)))
       ·clear ht
        refine x_toret ?_
        obtain rfl := Option.some.inj h
        exact ret0 (.bool t92) (.refl _) (fun _ => rfl)

end Go.Proofs.YtphblddgbbgdnaaDoor
