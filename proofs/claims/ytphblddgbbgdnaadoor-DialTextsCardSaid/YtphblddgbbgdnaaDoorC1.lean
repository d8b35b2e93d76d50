/- The functions of the program compute what their plain forms compute; printed by a program of the claim's author. -/
import Derived.Test.YtphblddgbbgdnaaDoorC
import Derived.Test.YtphblddgbbgdnaaDoorS
import Derived.Test.YtphblddgbbgdnaaDoorShelf
import Derived.Test.YtphblddgbbgdnaaDoorVmB
import Derived.Test.YtphblddgbbgdnaaDoorB
namespace Go.Proofs.YtphblddgbbgdnaaDoor
open Go.Vm
set_option autoImplicit false
set_option linter.unusedVariables false
set_option linter.unusedSimpArgs false
set_option maxRecDepth 100000

theorem c12 {s_ : Str} {r : (api_Addr × Int)} (h : dial_Parse s_ = some r) : CallOK Tryd.prog 12 [.str s_] (.tup [enc_api_Addr r.1, .int .i64 r.2]) true := by
  apply ok12
  unfold dial_Parse at h
  refine x_rg (rgn [hE, hE] (⟨[(0, pS s_), (2, .optr 0 0 0)], [(0, some (.p (some 3) [.agg [.str [], .str [], .str []]]))], 1⟩)) ?_
  obtain ⟨x1, hx1, h⟩ := bind_some h
  refine x_rg (rg0 [hE, hN (.cal [] (.usl none (List.map PV.str x1)) true), hE] (⟨[(2, .optr 0 0 0), (4, oL 1 PV.str x1)], [(0, some (.p (some 3) [.agg [.str [], .str [], .str []]])), (1, rL none PV.str x1)], 2⟩) (.cons (c31 hx1) .nil)) ?_
  refine x_seq ?_
  refine x_rg (st2 := ⟨[(2, .optr 0 0 0), (4, oL 1 PV.str x1), (15, pB ((decide ((List.length x1 : Int) < 2)) || (decide (3 < (List.length x1 : Int)))))], [(0, some (.p (some 3) [.agg [.str [], .str [], .str []]])), (1, rL none PV.str x1)], 2⟩) ?_ ?_
  ·rcases Bool.eq_false_or_eq_true (decide ((List.length x1 : Int) < 2)) with hg2 | hg2
   ·exact rg (obs := [((((List.map PV.str x1).length : Nat) : Int) = (List.length x1 : Int)), ((decide ((List.length x1 : Int) < 2)) = true), ((decide ((List.length x1 : Int) < 2)) = true), ((decide ((List.length x1 : Int) < 2)) = true), ((decide ((List.length x1 : Int) < 2)) = true)]) [hE, hN (.len (List.length x1 : Int)), hE, hE, hS, hS, hS, hN (.pk true)] (⟨[(2, .optr 0 0 0), (4, oL 1 PV.str x1), (15, pB true)], [(0, some (.p (some 3) [.agg [.str [], .str [], .str []]])), (1, rL none PV.str x1)], 2⟩) (.cons (by rw [List.length_map]) (.cons hg2 (.cons hg2 (.cons hg2 (.cons hg2 .nil))))) (.of_eq (by simp only [hg2, bs, reduceIte]))
   ·exact rg (obs := [((((List.map PV.str x1).length : Nat) : Int) = (List.length x1 : Int)), ((decide ((List.length x1 : Int) < 2)) = false), ((decide ((List.length x1 : Int) < 2)) = false), ((((List.map PV.str x1).length : Nat) : Int) = (List.length x1 : Int)), ((decide ((List.length x1 : Int) < 2)) = false), ((decide ((List.length x1 : Int) < 2)) = false)]) [hE, hN (.len (List.length x1 : Int)), hE, hE, hY, (.y, (.len (List.length x1 : Int))), hY, hN (.pk false)] (⟨[(2, .optr 0 0 0), (4, oL 1 PV.str x1), (15, pB (decide (3 < (List.length x1 : Int))))], [(0, some (.p (some 3) [.agg [.str [], .str [], .str []]])), (1, rL none PV.str x1)], 2⟩) (.cons (by rw [List.length_map]) (.cons hg2 (.cons hg2 (.cons (by rw [List.length_map]) (.cons hg2 (.cons hg2 .nil)))))) (.of_eq (by simp only [hg2, bs, reduceIte]))
  ·refine x_cond _ rfl (fun hc4 => ?_) (fun hc4 => ?_)
   ·replace h := ite_t h hc4
    refine x_rg (rgn [hE, hE, hE] (⟨[(2, .optr 0 0 0), (3, pI 36)], [(0, some (.p (some 3) [.agg [.str [], .str [], .str []]]))], 1⟩)) ?_
    refine x_toret ?_
    refine x_tr ?_
    obtain rfl := Option.some.inj h
    exact ret0 (.tup [.agg [.str [], .str [], .str []], .int .i64 36]) (.tup (.cons (.refl _) (.cons (.refl _) .nil))) (fun _ => rfl)
   ·replace h := ite_f h hc4
    refine kw0 (⟨[(2, .optr 0 0 0), (4, oL 1 PV.str x1)], [(0, some (.p (some 3) [.agg [.str [], .str [], .str []]])), (1, rL none PV.str x1)], 2⟩) ?_
    refine x_skip ?_
    refine x_tn ?_
    obtain ⟨x5, hx5, h⟩ := bind_some h
    obtain ⟨x6, hx6, h⟩ := bind_some h
    refine x_rg (rg0 (obs := [(0 ≤ (0 : Int) ∧ Int.toNat 0 < (List.map PV.str x1).length), ((List.map PV.str x1)[(0 + Int.toNat 0)]? = some (.str x5)), (0 ≤ (1 : Int) ∧ Int.toNat 1 < (List.map PV.str x1).length), ((List.map PV.str x1)[(0 + Int.toNat 1)]? = some (.str x6))]) [hE, hN .rAt, hN (.ld (.str x5)), hE, hN .rAt, hN (.ld (.str x6)), hE, hE, hE] (⟨[(2, .optr 0 0 0), (4, oL 1 PV.str x1), (5, .optr 2 0 0)], [(0, some (.p (some 3) [.agg [.str [], .str [], .str []]])), (1, rL none PV.str x1), (2, some (.p (some 3) [.agg [.str x5, .str x6, .str []]]))], 3⟩) (.cons (rAt_ob hx5 (by simp)) (.cons (ownAt hx5) (.cons (rAt_ob hx6 (by simp)) (.cons (ownAt hx6) .nil))))) ?_
    refine x_join (τ := Str) (fun t => dial_Parse_K7 x1 x5 x6 t = some r) (fun t => { tm := [(2, .optr 0 0 0), (4, .osl 1 0 (List.map PV.str x1).length), (5, .optr 2 0 0)], hp := [(0, some (.p (some 3) [.agg [.str [], .str [], .str []]])), (1, some (.p none (List.map PV.str x1))), (2, some (.p (some 3) [.agg [.str x5, .str x6, .str t]]))], nx := 3 }) ?_ ?_
    ·rintro p8 h
     replace h : dial_Parse_K7 x1 x5 x6 p8 = some r := h
     unfold dial_Parse_K7 at h
     refine x_seq ?_
     obtain ⟨x9, hx9, h⟩ := bind_some h
     refine x_rg (st2 := ⟨[(2, .optr 0 0 0), (5, .optr 1 0 0), (43, pB ((!x9) || ((decide ((List.length x1 : Int) = 3)) && (decide (p8 = [])))))], [(0, some (.p (some 3) [.agg [.str [], .str [], .str []]])), (1, some (.p (some 3) [.agg [.str x5, .str x6, .str p8]]))], 2⟩) ?_ ?_
     ·rcases Bool.eq_false_or_eq_true (!x9) with hg10 | hg10
      ·exact rg [hE, hN (.cal [] (.bool x9) true), hE, hE, hS, hS, hS, hS, (.u, .e), (.u, .e), (.u, .e), hS, hN (.pk true)] (⟨[(2, .optr 0 0 0), (5, .optr 1 0 0), (43, pB true)], [(0, some (.p (some 3) [.agg [.str [], .str [], .str []]])), (1, some (.p (some 3) [.agg [.str x5, .str x6, .str p8]]))], 2⟩) (.cons (c32 hx9) (.cons hg10 (.cons hg10 (.cons hg10 (.cons hg10 (.cons hg10 (.cons hg10 .nil))))))) (.of_eq (by simp only [hg10, bs, reduceIte]))
      ·rcases Bool.eq_false_or_eq_true (decide ((List.length x1 : Int) = 3)) with hg11 | hg11
       ·exact rg (obs := [(CallOK Tryd.prog 32 [.agg [.str x5, .str x6, .str p8]] (.bool x9) true), ((!x9) = false), ((!x9) = false), ((((List.map PV.str x1).length : Nat) : Int) = (List.length x1 : Int)), ((!x9) = false), ((!x9) = false), ((decide ((List.length x1 : Int) = 3)) = true), ((decide ((List.length x1 : Int) = 3)) = true), ((decide ((List.length x1 : Int) = 3)) = true), ((!x9) = false), ((decide ((List.length x1 : Int) = 3)) = true), ((!x9) = false)]) [hE, hN (.cal [] (.bool x9) true), hE, hE, hY, (.y, (.len (List.length x1 : Int))), hY, hY, hY, hY, hY, (.y, (.pk true)), hN (.pk false)] (⟨[(2, .optr 0 0 0), (5, .optr 1 0 0), (43, pB (decide (p8 = [])))], [(0, some (.p (some 3) [.agg [.str [], .str [], .str []]])), (1, some (.p (some 3) [.agg [.str x5, .str x6, .str p8]]))], 2⟩) (.cons (c32 hx9) (.cons hg10 (.cons hg10 (.cons (by rw [List.length_map]) (.cons hg10 (.cons hg10 (.cons hg11 (.cons hg11 (.cons hg11 (.cons hg10 (.cons hg11 (.cons hg10 .nil)))))))))))) (.of_eq (by simp only [hg10, hg11, bs, reduceIte]))
       ·exact rg (obs := [(CallOK Tryd.prog 32 [.agg [.str x5, .str x6, .str p8]] (.bool x9) true), ((!x9) = false), ((!x9) = false), ((((List.map PV.str x1).length : Nat) : Int) = (List.length x1 : Int)), ((!x9) = false), ((!x9) = false), ((decide ((List.length x1 : Int) = 3)) = false), ((decide ((List.length x1 : Int) = 3)) = false), ((decide ((List.length x1 : Int) = 3)) = false), ((!x9) = false), ((decide ((List.length x1 : Int) = 3)) = false), ((!x9) = false)]) [hE, hN (.cal [] (.bool x9) true), hE, hE, hY, (.y, (.len (List.length x1 : Int))), hY, hY, hS, hS, hS, (.y, (.pk false)), hN (.pk false)] (⟨[(2, .optr 0 0 0), (5, .optr 1 0 0), (43, pB false)], [(0, some (.p (some 3) [.agg [.str [], .str [], .str []]])), (1, some (.p (some 3) [.agg [.str x5, .str x6, .str p8]]))], 2⟩) (.cons (c32 hx9) (.cons hg10 (.cons hg10 (.cons (by rw [List.length_map]) (.cons hg10 (.cons hg10 (.cons hg11 (.cons hg11 (.cons hg11 (.cons hg10 (.cons hg11 (.cons hg10 .nil)))))))))))) (.of_eq (by simp only [hg10, hg11, bs, reduceIte]))
     ·refine x_cond _ rfl (fun hc13 => ?_) (fun hc13 => ?_)
      ·replace h := ite_t h hc13
       refine x_rg (rgn [hE, hE, hE] (⟨[(2, .optr 0 0 0), (3, pI 36)], [(0, some (.p (some 3) [.agg [.str [], .str [], .str []]]))], 1⟩)) ?_
       refine x_toret ?_
       refine x_tr ?_
       obtain rfl := Option.some.inj h
       exact ret0 (.tup [.agg [.str [], .str [], .str []], .int .i64 36]) (.tup (.cons (.refl _) (.cons (.refl _) .nil))) (fun _ => rfl)
      ·replace h := ite_f h hc13
       refine kw0 (⟨[(2, .optr 0 0 0), (5, .optr 1 0 0)], [(0, some (.p (some 3) [.agg [.str [], .str [], .str []]])), (1, some (.p (some 3) [.agg [.str x5, .str x6, .str p8]]))], 2⟩) ?_
       refine x_skip ?_
       refine x_tn ?_
       refine x_rg (rgn [hE, hE, hE] (⟨[(2, .optr 0 0 0), (3, pI 0)], [(0, some (.p (some 3) [.agg [.str x5, .str x6, .str p8]]))], 1⟩)) ?_
       refine x_toret ?_
       obtain rfl := Option.some.inj h
       exact ret0 (.tup [.agg [.str x5, .str x6, .str p8], .int .i64 0]) (.tup (.cons (.refl _) (.cons (.refl _) .nil))) (fun _ => rfl)
    ·refine x_rg (rg0 (obs := [((((List.map PV.str x1).length : Nat) : Int) = (List.length x1 : Int))]) [hE, hN (.len (List.length x1 : Int)), hE] (⟨[(2, .optr 0 0 0), (4, oL 1 PV.str x1), (5, .optr 2 0 0), (26, pB (decide ((List.length x1 : Int) = 3)))], [(0, some (.p (some 3) [.agg [.str [], .str [], .str []]])), (1, rL none PV.str x1), (2, some (.p (some 3) [.agg [.str x5, .str x6, .str []]]))], 3⟩) (.cons (by rw [List.length_map]) .nil)) ?_
     refine x_cond _ rfl (fun hc14 => ?_) (fun hc14 => ?_)
     ·replace h := ite_t h hc14
      obtain ⟨x15, hx15, h⟩ := bind_some h
      refine x_rgt (rg0 (obs := [(0 ≤ (2 : Int) ∧ Int.toNat 2 < (List.map PV.str x1).length), ((List.map PV.str x1)[(0 + Int.toNat 2)]? = some (.str x15))]) [hE, hN .rAt, hN (.ld (.str x15)), hE, hE] (⟨[(2, .optr 0 0 0), (4, oL 1 PV.str x1), (5, .optr 2 0 0)], [(0, some (.p (some 3) [.agg [.str [], .str [], .str []]])), (1, rL none PV.str x1), (2, some (.p (some 3) [.agg [.str x5, .str x6, .str x15]]))], 3⟩) (.cons (rAt_ob hx15 (by simp)) (.cons (ownAt hx15) .nil))) ?_
      refine x_tn ?_
      exact ⟨x15, h, by kernel_rfl⟩
     ·replace h := ite_f h hc14
      refine kw0 (⟨[(2, .optr 0 0 0), (4, oL 1 PV.str x1), (5, .optr 2 0 0)], [(0, some (.p (some 3) [.agg [.str [], .str [], .str []]])), (1, rL none PV.str x1), (2, some (.p (some 3) [.agg [.str x5, .str x6, .str []]]))], 3⟩) ?_
      refine x_skip ?_
      refine x_tn ?_
      exact ⟨[], h, by kernel_rfl⟩

theorem c11 {r : Bool} (h : law27_awake = some r) : CallOK Tryd.prog 11 [] (.bool r) true := by
  apply ok11
  unfold law27_awake at h
  refine x_rg (rgn [hE] (⟨[], [], 0⟩)) ?_
  obtain ⟨x1, hx1, h⟩ := bind_some h
  refine x_rg (rg0 [hN (.cal [] (.tup [.usl (some 1) (List.map enc_api_Entry x1.1), .int .i64 x1.2.1, .int .i64 x1.2.2]) false), hE, hE, hE, hE, hE, hE, hE] (⟨[(1, oL 0 enc_api_Entry x1.1), (2, pI x1.2.1), (3, pI x1.2.2)], [(0, rL (some 1) enc_api_Entry x1.1)], 1⟩) (.cons (c16 hx1) .nil)) ?_
  refine x_seq ?_
  obtain ⟨t6, ht, h⟩ := bind_some h
  refine x_rg (st2 := ⟨[(1, oL 0 enc_api_Entry x1.1), (31, pB t6)], [(0, rL (some 1) enc_api_Entry x1.1)], 1⟩) ?_ ?_
  ·rcases Bool.eq_false_or_eq_true (!decide (x1.2.2 = 0)) with hg2 | hg2
   ·replace ht := ite_t ht hg2
    have e := Option.some.inj ht
    subst e
    exact rg0 [hE, hE, hE, hS, hS, hN (.pk true), hE, hS, hS, hS, hE, hE, hS, hS, hS, hS, hS, hS, hE] (⟨[(1, oL 0 enc_api_Entry x1.1), (31, pB true)], [(0, rL (some 1) enc_api_Entry x1.1)], 1⟩) (.cons hg2 (.cons hg2 (.cons hg2 (.cons tt (.cons tt (.cons tt (.cons tt (.cons tt (.cons tt (.cons tt (.cons tt (.cons tt .nil))))))))))))
   ·replace ht := ite_f ht hg2
    rcases Bool.eq_false_or_eq_true (!decide (x1.2.1 = 0)) with hg3 | hg3
    ·replace ht := ite_t ht hg3
     have e := Option.some.inj ht
     subst e
     exact rg0 [hE, hE, hE, hY, hY, hN (.pk false), hE, hS, hS, hS, hN (.pk true), hE, hS, hS, hS, hS, hS, hS, hE] (⟨[(1, oL 0 enc_api_Entry x1.1), (31, pB true)], [(0, rL (some 1) enc_api_Entry x1.1)], 1⟩) (.cons hg2 (.cons hg2 (.cons hg2 (.cons hg3 (.cons hg3 (.cons hg3 (.cons hg3 (.cons tt (.cons tt (.cons tt (.cons tt (.cons tt (.cons tt .nil)))))))))))))
    ·replace ht := ite_f ht hg3
     rcases Bool.eq_false_or_eq_true (!decide ((List.length x1.1 : Int) = 3)) with hg4 | hg4
     ·replace ht := ite_t ht hg4
      have e := Option.some.inj ht
      subst e
      exact rg0 (obs := [((!decide (x1.2.2 = 0)) = false), ((!decide (x1.2.2 = 0)) = false), ((!decide (x1.2.2 = 0)) = false), ((!decide (x1.2.1 = 0)) = false), ((!decide (x1.2.1 = 0)) = false), ((((List.map enc_api_Entry x1.1).length : Nat) : Int) = (List.length x1.1 : Int)), ((!decide (x1.2.1 = 0)) = false), ((!decide (x1.2.1 = 0)) = false), ((!decide ((List.length x1.1 : Int) = 3)) = true), ((!decide ((List.length x1.1 : Int) = 3)) = true), ((!decide ((List.length x1.1 : Int) = 3)) = true), ((!decide ((List.length x1.1 : Int) = 3)) = true), ((!decide ((List.length x1.1 : Int) = 3)) = true), ((!decide ((List.length x1.1 : Int) = 3)) = true), ((!decide ((List.length x1.1 : Int) = 3)) = true)]) [hE, hE, hE, hY, hY, hN (.pk false), hE, hY, (.y, (.len (List.length x1.1 : Int))), hY, hN (.pk false), hE, hS, hS, hS, hS, hS, hS, hN (.pk true)] (⟨[(1, oL 0 enc_api_Entry x1.1), (31, pB true)], [(0, rL (some 1) enc_api_Entry x1.1)], 1⟩) (.cons hg2 (.cons hg2 (.cons hg2 (.cons hg3 (.cons hg3 (.cons (by rw [List.length_map]) (.cons hg3 (.cons hg3 (.cons hg4 (.cons hg4 (.cons hg4 (.cons hg4 (.cons hg4 (.cons hg4 (.cons hg4 .nil)))))))))))))))
     ·replace ht := ite_f ht hg4
      obtain ⟨x5, hx5, ht⟩ := bind_some ht
      have e := Option.some.inj ht
      subst e
      exact rg0 (obs := [((!decide (x1.2.2 = 0)) = false), ((!decide (x1.2.2 = 0)) = false), ((!decide (x1.2.2 = 0)) = false), ((!decide (x1.2.1 = 0)) = false), ((!decide (x1.2.1 = 0)) = false), ((((List.map enc_api_Entry x1.1).length : Nat) : Int) = (List.length x1.1 : Int)), ((!decide (x1.2.1 = 0)) = false), ((!decide (x1.2.1 = 0)) = false), ((!decide ((List.length x1.1 : Int) = 3)) = false), ((!decide ((List.length x1.1 : Int) = 3)) = false), (0 ≤ (1 : Int) ∧ Int.toNat 1 < (List.map enc_api_Entry x1.1).length), ((!decide ((List.length x1.1 : Int) = 3)) = false), ((!decide ((List.length x1.1 : Int) = 3)) = false), ((List.map enc_api_Entry x1.1)[(0 + Int.toNat 1)]? = some (enc_api_Entry x5)), ((!decide ((List.length x1.1 : Int) = 3)) = false), ((List.length (List.map enc_api_Attr x5.Attrs) : Int) = (List.length x5.Attrs : Int)), ((!decide ((List.length x1.1 : Int) = 3)) = false), ((!decide ((List.length x1.1 : Int) = 3)) = false)]) [hE, hE, hE, hY, hY, hN (.pk false), hE, hY, (.y, (.len (List.length x1.1 : Int))), hY, hN (.pk false), hE, hY, (.y, .rAt), hY, (.y, (.ld (enc_api_Entry x5))), (.y, (.len (List.length x5.Attrs : Int))), hY, hN (.pk false)] (⟨[(1, oL 0 enc_api_Entry x1.1), (31, pB (!decide ((List.length x5.Attrs : Int) = 2)))], [(0, rL (some 1) enc_api_Entry x1.1)], 1⟩) (.cons hg2 (.cons hg2 (.cons hg2 (.cons hg3 (.cons hg3 (.cons (by rw [List.length_map]) (.cons hg3 (.cons hg3 (.cons hg4 (.cons hg4 (.cons (rAt_ob hx5 (by simp)) (.cons hg4 (.cons hg4 (.cons (ownAt hx5) (.cons hg4 (.cons (by rw [List.length_map]) (.cons hg4 (.cons hg4 .nil))))))))))))))))))
  ·clear ht
   refine x_cond _ rfl (fun hc7 => ?_) (fun hc7 => ?_)
   ·replace h := ite_t h hc7
    refine x_rg (rgn [hE] (⟨[(0, pB false)], [], 0⟩)) ?_
    refine x_toret ?_
    refine x_tr ?_
    obtain rfl := Option.some.inj h
    exact ret0 (.bool false) (.refl _) (fun _ => rfl)
   ·replace h := ite_f h hc7
    refine kw0 (⟨[(1, oL 0 enc_api_Entry x1.1)], [(0, rL (some 1) enc_api_Entry x1.1)], 1⟩) ?_
    refine x_skip ?_
    refine x_tn ?_
    obtain ⟨x8, hx8, h⟩ := bind_some h
    refine x_rg (rg0 (obs := [(LesA [.sl (some 1) (List.take (List.map enc_api_Entry x1.1).length (List.drop 0 (List.map enc_api_Entry x1.1))), .str [116, 101, 114, 109], .agg [.str [110, 101, 116], .str [102, 115], .str []]] [.sl (some 1) (List.map enc_api_Entry x1.1), .str [116, 101, 114, 109], .agg [.str [110, 101, 116], .str [102, 115], .str []]]), (CallOK Tryd.prog 22 [.sl (some 1) (List.map enc_api_Entry x1.1), .str [116, 101, 114, 109], .agg [.str [110, 101, 116], .str [102, 115], .str []]] (.tup [.usl (some 3) (List.map enc_api_Addr x8.1), .int .i64 x8.2]) true), (0 + (List.map enc_api_Entry x1.1).length ≤ List.length (List.map enc_api_Entry x1.1))]) [hE, hE, hN (.call [] [.sl (some 1) (List.map enc_api_Entry x1.1), .str [116, 101, 114, 109], .agg [.str [110, 101, 116], .str [102, 115], .str []]] (.tup [.usl (some 3) (List.map enc_api_Addr x8.1), .int .i64 x8.2]) true), hE, hE, hE, hE, hE] (⟨[(3, pI x8.2), (4, oL 0 enc_api_Addr x8.1)], [(0, rL (some 3) enc_api_Addr x8.1)], 1⟩) (.cons (.cons (.of_eq (by rw [List.drop_zero, List.take_length])) (.cons (.refl _) (.cons (.refl _) .nil))) (.cons (c22 hx8) (.cons (by simp) .nil)))) ?_
    refine x_seq ?_
    refine x_rg (st2 := ⟨[(4, oL 0 enc_api_Addr x8.1), (44, pB ((!decide (x8.2 = 0)) || (!decide ((List.length x8.1 : Int) = 1))))], [(0, rL (some 3) enc_api_Addr x8.1)], 1⟩) ?_ ?_
    ·rcases Bool.eq_false_or_eq_true (!decide (x8.2 = 0)) with hg9 | hg9
     ·exact rg [hE, hE, hE, hS, hS, hS, hN (.pk true)] (⟨[(4, oL 0 enc_api_Addr x8.1), (44, pB true)], [(0, rL (some 3) enc_api_Addr x8.1)], 1⟩) (.cons hg9 (.cons hg9 (.cons hg9 (.cons hg9 .nil)))) (.of_eq (by simp only [hg9, bs, reduceIte]))
     ·exact rg (obs := [((!decide (x8.2 = 0)) = false), ((!decide (x8.2 = 0)) = false), ((((List.map enc_api_Addr x8.1).length : Nat) : Int) = (List.length x8.1 : Int)), ((!decide (x8.2 = 0)) = false), ((!decide (x8.2 = 0)) = false)]) [hE, hE, hE, hY, (.y, (.len (List.length x8.1 : Int))), hY, hN (.pk false)] (⟨[(4, oL 0 enc_api_Addr x8.1), (44, pB (!decide ((List.length x8.1 : Int) = 1)))], [(0, rL (some 3) enc_api_Addr x8.1)], 1⟩) (.cons hg9 (.cons hg9 (.cons (by rw [List.length_map]) (.cons hg9 (.cons hg9 .nil))))) (.of_eq (by simp only [hg9, bs, reduceIte]))
    ·refine x_cond _ rfl (fun hc11 => ?_) (fun hc11 => ?_)
     ·replace h := ite_t h hc11
      refine x_rg (rgn [hE] (⟨[(0, pB false)], [], 0⟩)) ?_
      refine x_toret ?_
      refine x_tr ?_
      obtain rfl := Option.some.inj h
      exact ret0 (.bool false) (.refl _) (fun _ => rfl)
     ·replace h := ite_f h hc11
      refine kw0 (⟨[(4, oL 0 enc_api_Addr x8.1)], [(0, rL (some 3) enc_api_Addr x8.1)], 1⟩) ?_
      refine x_skip ?_
      refine x_tn ?_
      obtain ⟨x12, hx12, h⟩ := bind_some h
      obtain ⟨x13, hx13, h⟩ := bind_some h
      refine x_rg (rg0 (obs := [(0 ≤ (0 : Int) ∧ Int.toNat 0 < (List.map enc_api_Addr x8.1).length), ((List.map enc_api_Addr x8.1)[(0 + Int.toNat 0)]? = some (enc_api_Addr x12)), (CallOK Tryd.prog 14 [enc_api_Addr x12] (.tup [.str x13.1, .int .i64 x13.2]) true)]) [hE, hN .rAt, hN (.ld (enc_api_Addr x12)), hN (.cal [] (.tup [.str x13.1, .int .i64 x13.2]) true), hE, hE, hE, hE, hE] (⟨[(3, pI x13.2), (4, oL 0 enc_api_Addr x8.1), (5, pS x13.1)], [(0, rL (some 3) enc_api_Addr x8.1)], 1⟩) (.cons (rAt_ob hx12 (by simp)) (.cons (ownAt hx12) (.cons (c14 hx13) .nil)))) ?_
      obtain ⟨x14, hx14, h⟩ := bind_some h
      refine x_rg (rg0 [hN (.cal [] (.tup [enc_api_Addr x14.1, .int .i64 x14.2]) true), hE, hE, hE, hE, hE, hE] (⟨[(3, pI x13.2), (4, oL 0 enc_api_Addr x8.1), (5, pS x13.1), (6, .optr 1 0 0), (7, pI x14.2)], [(0, rL (some 3) enc_api_Addr x8.1), (1, some (.p (some 3) [enc_api_Addr x14.1]))], 2⟩) (.cons (c12 hx14) .nil)) ?_
      obtain ⟨t19, ht, h⟩ := bind_some h
      refine x_rg (st2 := ⟨[(0, pB t19)], [], 0⟩) ?_ ?_
      ·rcases Bool.eq_false_or_eq_true (decide (x13.1 = [116, 99, 112, 33, 102, 115, 33, 53, 54, 52])) with hg15 | hg15
       ·replace ht := ite_t ht hg15
        rcases Bool.eq_false_or_eq_true (decide (x13.2 = 0)) with hg16 | hg16
        ·replace ht := ite_t ht hg16
         obtain ⟨x17, hx17, ht⟩ := bind_some ht
         rcases Bool.eq_false_or_eq_true (decide (x14.1.Net = x17.Net) && (decide (x14.1.Host = x17.Host) && (decide (x14.1.Service = x17.Service) && true))) with hg18 | hg18
         ·replace ht := ite_t ht hg18
          have e := Option.some.inj ht
          subst e
          exact rg0 (obs := [((decide (x13.1 = [116, 99, 112, 33, 102, 115, 33, 53, 54, 52])) = true), ((decide (x13.1 = [116, 99, 112, 33, 102, 115, 33, 53, 54, 52])) = true), ((decide (x13.1 = [116, 99, 112, 33, 102, 115, 33, 53, 54, 52])) = true), ((decide (x13.2 = 0)) = true), ((decide (x13.2 = 0)) = true), ((decide (x13.2 = 0)) = true), (0 ≤ (0 : Int) ∧ Int.toNat 0 < (List.map enc_api_Addr x8.1).length), ((decide (x13.2 = 0)) = true), ((List.map enc_api_Addr x8.1)[(0 + Int.toNat 0)]? = some (enc_api_Addr x17)), ((decide (x13.2 = 0)) = true), ((decide (x13.2 = 0)) = true), ((decide (x14.1.Net = x17.Net) && (decide (x14.1.Host = x17.Host) && (decide (x14.1.Service = x17.Service) && true))) = true), ((decide (x14.1.Net = x17.Net) && (decide (x14.1.Host = x17.Host) && (decide (x14.1.Service = x17.Service) && true))) = true), ((decide (x14.1.Net = x17.Net) && (decide (x14.1.Host = x17.Host) && (decide (x14.1.Service = x17.Service) && true))) = true)]) [hE, hE, hE, hY, hY, hN (.pk true), hE, hY, hY, (.y, .rAt), (.y, (.ld (enc_api_Addr x17))), hY, hN (.pk true), hE, hY, hY, hN (.pk true), hE] (⟨[(0, pB (decide (x14.2 = 0)))], [], 0⟩) (.cons hg15 (.cons hg15 (.cons hg15 (.cons hg16 (.cons hg16 (.cons hg16 (.cons (rAt_ob hx17 (by simp)) (.cons hg16 (.cons (ownAt hx17) (.cons hg16 (.cons hg16 (.cons hg18 (.cons hg18 (.cons hg18 .nil))))))))))))))
         ·replace ht := ite_f ht hg18
          have e := Option.some.inj ht
          subst e
          exact rg0 (obs := [((decide (x13.1 = [116, 99, 112, 33, 102, 115, 33, 53, 54, 52])) = true), ((decide (x13.1 = [116, 99, 112, 33, 102, 115, 33, 53, 54, 52])) = true), ((decide (x13.1 = [116, 99, 112, 33, 102, 115, 33, 53, 54, 52])) = true), ((decide (x13.2 = 0)) = true), ((decide (x13.2 = 0)) = true), ((decide (x13.2 = 0)) = true), (0 ≤ (0 : Int) ∧ Int.toNat 0 < (List.map enc_api_Addr x8.1).length), ((decide (x13.2 = 0)) = true), ((List.map enc_api_Addr x8.1)[(0 + Int.toNat 0)]? = some (enc_api_Addr x17)), ((decide (x13.2 = 0)) = true), ((decide (x13.2 = 0)) = true), ((decide (x14.1.Net = x17.Net) && (decide (x14.1.Host = x17.Host) && (decide (x14.1.Service = x17.Service) && true))) = false), ((decide (x14.1.Net = x17.Net) && (decide (x14.1.Host = x17.Host) && (decide (x14.1.Service = x17.Service) && true))) = false), ((decide (x14.1.Net = x17.Net) && (decide (x14.1.Host = x17.Host) && (decide (x14.1.Service = x17.Service) && true))) = false)]) [hE, hE, hE, hY, hY, hN (.pk true), hE, hY, hY, (.y, .rAt), (.y, (.ld (enc_api_Addr x17))), hY, hN (.pk true), hE, hS, hS, hN (.pk false), hE] (⟨[(0, pB false)], [], 0⟩) (.cons hg15 (.cons hg15 (.cons hg15 (.cons hg16 (.cons hg16 (.cons hg16 (.cons (rAt_ob hx17 (by simp)) (.cons hg16 (.cons (ownAt hx17) (.cons hg16 (.cons hg16 (.cons hg18 (.cons hg18 (.cons hg18 .nil))))))))))))))
        ·replace ht := ite_f ht hg16
         have e := Option.some.inj ht
         subst e
         exact rg0 (obs := [((decide (x13.1 = [116, 99, 112, 33, 102, 115, 33, 53, 54, 52])) = true), ((decide (x13.1 = [116, 99, 112, 33, 102, 115, 33, 53, 54, 52])) = true), ((decide (x13.1 = [116, 99, 112, 33, 102, 115, 33, 53, 54, 52])) = true), ((decide (x13.2 = 0)) = false), ((decide (x13.2 = 0)) = false), ((decide (x13.2 = 0)) = false), ((decide (x13.2 = 0)) = false), ((decide (x13.2 = 0)) = false), ((decide (x13.2 = 0)) = false), (false = false), (false = false)]) [hE, hE, hE, hY, hY, hN (.pk true), hE, hS, hS, hS, hS, hS, hN (.pk false), hE, hS, hS, hE, hE] (⟨[(0, pB false)], [], 0⟩) (.cons hg15 (.cons hg15 (.cons hg15 (.cons hg16 (.cons hg16 (.cons hg16 (.cons hg16 (.cons hg16 (.cons hg16 (.cons rfl (.cons rfl .nil)))))))))))
       ·replace ht := ite_f ht hg15
        have e := Option.some.inj ht
        subst e
        exact rg0 (obs := [((decide (x13.1 = [116, 99, 112, 33, 102, 115, 33, 53, 54, 52])) = false), ((decide (x13.1 = [116, 99, 112, 33, 102, 115, 33, 53, 54, 52])) = false), ((decide (x13.1 = [116, 99, 112, 33, 102, 115, 33, 53, 54, 52])) = false), (false = false), (false = false), (false = false), (false = false), (false = false), (false = false), (false = false)]) [hE, hE, hE, hS, hS, hN (.pk false), hE, hS, hS, hS, hS, hS, hE, hE, hS, hS, hE, hE] (⟨[(0, pB false)], [], 0⟩) (.cons hg15 (.cons hg15 (.cons hg15 (.cons rfl (.cons rfl (.cons rfl (.cons rfl (.cons rfl (.cons rfl (.cons rfl .nil))))))))))
      ·clear ht
       refine x_toret ?_
       obtain rfl := Option.some.inj h
       exact ret0 (.bool t19) (.refl _) (fun _ => rfl)

theorem c33 {s_ : Str} {r : (List Str)} (h : ref27_parts s_ = some r) : CallOK Tryd.prog 33 [.str s_] (.usl none (List.map PV.str r)) true := by
  apply ok33
  unfold ref27_parts at h
  refine x_rg (rgn [hE] (⟨[(0, pS s_)], [], 0⟩)) ?_
  refine x_rg (st2 := { tm := [(0, .pv (.str s_)), (3, .osl 0 0 (List.map PV.str ([] : List Str)).length)], hp := [(0, some (.p none (List.map PV.str ([] : List Str))))], nx := 1 }) (rg [hE] ({ tm := [(0, .pv (.str s_)), (3, .pv (.nilsl))], hp := [], nx := 0 }) .nil ((Sub.keep (ks := [0, 3]) (st := ownSt 3 none ({ tm := [(0, .pv (.str s_)), (3, .pv (.nilsl))], hp := [], nx := 0 })) (st' := { tm := [(0, .pv (.str s_)), (3, .osl 0 0 (List.map PV.str ([] : List Str)).length)], hp := [(0, some (.p none (List.map PV.str ([] : List Str))))], nx := 1 }) (by kernel_rfl)).trans (own_sound 3 none ({ tm := [(0, .pv (.str s_)), (3, .pv (.nilsl))], hp := [], nx := 0 })))) ?_
  refine x_rg (rgn [hE] (⟨[(0, pS s_), (3, oL 0 PV.str ([] : List Str)), (4, pI 0)], [(0, rL none PV.str ([] : List Str))], 1⟩)) ?_
  refine x_seq ?_
  refine x_rg (rgn [hE] (⟨[(0, pS s_), (3, oL 0 PV.str ([] : List Str)), (4, pI 0), (5, pI 0)], [(0, rL none PV.str ([] : List Str))], 1⟩)) ?_
  refine x_block ?_
  refine kw0 (⟨[(0, pS s_), (3, oL 0 PV.str ([] : List Str)), (4, pI 0), (5, pI 0)], [(0, rL none PV.str ([] : List Str))], 1⟩) ?_
  refine x_loop (σ := (Int × Int × (List Str))) h (fun s => ⟨[(0, pS s_), (3, oL 0 PV.str s.2.2), (4, pI s.1), (5, pI s.2.1)], [(0, rL none PV.str s.2.2)], 1⟩) (by kernel_rfl) ?_ ?_
  ·rintro ⟨from_, i, out⟩
   kernel_rfl
  ·rintro ⟨from_, i, out⟩ x11 h hx11
   replace h : ref27_parts_L11 s_ from_ i out = some x11 := h
   unfold ref27_parts_L11 at h
   refine x_seq ?_
   refine x_rg (rgn [hE, hE, hE, hE] (⟨[(0, pS s_), (3, oL 0 PV.str out), (4, pI from_), (5, pI i), (9, pB (decide (i ≤ (List.length s_ : Int))))], [(0, rL none PV.str out)], 1⟩)) ?_
   refine x_cond _ rfl (fun hc12 => ?_) (fun hc12 => ?_)
   ·replace h := ite_t h hc12
    refine kw0 (⟨[(0, pS s_), (3, oL 0 PV.str out), (4, pI from_), (5, pI i)], [(0, rL none PV.str out)], 1⟩) ?_
    refine x_skip ?_
    refine x_tn ?_
    refine x_seq ?_
    refine x_block ?_
    obtain ⟨t15, ht, h⟩ := bind_some h
    refine x_rg (st2 := ⟨[(0, pS s_), (3, oL 0 PV.str out), (4, pI from_), (5, pI i), (21, pB t15)], [(0, rL none PV.str out)], 1⟩) ?_ ?_
    ·rcases Bool.eq_false_or_eq_true (decide (i = (List.length s_ : Int))) with hg13 | hg13
     ·replace ht := ite_t ht hg13
      have e := Option.some.inj ht
      subst e
      exact rg0 [hE, hE, hE, hE, hE, hS, hS, hS, hS, hN (.pk true)] (⟨[(0, pS s_), (3, oL 0 PV.str out), (4, pI from_), (5, pI i), (21, pB true)], [(0, rL none PV.str out)], 1⟩) (.cons hg13 (.cons hg13 (.cons hg13 (.cons hg13 (.cons hg13 .nil)))))
     ·replace ht := ite_f ht hg13
      obtain ⟨c14, hc14, ht⟩ := bind_some ht
      have e := Option.some.inj ht
      subst e
      exact rg0 [hE, hE, hE, hE, hE, hY, hY, (.y, (.sAt c14)), hY, hN (.pk false)] (⟨[(0, pS s_), (3, oL 0 PV.str out), (4, pI from_), (5, pI i), (21, pB (decide ((c14.toNat : Int) = 33)))], [(0, rL none PV.str out)], 1⟩) (.cons hg13 (.cons hg13 (.cons hg13 (.cons hc14 (.cons hg13 (.cons hg13 .nil))))))
    ·clear ht
     refine x_cond _ rfl (fun hc16 => ?_) (fun hc16 => ?_)
     ·replace h := ite_t h hc16
      obtain ⟨x17, hx17, h⟩ := bind_some h
      obtain ⟨x18, hx18, h⟩ := bind_some h
      refine x_rg (rg0 (obs := [(cut s_ from_ i = some x17), (List.take (List.map PV.str out).length (List.map PV.str out) ++ List.take 1 (List.drop 0 ([.str x17] : List PV)) = (List.map PV.str x18)), (List.length (List.map PV.str x18) * 16 ≤ 140737488355328), (List.length (List.map PV.str x18) ≤ 9223372036854775807), ((List.map PV.str out).length ≤ List.length (List.map PV.str out)), (0 + 1 ≤ List.length ([.str x17] : List PV))]) [hE, hE, hE, hE, hN (.cutS x17), hE, hN (.app (List.map PV.str x18)), hE] (⟨[(0, pS s_), (3, oL 0 PV.str x18), (5, pI i)], [(0, rL none PV.str x18)], 1⟩) (.cons hx17 (.cons (app_ob hx18 (.all _) (.rfl _)) (.cons (by rw [List.length_map]; exact (appL_ok hx18).2.1) (.cons (by rw [List.length_map]; exact (appL_ok hx18).2.2) (.cons (Nat.le_refl _) (.cons (by simp) .nil))))))) ?_
      refine x_rgt (rgn [hE, hE, hE] (⟨[(0, pS s_), (3, oL 0 PV.str x18), (4, pI (IntKind.wrap .i64 (i + 1))), (5, pI i)], [(0, rL none PV.str x18)], 1⟩)) ?_
      refine x_bn ?_
      refine x_tn ?_
      refine x_rgt (rgn [hE, hE, hE] (⟨[(0, pS s_), (3, oL 0 PV.str x18), (4, pI (IntKind.wrap .i64 (i + 1))), (5, pI (IntKind.wrap .i64 (i + 1)))], [(0, rL none PV.str x18)], 1⟩)) ?_
      refine x_tn ?_
      exact ⟨_, (Option.some.inj h).symm, by kernel_rfl⟩
     ·replace h := ite_f h hc16
      refine kw0 (⟨[(0, pS s_), (3, oL 0 PV.str out), (4, pI from_), (5, pI i)], [(0, rL none PV.str out)], 1⟩) ?_
      refine x_skip ?_
      refine x_bn ?_
      refine x_tn ?_
      refine x_rgt (rgn [hE, hE, hE] (⟨[(0, pS s_), (3, oL 0 PV.str out), (4, pI from_), (5, pI (IntKind.wrap .i64 (i + 1)))], [(0, rL none PV.str out)], 1⟩)) ?_
      refine x_tn ?_
      exact ⟨_, (Option.some.inj h).symm, by kernel_rfl⟩
   ·replace h := ite_f h hc12
    refine kw0 (⟨[(3, oL 0 PV.str out)], [(0, rL none PV.str out)], 1⟩) ?_
    refine x_exit ?_
    refine x_te ?_
    refine x_te ?_
    replace h := done_leaf h hx11
    refine x_bh ?_
    refine x_tn ?_
    refine x_rg (rgn [hE, hE] (⟨[(2, oL 0 PV.str out)], [(0, rL none PV.str out)], 1⟩)) ?_
    refine x_toret ?_
    obtain rfl := Option.some.inj h
    exact x_ret (.usl none (List.take (List.map PV.str out).length (List.map PV.str out))) [0] [(List.map PV.str out).length ≤ List.length (List.map PV.str out)] (by kernel_rfl) (.cons (Nat.le_refl _) .nil) (by decide) (.of_eq (by rw [List.take_length])) (fun _ => (usl_ns (sh := none) (fun _ => rfl)))

theorem c54 {s_ : Str} {more : Str} {most : Int} {r : Bool} (h : ref27_letters s_ more most = some r) : CallOK Tryd.prog 54 [.str s_, .str more, .int .i64 most] (.bool r) true := by
  apply ok54
  unfold ref27_letters at h
  refine x_rg (rgn [hE] (⟨[(0, pS s_), (1, pS more), (2, pI most)], [], 0⟩)) ?_
  refine x_seq ?_
  refine x_rg (rgn [hE] (⟨[(0, pS s_), (1, pS more), (2, pI most), (7, pI 0)], [], 0⟩)) ?_
  refine x_block ?_
  refine kw0 (⟨[(0, pS s_), (1, pS more), (2, pI most), (7, pI 0)], [], 0⟩) ?_
  refine x_loop (σ := Int) h (fun s => ⟨[(0, pS s_), (1, pS more), (2, pI most), (7, pI s)], [], 0⟩) (by kernel_rfl) ?_ ?_
  ·rintro i
   kernel_rfl
  ·rintro i x29 h hx29
   replace h : ref27_letters_L29 s_ more most i = some x29 := h
   unfold ref27_letters_L29 at h
   refine x_seq ?_
   refine x_rg (rgn [hE, hE, hE, hE] (⟨[(0, pS s_), (1, pS more), (2, pI most), (7, pI i), (13, pB (decide (i < (List.length s_ : Int))))], [], 0⟩)) ?_
   refine x_cond _ rfl (fun hc30 => ?_) (fun hc30 => ?_)
   ·replace h := ite_t h hc30
    refine kw0 (⟨[(0, pS s_), (1, pS more), (2, pI most), (7, pI i)], [], 0⟩) ?_
    refine x_skip ?_
    refine x_tn ?_
    refine x_seq ?_
    refine x_block ?_
    obtain ⟨c31, hc31, h⟩ := bind_some h
    obtain ⟨t41, ht, h⟩ := bind_some h
    refine x_rg (st2 := ⟨[(0, pS s_), (1, pS more), (2, pI most), (7, pI i), (8, pB t41)], [], 0⟩) ?_ ?_
    ·rcases Bool.eq_false_or_eq_true (decide (97 ≤ (c31.toNat : Int))) with hg32 | hg32
     ·replace ht := ite_t ht hg32
      obtain ⟨c33, hc33, ht⟩ := bind_some ht
      rcases Bool.eq_false_or_eq_true (decide ((c33.toNat : Int) ≤ 122)) with hg34 | hg34
      ·replace ht := ite_t ht hg34
       have e := Option.some.inj ht
       subst e
       exact rg0 [hE, hE, hN (.sAt c31), hE, hE, hY, hY, (.y, (.sAt c33)), hY, hN (.pk true), hE, hS, hS, hS, hS, hS, (.u, .e), (.u, .e), (.u, .e), (.u, .e), hS, hN (.pk true), hE] (⟨[(0, pS s_), (1, pS more), (2, pI most), (7, pI i), (8, pB true)], [], 0⟩) (.cons hc31 (.cons hg32 (.cons hg32 (.cons hg32 (.cons hc33 (.cons hg32 (.cons hg32 (.cons hg34 (.cons hg34 (.cons hg34 (.cons hg34 (.cons hg34 (.cons hg34 (.cons hg34 .nil))))))))))))))
      ·replace ht := ite_f ht hg34
       obtain ⟨c35, hc35, ht⟩ := bind_some ht
       rcases Bool.eq_false_or_eq_true (decide (48 ≤ (c35.toNat : Int))) with hg36 | hg36
       ·replace ht := ite_t ht hg36
        obtain ⟨c37, hc37, ht⟩ := bind_some ht
        have e := Option.some.inj ht
        subst e
        exact rg0 [hE, hE, hN (.sAt c31), hE, hE, hY, hY, (.y, (.sAt c33)), hY, hN (.pk true), hE, hY, hY, (.y, (.sAt c35)), hY, hY, hY, hY, (.y, (.sAt c37)), hY, (.y, (.pk true)), hN (.pk false), hE] (⟨[(0, pS s_), (1, pS more), (2, pI most), (7, pI i), (8, pB (decide ((c37.toNat : Int) ≤ 57)))], [], 0⟩) (.cons hc31 (.cons hg32 (.cons hg32 (.cons hg32 (.cons hc33 (.cons hg32 (.cons hg32 (.cons hg34 (.cons hg34 (.cons hg34 (.cons hc35 (.cons hg34 (.cons hg34 (.cons hg36 (.cons hg36 (.cons hg36 (.cons hc37 (.cons hg36 (.cons hg34 (.cons hg36 (.cons hg34 .nil)))))))))))))))))))))
       ·replace ht := ite_f ht hg36
        have e := Option.some.inj ht
        subst e
        exact rg0 [hE, hE, hN (.sAt c31), hE, hE, hY, hY, (.y, (.sAt c33)), hY, hN (.pk true), hE, hY, hY, (.y, (.sAt c35)), hY, hY, hS, hS, hS, hS, (.y, (.pk false)), hN (.pk false), hE] (⟨[(0, pS s_), (1, pS more), (2, pI most), (7, pI i), (8, pB false)], [], 0⟩) (.cons hc31 (.cons hg32 (.cons hg32 (.cons hg32 (.cons hc33 (.cons hg32 (.cons hg32 (.cons hg34 (.cons hg34 (.cons hg34 (.cons hc35 (.cons hg34 (.cons hg34 (.cons hg36 (.cons hg36 (.cons hg36 (.cons hg36 (.cons hg34 (.cons hg36 (.cons hg34 .nil))))))))))))))))))))
     ·replace ht := ite_f ht hg32
      obtain ⟨c38, hc38, ht⟩ := bind_some ht
      rcases Bool.eq_false_or_eq_true (decide (48 ≤ (c38.toNat : Int))) with hg39 | hg39
      ·replace ht := ite_t ht hg39
       obtain ⟨c40, hc40, ht⟩ := bind_some ht
       have e := Option.some.inj ht
       subst e
       exact rg0 (obs := [(strAt s_ i = some c31), ((decide (97 ≤ (c31.toNat : Int))) = false), ((decide (97 ≤ (c31.toNat : Int))) = false), ((decide (97 ≤ (c31.toNat : Int))) = false), ((decide (97 ≤ (c31.toNat : Int))) = false), ((decide (97 ≤ (c31.toNat : Int))) = false), (false = false), (false = false), (false = false), (strAt s_ i = some c38), (false = false), (false = false), ((decide (48 ≤ (c38.toNat : Int))) = true), ((decide (48 ≤ (c38.toNat : Int))) = true), ((decide (48 ≤ (c38.toNat : Int))) = true), (strAt s_ i = some c40), ((decide (48 ≤ (c38.toNat : Int))) = true), (false = false), ((decide (48 ≤ (c38.toNat : Int))) = true)]) [hE, hE, hN (.sAt c31), hE, hE, hS, hS, hS, hS, hN (.pk false), hE, hY, hY, (.y, (.sAt c38)), hY, hY, hY, hY, (.y, (.sAt c40)), hY, (.y, (.pk true)), hE, hE] (⟨[(0, pS s_), (1, pS more), (2, pI most), (7, pI i), (8, pB (decide ((c40.toNat : Int) ≤ 57)))], [], 0⟩) (.cons hc31 (.cons hg32 (.cons hg32 (.cons hg32 (.cons hg32 (.cons hg32 (.cons rfl (.cons rfl (.cons rfl (.cons hc38 (.cons rfl (.cons rfl (.cons hg39 (.cons hg39 (.cons hg39 (.cons hc40 (.cons hg39 (.cons rfl (.cons hg39 .nil)))))))))))))))))))
      ·replace ht := ite_f ht hg39
       have e := Option.some.inj ht
       subst e
       exact rg0 (obs := [(strAt s_ i = some c31), ((decide (97 ≤ (c31.toNat : Int))) = false), ((decide (97 ≤ (c31.toNat : Int))) = false), ((decide (97 ≤ (c31.toNat : Int))) = false), ((decide (97 ≤ (c31.toNat : Int))) = false), ((decide (97 ≤ (c31.toNat : Int))) = false), (false = false), (false = false), (false = false), (strAt s_ i = some c38), (false = false), (false = false), ((decide (48 ≤ (c38.toNat : Int))) = false), ((decide (48 ≤ (c38.toNat : Int))) = false), ((decide (48 ≤ (c38.toNat : Int))) = false), ((decide (48 ≤ (c38.toNat : Int))) = false), (false = false), ((decide (48 ≤ (c38.toNat : Int))) = false)]) [hE, hE, hN (.sAt c31), hE, hE, hS, hS, hS, hS, hN (.pk false), hE, hY, hY, (.y, (.sAt c38)), hY, hY, hS, hS, hS, hS, (.y, (.pk false)), hE, hE] (⟨[(0, pS s_), (1, pS more), (2, pI most), (7, pI i), (8, pB false)], [], 0⟩) (.cons hc31 (.cons hg32 (.cons hg32 (.cons hg32 (.cons hg32 (.cons hg32 (.cons rfl (.cons rfl (.cons rfl (.cons hc38 (.cons rfl (.cons rfl (.cons hg39 (.cons hg39 (.cons hg39 (.cons hg39 (.cons rfl (.cons hg39 .nil))))))))))))))))))
    ·clear ht
     refine x_seq ?_
     refine x_rg (rgn [hE] (⟨[(0, pS s_), (1, pS more), (2, pI most), (7, pI i), (8, pB t41), (9, pI 0)], [], 0⟩)) ?_
     refine x_block ?_
     refine kw0 (⟨[(0, pS s_), (1, pS more), (2, pI most), (7, pI i), (8, pB t41), (9, pI 0)], [], 0⟩) ?_
     refine x_loop (σ := (Bool × Int)) h (fun s => ⟨[(0, pS s_), (1, pS more), (2, pI most), (7, pI i), (8, pB s.1), (9, pI s.2)], [], 0⟩) (by kernel_rfl) ?_ ?_
     ·rintro ⟨ok, k⟩
      kernel_rfl
     ·rintro ⟨ok, k⟩ x49 h hx49
      replace h : ref27_letters_L49 s_ more i ok k = some x49 := h
      unfold ref27_letters_L49 at h
      refine x_seq ?_
      refine x_rg (rgn [hE, hE, hE, hE] (⟨[(0, pS s_), (1, pS more), (2, pI most), (7, pI i), (8, pB ok), (9, pI k), (41, pB (decide (k < (List.length more : Int))))], [], 0⟩)) ?_
      refine x_cond _ rfl (fun hc50 => ?_) (fun hc50 => ?_)
      ·replace h := ite_t h hc50
       refine kw0 (⟨[(0, pS s_), (1, pS more), (2, pI most), (7, pI i), (8, pB ok), (9, pI k)], [], 0⟩) ?_
       refine x_skip ?_
       refine x_tn ?_
       refine x_seq ?_
       refine x_block ?_
       obtain ⟨t54, ht, h⟩ := bind_some h
       refine x_rgt (st2 := ⟨[(0, pS s_), (1, pS more), (2, pI most), (7, pI i), (8, pB t54), (9, pI k)], [], 0⟩) ?_ ?_
       ·rcases Bool.eq_false_or_eq_true ok with hg51 | hg51
        ·replace ht := ite_t ht hg51
         have e := Option.some.inj ht
         subst e
         exact rg0 [hE, hE, hS, hS, hS, hS, hS, hS, hS, hN (.pk true), hE] (⟨[(0, pS s_), (1, pS more), (2, pI most), (7, pI i), (8, pB true), (9, pI k)], [], 0⟩) (.cons hg51 (.cons hg51 (.cons hg51 (.cons hg51 (.cons hg51 (.cons hg51 (.cons hg51 (.cons hg51 .nil))))))))
        ·replace ht := ite_f ht hg51
         obtain ⟨c52, hc52, ht⟩ := bind_some ht
         obtain ⟨c53, hc53, ht⟩ := bind_some ht
         have e := Option.some.inj ht
         subst e
         exact rg0 [hE, hE, hY, hY, (.y, (.sAt c52)), hY, hY, (.y, (.sAt c53)), hY, hN (.pk false), hE] (⟨[(0, pS s_), (1, pS more), (2, pI most), (7, pI i), (8, pB (decide ((c52.toNat : Int) = (c53.toNat : Int)))), (9, pI k)], [], 0⟩) (.cons hg51 (.cons hg51 (.cons hg51 (.cons hc52 (.cons hg51 (.cons hg51 (.cons hg51 (.cons hc53 (.cons hg51 (.cons hg51 .nil))))))))))
       ·clear ht
        refine x_bn ?_
        refine x_tn ?_
        refine x_rgt (rgn [hE, hE, hE] (⟨[(0, pS s_), (1, pS more), (2, pI most), (7, pI i), (8, pB t54), (9, pI (IntKind.wrap .i64 (k + 1)))], [], 0⟩)) ?_
        refine x_tn ?_
        exact ⟨_, (Option.some.inj h).symm, by kernel_rfl⟩
      ·replace h := ite_f h hc50
       refine kw0 (⟨[(0, pS s_), (1, pS more), (2, pI most), (7, pI i), (8, pB ok)], [], 0⟩) ?_
       refine x_exit ?_
       refine x_te ?_
       refine x_te ?_
       replace h := done_map h hx49
       unfold ref27_letters_A56 at h
       refine x_bh ?_
       refine x_tn ?_
       refine x_rg (rgn [hE, hE] (⟨[(0, pS s_), (1, pS more), (2, pI most), (7, pI i), (55, pB (!ok))], [], 0⟩)) ?_
       refine x_cond _ rfl (fun hc55 => ?_) (fun hc55 => ?_)
       ·replace h := ite_t h hc55
        refine x_rg (rgn [hE] (⟨[(6, pB false)], [], 0⟩)) ?_
        refine x_toret ?_
        refine x_br ?_
        refine x_tr ?_
        refine x_tr ?_
        replace h := done_leaf h hx29
        refine x_br ?_
        refine x_tr ?_
        obtain rfl := Option.some.inj h
        exact ret0 (.bool false) (.refl _) (fun _ => rfl)
       ·replace h := ite_f h hc55
        refine kw0 (⟨[(0, pS s_), (1, pS more), (2, pI most), (7, pI i)], [], 0⟩) ?_
        refine x_skip ?_
        refine x_bn ?_
        refine x_tn ?_
        refine x_rgt (rgn [hE, hE, hE] (⟨[(0, pS s_), (1, pS more), (2, pI most), (7, pI (IntKind.wrap .i64 (i + 1)))], [], 0⟩)) ?_
        refine x_tn ?_
        exact ⟨_, (Option.some.inj h).symm, by kernel_rfl⟩
   ·replace h := ite_f h hc30
    refine kw0 (⟨[(0, pS s_), (2, pI most)], [], 0⟩) ?_
    refine x_exit ?_
    refine x_te ?_
    refine x_te ?_
    replace h := done_leaf h hx29
    refine x_bh ?_
    refine x_tn ?_
    refine x_rg (st2 := ⟨[(6, pB ((decide (1 ≤ (List.length s_ : Int))) && (decide ((List.length s_ : Int) ≤ most))))], [], 0⟩) ?_ ?_
    ·rcases Bool.eq_false_or_eq_true (decide (1 ≤ (List.length s_ : Int))) with hg57 | hg57
     ·exact rg [hE, hE, hE, hE, hY, hY, hY, hY, hN (.pk true), hE] (⟨[(6, pB (decide ((List.length s_ : Int) ≤ most)))], [], 0⟩) (.cons hg57 (.cons hg57 (.cons hg57 (.cons hg57 (.cons hg57 .nil))))) (.of_eq (by simp only [hg57, bs, reduceIte]))
     ·exact rg [hE, hE, hE, hE, hS, hS, hS, hS, hN (.pk false), hE] (⟨[(6, pB false)], [], 0⟩) (.cons hg57 (.cons hg57 (.cons hg57 (.cons hg57 (.cons hg57 .nil))))) (.of_eq (by simp only [hg57, bs, reduceIte]))
    ·refine x_toret ?_
     obtain rfl := Option.some.inj h
     exact ret0 (.bool ((decide (1 ≤ (List.length s_ : Int))) && (decide ((List.length s_ : Int) ≤ most)))) (.refl _) (fun _ => rfl)

theorem c52 {s_ : Str} {r : Bool} (h : ref27_Net s_ = some r) : CallOK Tryd.prog 52 [.str s_] (.bool r) true := by
  apply ok52
  unfold ref27_Net at h
  refine x_rg (rgn [hE] (⟨[(0, pS s_)], [], 0⟩)) ?_
  obtain ⟨x1, hx1, h⟩ := bind_some h
  obtain ⟨t4, ht, h⟩ := bind_some h
  refine x_rg (st2 := ⟨[(2, pB t4)], [], 0⟩) ?_ ?_
  ·rcases Bool.eq_false_or_eq_true x1 with hg2 | hg2
   ·replace ht := ite_t ht hg2
    obtain ⟨c3, hc3, ht⟩ := bind_some ht
    have e := Option.some.inj ht
    subst e
    exact rg0 [hE, hN (.cal [] (.bool x1) true), hE, hY, (.y, (.sAt c3)), hY, hN (.pk true), hE] (⟨[(2, pB (decide (97 ≤ (c3.toNat : Int))))], [], 0⟩) (.cons (c54 hx1) (.cons hg2 (.cons hg2 (.cons hc3 (.cons hg2 (.cons hg2 .nil))))))
   ·replace ht := ite_f ht hg2
    have e := Option.some.inj ht
    subst e
    exact rg0 [hE, hN (.cal [] (.bool x1) true), hE, hS, hS, hS, hN (.pk false), hE] (⟨[(2, pB false)], [], 0⟩) (.cons (c54 hx1) (.cons hg2 (.cons hg2 (.cons hg2 (.cons hg2 .nil)))))
  ·clear ht
   refine x_toret ?_
   obtain rfl := Option.some.inj h
   exact ret0 (.bool t4) (.refl _) (fun _ => rfl)

theorem c53 {s_ : Str} {r : Bool} (h : ref27_Host s_ = some r) : CallOK Tryd.prog 53 [.str s_] (.bool r) true := by
  apply ok53
  unfold ref27_Host at h
  refine x_rg (rgn [hE] (⟨[(0, pS s_)], [], 0⟩)) ?_
  obtain ⟨x1, hx1, h⟩ := bind_some h
  refine x_rg (rg0 [hE, hN (.cal [] (.bool x1) true), hE] (⟨[(2, pB x1)], [], 0⟩) (.cons (c54 hx1) .nil)) ?_
  refine x_toret ?_
  obtain rfl := Option.some.inj h
  exact ret0 (.bool x1) (.refl _) (fun _ => rfl)

theorem c25 {a : api_Addr} {r : Bool} (h : ref27_Right a = some r) : CallOK Tryd.prog 25 [enc_api_Addr a] (.bool r) true := by
  apply ok25
  unfold ref27_Right at h
  refine x_rg (rgn [hE, hE] (⟨[(1, .optr 0 0 0)], [(0, some (.p (some 3) [enc_api_Addr a]))], 1⟩)) ?_
  obtain ⟨x1, hx1, h⟩ := bind_some h
  obtain ⟨t10, ht, h⟩ := bind_some h
  refine x_rg (st2 := ⟨[(2, pB t10)], [], 0⟩) ?_ ?_
  ·rcases Bool.eq_false_or_eq_true x1 with hg2 | hg2
   ·replace ht := ite_t ht hg2
    rcases Bool.eq_false_or_eq_true (decide (a.Host = [42])) with hg3 | hg3
    ·replace ht := ite_t ht hg3
     rcases Bool.eq_false_or_eq_true (decide (a.Service = [])) with hg4 | hg4
     ·replace ht := ite_t ht hg4
      have e := Option.some.inj ht
      subst e
      exact rg0 [hE, hE, hN (.cal [] (.bool x1) true), hE, hY, hY, hY, hY, hS, hS, hS, (.y, (.pk true)), hN (.pk true), hE, hY, hY, hY, hY, hS, hS, hS, (.y, (.pk true)), hE, hE] (⟨[(2, pB true)], [], 0⟩) (.cons (c52 hx1) (.cons hg2 (.cons hg2 (.cons hg2 (.cons hg2 (.cons hg3 (.cons hg3 (.cons hg3 (.cons hg2 (.cons hg3 (.cons hg2 (.cons tt (.cons tt (.cons tt (.cons tt (.cons hg4 (.cons hg4 (.cons hg4 (.cons tt (.cons hg4 .nil))))))))))))))))))))
     ·replace ht := ite_f ht hg4
      obtain ⟨x5, hx5, ht⟩ := bind_some ht
      have e := Option.some.inj ht
      subst e
      exact rg0 [hE, hE, hN (.cal [] (.bool x1) true), hE, hY, hY, hY, hY, hS, hS, hS, (.y, (.pk true)), hN (.pk true), hE, hY, hY, hY, hY, hY, hY, (.y, (.cal [] (.bool x5) true)), (.y, (.pk false)), hE, hE] (⟨[(2, pB x5)], [], 0⟩) (.cons (c52 hx1) (.cons hg2 (.cons hg2 (.cons hg2 (.cons hg2 (.cons hg3 (.cons hg3 (.cons hg3 (.cons hg2 (.cons hg3 (.cons hg2 (.cons tt (.cons tt (.cons tt (.cons tt (.cons hg4 (.cons hg4 (.cons hg4 (.cons (c54 hx5) (.cons tt (.cons hg4 .nil)))))))))))))))))))))
    ·replace ht := ite_f ht hg3
     obtain ⟨x6, hx6, ht⟩ := bind_some ht
     rcases Bool.eq_false_or_eq_true x6 with hg7 | hg7
     ·replace ht := ite_t ht hg7
      rcases Bool.eq_false_or_eq_true (decide (a.Service = [])) with hg8 | hg8
      ·replace ht := ite_t ht hg8
       have e := Option.some.inj ht
       subst e
       exact rg0 [hE, hE, hN (.cal [] (.bool x1) true), hE, hY, hY, hY, hY, hY, hY, (.y, (.cal [] (.bool x6) true)), (.y, (.pk false)), hN (.pk true), hE, hY, hY, hY, hY, hS, hS, hS, (.y, (.pk true)), hN (.pk true), hE] (⟨[(2, pB true)], [], 0⟩) (.cons (c52 hx1) (.cons hg2 (.cons hg2 (.cons hg2 (.cons hg2 (.cons hg3 (.cons hg3 (.cons hg3 (.cons (c53 hx6) (.cons hg2 (.cons hg3 (.cons hg2 (.cons hg7 (.cons hg7 (.cons hg7 (.cons hg7 (.cons hg8 (.cons hg8 (.cons hg8 (.cons hg7 (.cons hg8 (.cons hg7 .nil))))))))))))))))))))))
      ·replace ht := ite_f ht hg8
       obtain ⟨x9, hx9, ht⟩ := bind_some ht
       have e := Option.some.inj ht
       subst e
       exact rg0 [hE, hE, hN (.cal [] (.bool x1) true), hE, hY, hY, hY, hY, hY, hY, (.y, (.cal [] (.bool x6) true)), (.y, (.pk false)), hN (.pk true), hE, hY, hY, hY, hY, hY, hY, (.y, (.cal [] (.bool x9) true)), (.y, (.pk false)), hN (.pk true), hE] (⟨[(2, pB x9)], [], 0⟩) (.cons (c52 hx1) (.cons hg2 (.cons hg2 (.cons hg2 (.cons hg2 (.cons hg3 (.cons hg3 (.cons hg3 (.cons (c53 hx6) (.cons hg2 (.cons hg3 (.cons hg2 (.cons hg7 (.cons hg7 (.cons hg7 (.cons hg7 (.cons hg8 (.cons hg8 (.cons hg8 (.cons (c54 hx9) (.cons hg7 (.cons hg8 (.cons hg7 .nil)))))))))))))))))))))))
     ·replace ht := ite_f ht hg7
      have e := Option.some.inj ht
      subst e
      exact rg0 [hE, hE, hN (.cal [] (.bool x1) true), hE, hY, hY, hY, hY, hY, hY, (.y, (.cal [] (.bool x6) true)), (.y, (.pk false)), hN (.pk true), hE, hS, hS, hS, hS, (.u, .e), (.u, .e), (.u, .e), hS, hN (.pk false), hE] (⟨[(2, pB false)], [], 0⟩) (.cons (c52 hx1) (.cons hg2 (.cons hg2 (.cons hg2 (.cons hg2 (.cons hg3 (.cons hg3 (.cons hg3 (.cons (c53 hx6) (.cons hg2 (.cons hg3 (.cons hg2 (.cons hg7 (.cons hg7 (.cons hg7 (.cons hg7 (.cons hg7 (.cons hg7 .nil))))))))))))))))))
   ·replace ht := ite_f ht hg2
    have e := Option.some.inj ht
    subst e
    exact rg0 (obs := [(CallOK Tryd.prog 52 [.str a.Net] (.bool x1) true), (x1 = false), (x1 = false), (x1 = false), (x1 = false), (x1 = false), (x1 = false), (false = false), (false = false), (false = false), (false = false), (false = false)]) [hE, hE, hN (.cal [] (.bool x1) true), hE, hS, hS, hS, hS, (.u, .e), (.u, .e), (.u, .e), hS, hN (.pk false), hE, hS, hS, hS, hS, (.u, .e), (.u, .e), (.u, .e), hS, hE, hE] (⟨[(2, pB false)], [], 0⟩) (.cons (c52 hx1) (.cons hg2 (.cons hg2 (.cons hg2 (.cons hg2 (.cons hg2 (.cons hg2 (.cons rfl (.cons rfl (.cons rfl (.cons rfl (.cons rfl .nil))))))))))))
  ·clear ht
   refine x_toret ?_
   obtain rfl := Option.some.inj h
   exact ret0 (.bool t10) (.refl _) (fun _ => rfl)

theorem c13 {s_ : Str} {r : (api_Addr × Int)} (h : ref27_Parse s_ = some r) : CallOK Tryd.prog 13 [.str s_] (.tup [enc_api_Addr r.1, .int .i64 r.2]) true := by
  apply ok13
  unfold ref27_Parse at h
  refine x_rg (rgn [hE, hE] (⟨[(0, pS s_), (2, .optr 0 0 0)], [(0, some (.p (some 3) [.agg [.str [], .str [], .str []]]))], 1⟩)) ?_
  obtain ⟨x1, hx1, h⟩ := bind_some h
  refine x_rg (rg0 [hE, hN (.cal [] (.usl none (List.map PV.str x1)) true), hE] (⟨[(2, .optr 0 0 0), (4, oL 1 PV.str x1)], [(0, some (.p (some 3) [.agg [.str [], .str [], .str []]])), (1, rL none PV.str x1)], 2⟩) (.cons (c33 hx1) .nil)) ?_
  refine x_seq ?_
  obtain ⟨t5, ht, h⟩ := bind_some h
  refine x_rg (st2 := ⟨[(2, .optr 0 0 0), (4, oL 1 PV.str x1), (24, pB t5)], [(0, some (.p (some 3) [.agg [.str [], .str [], .str []]])), (1, rL none PV.str x1)], 2⟩) ?_ ?_
  ·rcases Bool.eq_false_or_eq_true (decide ((List.length x1 : Int) < 2)) with hg2 | hg2
   ·replace ht := ite_t ht hg2
    have e := Option.some.inj ht
    subst e
    exact rg0 (obs := [((((List.map PV.str x1).length : Nat) : Int) = (List.length x1 : Int)), ((decide ((List.length x1 : Int) < 2)) = true), ((decide ((List.length x1 : Int) < 2)) = true), ((decide ((List.length x1 : Int) < 2)) = true), ((decide ((List.length x1 : Int) < 2)) = true), (true = true), (true = true), (true = true), (true = true), (true = true), (true = true), (true = true)]) [hE, hN (.len (List.length x1 : Int)), hE, hE, hS, hS, hS, hN (.pk true), hE, hS, hS, hS, hS, hS, hS, hS, hE] (⟨[(2, .optr 0 0 0), (4, oL 1 PV.str x1), (24, pB true)], [(0, some (.p (some 3) [.agg [.str [], .str [], .str []]])), (1, rL none PV.str x1)], 2⟩) (.cons (by rw [List.length_map]) (.cons hg2 (.cons hg2 (.cons hg2 (.cons hg2 (.cons rfl (.cons rfl (.cons rfl (.cons rfl (.cons rfl (.cons rfl (.cons rfl .nil))))))))))))
   ·replace ht := ite_f ht hg2
    rcases Bool.eq_false_or_eq_true (decide (3 < (List.length x1 : Int))) with hg3 | hg3
    ·replace ht := ite_t ht hg3
     have e := Option.some.inj ht
     subst e
     exact rg0 (obs := [((((List.map PV.str x1).length : Nat) : Int) = (List.length x1 : Int)), ((decide ((List.length x1 : Int) < 2)) = false), ((decide ((List.length x1 : Int) < 2)) = false), ((((List.map PV.str x1).length : Nat) : Int) = (List.length x1 : Int)), ((decide ((List.length x1 : Int) < 2)) = false), ((decide ((List.length x1 : Int) < 2)) = false), ((decide (3 < (List.length x1 : Int))) = true), ((decide (3 < (List.length x1 : Int))) = true), ((decide (3 < (List.length x1 : Int))) = true), ((decide (3 < (List.length x1 : Int))) = true), ((decide (3 < (List.length x1 : Int))) = true), ((decide (3 < (List.length x1 : Int))) = true), ((decide (3 < (List.length x1 : Int))) = true), ((decide (3 < (List.length x1 : Int))) = true)]) [hE, hN (.len (List.length x1 : Int)), hE, hE, hY, (.y, (.len (List.length x1 : Int))), hY, hN (.pk false), hE, hS, hS, hS, hS, hS, hS, hS, hN (.pk true)] (⟨[(2, .optr 0 0 0), (4, oL 1 PV.str x1), (24, pB true)], [(0, some (.p (some 3) [.agg [.str [], .str [], .str []]])), (1, rL none PV.str x1)], 2⟩) (.cons (by rw [List.length_map]) (.cons hg2 (.cons hg2 (.cons (by rw [List.length_map]) (.cons hg2 (.cons hg2 (.cons hg3 (.cons hg3 (.cons hg3 (.cons hg3 (.cons hg3 (.cons hg3 (.cons hg3 (.cons hg3 .nil))))))))))))))
    ·replace ht := ite_f ht hg3
     obtain ⟨x4, hx4, ht⟩ := bind_some ht
     have e := Option.some.inj ht
     subst e
     exact rg0 (obs := [((((List.map PV.str x1).length : Nat) : Int) = (List.length x1 : Int)), ((decide ((List.length x1 : Int) < 2)) = false), ((decide ((List.length x1 : Int) < 2)) = false), ((((List.map PV.str x1).length : Nat) : Int) = (List.length x1 : Int)), ((decide ((List.length x1 : Int) < 2)) = false), ((decide ((List.length x1 : Int) < 2)) = false), ((decide (3 < (List.length x1 : Int))) = false), ((decide (3 < (List.length x1 : Int))) = false), ((decide (3 < (List.length x1 : Int))) = false), ((((List.map PV.str x1).length : Nat) : Int) = (List.length x1 : Int)), ((decide (3 < (List.length x1 : Int))) = false), ((decide (3 < (List.length x1 : Int))) = false), (0 ≤ ((IntKind.wrap .i64 ((List.length x1 : Int) - 1)) : Int) ∧ Int.toNat (IntKind.wrap .i64 ((List.length x1 : Int) - 1)) < (List.map PV.str x1).length), ((decide (3 < (List.length x1 : Int))) = false), ((List.map PV.str x1)[(0 + Int.toNat (IntKind.wrap .i64 ((List.length x1 : Int) - 1)))]? = some (.str x4)), ((decide (3 < (List.length x1 : Int))) = false), ((decide (3 < (List.length x1 : Int))) = false)]) [hE, hN (.len (List.length x1 : Int)), hE, hE, hY, (.y, (.len (List.length x1 : Int))), hY, hN (.pk false), hE, hY, hY, (.y, (.len (List.length x1 : Int))), hY, (.y, .rAt), (.y, (.ld (.str x4))), hY, hN (.pk false)] (⟨[(2, .optr 0 0 0), (4, oL 1 PV.str x1), (24, pB (decide (x4 = [])))], [(0, some (.p (some 3) [.agg [.str [], .str [], .str []]])), (1, rL none PV.str x1)], 2⟩) (.cons (by rw [List.length_map]) (.cons hg2 (.cons hg2 (.cons (by rw [List.length_map]) (.cons hg2 (.cons hg2 (.cons hg3 (.cons hg3 (.cons hg3 (.cons (by rw [List.length_map]) (.cons hg3 (.cons hg3 (.cons (rAt_ob hx4 (by simp)) (.cons hg3 (.cons (ownAt hx4) (.cons hg3 (.cons hg3 .nil)))))))))))))))))
  ·clear ht
   refine x_cond _ rfl (fun hc6 => ?_) (fun hc6 => ?_)
   ·replace h := ite_t h hc6
    refine x_rg (rgn [hE, hE, hE] (⟨[(2, .optr 0 0 0), (3, pI 36)], [(0, some (.p (some 3) [.agg [.str [], .str [], .str []]]))], 1⟩)) ?_
    refine x_toret ?_
    refine x_tr ?_
    obtain rfl := Option.some.inj h
    exact ret0 (.tup [.agg [.str [], .str [], .str []], .int .i64 36]) (.tup (.cons (.refl _) (.cons (.refl _) .nil))) (fun _ => rfl)
   ·replace h := ite_f h hc6
    refine kw0 (⟨[(2, .optr 0 0 0), (4, oL 1 PV.str x1)], [(0, some (.p (some 3) [.agg [.str [], .str [], .str []]])), (1, rL none PV.str x1)], 2⟩) ?_
    refine x_skip ?_
    refine x_tn ?_
    obtain ⟨x7, hx7, h⟩ := bind_some h
    obtain ⟨x8, hx8, h⟩ := bind_some h
    refine x_rg (rg0 (obs := [(0 ≤ (0 : Int) ∧ Int.toNat 0 < (List.map PV.str x1).length), ((List.map PV.str x1)[(0 + Int.toNat 0)]? = some (.str x7)), (0 ≤ (1 : Int) ∧ Int.toNat 1 < (List.map PV.str x1).length), ((List.map PV.str x1)[(0 + Int.toNat 1)]? = some (.str x8))]) [hE, hN .rAt, hN (.ld (.str x7)), hE, hN .rAt, hN (.ld (.str x8)), hE, hE, hE] (⟨[(2, .optr 0 0 0), (4, oL 1 PV.str x1), (5, .optr 2 0 0)], [(0, some (.p (some 3) [.agg [.str [], .str [], .str []]])), (1, rL none PV.str x1), (2, some (.p (some 3) [.agg [.str x7, .str x8, .str []]]))], 3⟩) (.cons (rAt_ob hx7 (by simp)) (.cons (ownAt hx7) (.cons (rAt_ob hx8 (by simp)) (.cons (ownAt hx8) .nil))))) ?_
    refine x_join (τ := Str) (fun t => ref27_Parse_K9 x7 x8 t = some r) (fun t => { tm := [(2, .optr 0 0 0), (5, .optr 1 0 0)], hp := [(0, some (.p (some 3) [.agg [.str [], .str [], .str []]])), (1, some (.p (some 3) [.agg [.str x7, .str x8, .str t]]))], nx := 2 }) ?_ ?_
    ·rintro p10 h
     replace h : ref27_Parse_K9 x7 x8 p10 = some r := h
     unfold ref27_Parse_K9 at h
     refine x_seq ?_
     obtain ⟨x11, hx11, h⟩ := bind_some h
     refine x_rg (rg0 [hE, hN (.cal [] (.bool x11) true), hE] (⟨[(2, .optr 0 0 0), (5, .optr 1 0 0), (42, pB (!x11))], [(0, some (.p (some 3) [.agg [.str [], .str [], .str []]])), (1, some (.p (some 3) [.agg [.str x7, .str x8, .str p10]]))], 2⟩) (.cons (c25 hx11) .nil)) ?_
     refine x_cond _ rfl (fun hc12 => ?_) (fun hc12 => ?_)
     ·replace h := ite_t h hc12
      refine x_rg (rgn [hE, hE, hE] (⟨[(2, .optr 0 0 0), (3, pI 36)], [(0, some (.p (some 3) [.agg [.str [], .str [], .str []]]))], 1⟩)) ?_
      refine x_toret ?_
      refine x_tr ?_
      obtain rfl := Option.some.inj h
      exact ret0 (.tup [.agg [.str [], .str [], .str []], .int .i64 36]) (.tup (.cons (.refl _) (.cons (.refl _) .nil))) (fun _ => rfl)
     ·replace h := ite_f h hc12
      refine kw0 (⟨[(2, .optr 0 0 0), (5, .optr 1 0 0)], [(0, some (.p (some 3) [.agg [.str [], .str [], .str []]])), (1, some (.p (some 3) [.agg [.str x7, .str x8, .str p10]]))], 2⟩) ?_
      refine x_skip ?_
      refine x_tn ?_
      refine x_rg (rgn [hE, hE, hE] (⟨[(2, .optr 0 0 0), (3, pI 0)], [(0, some (.p (some 3) [.agg [.str x7, .str x8, .str p10]]))], 1⟩)) ?_
      refine x_toret ?_
      obtain rfl := Option.some.inj h
      exact ret0 (.tup [.agg [.str x7, .str x8, .str p10], .int .i64 0]) (.tup (.cons (.refl _) (.cons (.refl _) .nil))) (fun _ => rfl)
    ·refine x_rg (rg0 (obs := [((((List.map PV.str x1).length : Nat) : Int) = (List.length x1 : Int))]) [hE, hN (.len (List.length x1 : Int)), hE] (⟨[(2, .optr 0 0 0), (4, oL 1 PV.str x1), (5, .optr 2 0 0), (35, pB (decide ((List.length x1 : Int) = 3)))], [(0, some (.p (some 3) [.agg [.str [], .str [], .str []]])), (1, rL none PV.str x1), (2, some (.p (some 3) [.agg [.str x7, .str x8, .str []]]))], 3⟩) (.cons (by rw [List.length_map]) .nil)) ?_
     refine x_cond _ rfl (fun hc13 => ?_) (fun hc13 => ?_)
     ·replace h := ite_t h hc13
      obtain ⟨x14, hx14, h⟩ := bind_some h
      refine x_rgt (rg0 (obs := [(0 ≤ (2 : Int) ∧ Int.toNat 2 < (List.map PV.str x1).length), ((List.map PV.str x1)[(0 + Int.toNat 2)]? = some (.str x14))]) [hE, hN .rAt, hN (.ld (.str x14)), hE, hE] (⟨[(2, .optr 0 0 0), (5, .optr 1 0 0)], [(0, some (.p (some 3) [.agg [.str [], .str [], .str []]])), (1, some (.p (some 3) [.agg [.str x7, .str x8, .str x14]]))], 2⟩) (.cons (rAt_ob hx14 (by simp)) (.cons (ownAt hx14) .nil))) ?_
      refine x_tn ?_
      exact ⟨x14, h, by kernel_rfl⟩
     ·replace h := ite_f h hc13
      refine kw0 (⟨[(2, .optr 0 0 0), (5, .optr 1 0 0)], [(0, some (.p (some 3) [.agg [.str [], .str [], .str []]])), (1, some (.p (some 3) [.agg [.str x7, .str x8, .str []]]))], 2⟩) ?_
      refine x_skip ?_
      refine x_tn ?_
      exact ⟨[], h, by kernel_rfl⟩

theorem c15 {a : api_Addr} {r : (Str × Int)} (h : ref27_Print a = some r) : CallOK Tryd.prog 15 [enc_api_Addr a] (.tup [.str r.1, .int .i64 r.2]) true := by
  apply ok15
  unfold ref27_Print at h
  refine x_rg (rgn [hE, hE, hE] (⟨[(1, .optr 0 0 0)], [(0, some (.p (some 3) [enc_api_Addr a]))], 1⟩)) ?_
  refine x_seq ?_
  obtain ⟨x1, hx1, h⟩ := bind_some h
  refine x_rg (rg0 [hE, hN (.cal [] (.bool x1) true), hE] (⟨[(1, .optr 0 0 0), (6, pB (!x1))], [(0, some (.p (some 3) [enc_api_Addr a]))], 1⟩) (.cons (c25 hx1) .nil)) ?_
  refine x_cond _ rfl (fun hc2 => ?_) (fun hc2 => ?_)
  ·replace h := ite_t h hc2
   refine x_rg (rgn [hE, hE] (⟨[(2, pS []), (3, pI 36)], [], 0⟩)) ?_
   refine x_toret ?_
   refine x_tr ?_
   obtain rfl := Option.some.inj h
   exact ret0 (.tup [.str [], .int .i64 36]) (.tup (.cons (.refl _) (.cons (.refl _) .nil))) (fun _ => rfl)
  ·replace h := ite_f h hc2
   refine kw0 (⟨[(1, .optr 0 0 0)], [(0, some (.p (some 3) [enc_api_Addr a]))], 1⟩) ?_
   refine x_skip ?_
   refine x_tn ?_
   refine x_seq ?_
   refine x_rg (rgn [hE, hE, hE] (⟨[(1, .optr 0 0 0), (9, pB (decide (a.Service = [])))], [(0, some (.p (some 3) [enc_api_Addr a]))], 1⟩)) ?_
   refine x_cond _ rfl (fun hc3 => ?_) (fun hc3 => ?_)
   ·replace h := ite_t h hc3
    obtain ⟨x4, hx4, h⟩ := bind_some h
    obtain ⟨x5, hx5, h⟩ := bind_some h
    refine x_rg (rg0 [hE, hE, hN (.cat x4), hE, hE, hN (.cat x5), hE, hE] (⟨[(2, pS x5), (3, pI 0)], [], 0⟩) (.cons hx4 (.cons hx5 .nil))) ?_
    refine x_toret ?_
    refine x_tr ?_
    obtain rfl := Option.some.inj h
    exact ret0 (.tup [.str x5, .int .i64 0]) (.tup (.cons (.refl _) (.cons (.refl _) .nil))) (fun _ => rfl)
   ·replace h := ite_f h hc3
    refine kw0 (⟨[(1, .optr 0 0 0)], [(0, some (.p (some 3) [enc_api_Addr a]))], 1⟩) ?_
    refine x_skip ?_
    refine x_tn ?_
    obtain ⟨x6, hx6, h⟩ := bind_some h
    obtain ⟨x7, hx7, h⟩ := bind_some h
    obtain ⟨x8, hx8, h⟩ := bind_some h
    obtain ⟨x9, hx9, h⟩ := bind_some h
    refine x_rg (rg0 [hE, hE, hN (.cat x6), hE, hE, hN (.cat x7), hN (.cat x8), hE, hE, hN (.cat x9), hE, hE] (⟨[(2, pS x9), (3, pI 0)], [], 0⟩) (.cons hx6 (.cons hx7 (.cons hx8 (.cons hx9 .nil))))) ?_
    refine x_toret ?_
    obtain rfl := Option.some.inj h
    exact ret0 (.tup [.str x9, .int .i64 0]) (.tup (.cons (.refl _) (.cons (.refl _) .nil))) (fun _ => rfl)

theorem c3 {s_ : Str} {a : api_Addr} {r : Bool} (h : law27_DialTexts s_ a = some r) : CallOK Tryd.prog 3 [.str s_, enc_api_Addr a] (.bool r) true := by
  apply ok3
  unfold law27_DialTexts at h
  refine x_rg (rgn [hE, hE] (⟨[(0, pS s_), (3, .optr 0 0 0)], [(0, some (.p (some 3) [enc_api_Addr a]))], 1⟩)) ?_
  refine x_seq ?_
  obtain ⟨t3, ht, h⟩ := bind_some h
  refine x_rg (st2 := ⟨[(0, pS s_), (3, .optr 0 0 0), (20, pB t3)], [(0, some (.p (some 3) [enc_api_Addr a]))], 1⟩) ?_ ?_
  ·rcases Bool.eq_false_or_eq_true (decide (1000 < (List.length s_ : Int))) with hg1 | hg1
   ·replace ht := ite_t ht hg1
    have e := Option.some.inj ht
    subst e
    exact rg0 [hE, hE, hE, hE, hS, hS, hS, hN (.pk true)] (⟨[(0, pS s_), (3, .optr 0 0 0), (20, pB true)], [(0, some (.p (some 3) [enc_api_Addr a]))], 1⟩) (.cons hg1 (.cons hg1 (.cons hg1 (.cons hg1 .nil))))
   ·replace ht := ite_f ht hg1
    obtain ⟨x2, hx2, ht⟩ := bind_some ht
    have e := Option.some.inj ht
    subst e
    exact rg0 [hE, hE, hE, hE, hY, (.y, (.cal [] (.bool x2) true)), hY, hN (.pk false)] (⟨[(0, pS s_), (3, .optr 0 0 0), (20, pB (!x2))], [(0, some (.p (some 3) [enc_api_Addr a]))], 1⟩) (.cons hg1 (.cons hg1 (.cons (c10 hx2) (.cons hg1 (.cons hg1 .nil)))))
  ·clear ht
   refine x_cond _ rfl (fun hc4 => ?_) (fun hc4 => ?_)
   ·replace h := ite_t h hc4
    obtain ⟨x5, hx5, h⟩ := bind_some h
    refine x_rg (rg0 [hN (.cal [] (.bool x5) true), hE] (⟨[(4, pB x5)], [], 0⟩) (.cons (c11 hx5) .nil)) ?_
    refine x_toret ?_
    refine x_tr ?_
    obtain rfl := Option.some.inj h
    exact ret0 (.bool x5) (.refl _) (fun _ => rfl)
   ·replace h := ite_f h hc4
    refine kw0 (⟨[(0, pS s_), (3, .optr 0 0 0)], [(0, some (.p (some 3) [enc_api_Addr a]))], 1⟩) ?_
    refine x_skip ?_
    refine x_tn ?_
    obtain ⟨x6, hx6, h⟩ := bind_some h
    refine x_rg (rg0 [hE, hN (.cal [] (.tup [enc_api_Addr x6.1, .int .i64 x6.2]) true), hE, hE, hE, hE, hE, hE] (⟨[(0, pS s_), (3, .optr 0 0 0), (5, .optr 1 0 0), (6, pI x6.2)], [(0, some (.p (some 3) [enc_api_Addr a])), (1, some (.p (some 3) [enc_api_Addr x6.1]))], 2⟩) (.cons (c12 hx6) .nil)) ?_
    obtain ⟨x7, hx7, h⟩ := bind_some h
    refine x_rg (rg0 [hE, hN (.cal [] (.tup [enc_api_Addr x7.1, .int .i64 x7.2]) true), hE, hE, hE, hE, hE, hE] (⟨[(3, .optr 0 0 0), (5, .optr 1 0 0), (6, pI x6.2), (7, .optr 2 0 0), (8, pI x7.2)], [(0, some (.p (some 3) [enc_api_Addr a])), (1, some (.p (some 3) [enc_api_Addr x6.1])), (2, some (.p (some 3) [enc_api_Addr x7.1]))], 3⟩) (.cons (c13 hx7) .nil)) ?_
    obtain ⟨x8, hx8, h⟩ := bind_some h
    refine x_rg (rg0 [hE, hN (.cal [] (.tup [.str x8.1, .int .i64 x8.2]) true), hE, hE, hE, hE, hE] (⟨[(3, .optr 0 0 0), (5, .optr 1 0 0), (6, pI x6.2), (7, .optr 2 0 0), (8, pI x7.2), (9, pS x8.1), (10, pI x8.2)], [(0, some (.p (some 3) [enc_api_Addr a])), (1, some (.p (some 3) [enc_api_Addr x6.1])), (2, some (.p (some 3) [enc_api_Addr x7.1]))], 3⟩) (.cons (c14 hx8) .nil)) ?_
    obtain ⟨x9, hx9, h⟩ := bind_some h
    refine x_rg (rg0 [hE, hN (.cal [] (.tup [.str x9.1, .int .i64 x9.2]) true), hE, hE, hE, hE, hE] (⟨[(5, .optr 0 0 0), (6, pI x6.2), (7, .optr 1 0 0), (8, pI x7.2), (9, pS x8.1), (10, pI x8.2), (11, pS x9.1), (12, pI x9.2)], [(0, some (.p (some 3) [enc_api_Addr x6.1])), (1, some (.p (some 3) [enc_api_Addr x7.1]))], 2⟩) (.cons (c15 hx9) .nil)) ?_
    obtain ⟨t15, ht, h⟩ := bind_some h
    refine x_rg (st2 := ⟨[(4, pB t15)], [], 0⟩) ?_ ?_
    ·rcases Bool.eq_false_or_eq_true (decide (x6.1.Net = x7.1.Net) && (decide (x6.1.Host = x7.1.Host) && (decide (x6.1.Service = x7.1.Service) && true))) with hg10 | hg10
     ·replace ht := ite_t ht hg10
      rcases Bool.eq_false_or_eq_true (decide (x6.2 = x7.2)) with hg11 | hg11
      ·replace ht := ite_t ht hg11
       rcases Bool.eq_false_or_eq_true (decide (x8.1 = x9.1)) with hg12 | hg12
       ·replace ht := ite_t ht hg12
        rcases Bool.eq_false_or_eq_true (decide (x8.2 = x9.2)) with hg13 | hg13
        ·replace ht := ite_t ht hg13
         obtain ⟨x14, hx14, ht⟩ := bind_some ht
         have e := Option.some.inj ht
         subst e
         exact rg0 [hE, hE, hE, hE, hY, hY, hY, hN (.pk true), hE, hY, hY, hY, hN (.pk true), hE, hY, hY, hY, hN (.pk true), hE, (.y, (.cal [] (.bool x14) true)), hN (.pk true), hE] (⟨[(4, pB x14)], [], 0⟩) (.cons hg10 (.cons hg10 (.cons hg10 (.cons hg10 (.cons hg11 (.cons hg11 (.cons hg11 (.cons hg11 (.cons hg12 (.cons hg12 (.cons hg12 (.cons hg12 (.cons hg13 (.cons (c11 hx14) (.cons hg13 .nil)))))))))))))))
        ·replace ht := ite_f ht hg13
         have e := Option.some.inj ht
         subst e
         exact rg0 [hE, hE, hE, hE, hY, hY, hY, hN (.pk true), hE, hY, hY, hY, hN (.pk true), hE, hY, hY, hY, hN (.pk true), hE, hS, hN (.pk false), hE] (⟨[(4, pB false)], [], 0⟩) (.cons hg10 (.cons hg10 (.cons hg10 (.cons hg10 (.cons hg11 (.cons hg11 (.cons hg11 (.cons hg11 (.cons hg12 (.cons hg12 (.cons hg12 (.cons hg12 (.cons hg13 (.cons hg13 .nil))))))))))))))
       ·replace ht := ite_f ht hg12
        have e := Option.some.inj ht
        subst e
        exact rg0 (obs := [((decide (x6.1.Net = x7.1.Net) && (decide (x6.1.Host = x7.1.Host) && (decide (x6.1.Service = x7.1.Service) && true))) = true), ((decide (x6.1.Net = x7.1.Net) && (decide (x6.1.Host = x7.1.Host) && (decide (x6.1.Service = x7.1.Service) && true))) = true), ((decide (x6.1.Net = x7.1.Net) && (decide (x6.1.Host = x7.1.Host) && (decide (x6.1.Service = x7.1.Service) && true))) = true), ((decide (x6.1.Net = x7.1.Net) && (decide (x6.1.Host = x7.1.Host) && (decide (x6.1.Service = x7.1.Service) && true))) = true), ((decide (x6.2 = x7.2)) = true), ((decide (x6.2 = x7.2)) = true), ((decide (x6.2 = x7.2)) = true), ((decide (x6.2 = x7.2)) = true), ((decide (x8.1 = x9.1)) = false), ((decide (x8.1 = x9.1)) = false), ((decide (x8.1 = x9.1)) = false), ((decide (x8.1 = x9.1)) = false), (false = false)]) [hE, hE, hE, hE, hY, hY, hY, hN (.pk true), hE, hY, hY, hY, hN (.pk true), hE, hS, hS, hS, hN (.pk false), hE, hS, hE, hE] (⟨[(4, pB false)], [], 0⟩) (.cons hg10 (.cons hg10 (.cons hg10 (.cons hg10 (.cons hg11 (.cons hg11 (.cons hg11 (.cons hg11 (.cons hg12 (.cons hg12 (.cons hg12 (.cons hg12 (.cons rfl .nil)))))))))))))
      ·replace ht := ite_f ht hg11
       have e := Option.some.inj ht
       subst e
       exact rg0 (obs := [((decide (x6.1.Net = x7.1.Net) && (decide (x6.1.Host = x7.1.Host) && (decide (x6.1.Service = x7.1.Service) && true))) = true), ((decide (x6.1.Net = x7.1.Net) && (decide (x6.1.Host = x7.1.Host) && (decide (x6.1.Service = x7.1.Service) && true))) = true), ((decide (x6.1.Net = x7.1.Net) && (decide (x6.1.Host = x7.1.Host) && (decide (x6.1.Service = x7.1.Service) && true))) = true), ((decide (x6.1.Net = x7.1.Net) && (decide (x6.1.Host = x7.1.Host) && (decide (x6.1.Service = x7.1.Service) && true))) = true), ((decide (x6.2 = x7.2)) = false), ((decide (x6.2 = x7.2)) = false), ((decide (x6.2 = x7.2)) = false), ((decide (x6.2 = x7.2)) = false), (false = false), (false = false), (false = false), (false = false)]) [hE, hE, hE, hE, hY, hY, hY, hN (.pk true), hE, hS, hS, hS, hN (.pk false), hE, hS, hS, hS, hE, hE, hS, hE, hE] (⟨[(4, pB false)], [], 0⟩) (.cons hg10 (.cons hg10 (.cons hg10 (.cons hg10 (.cons hg11 (.cons hg11 (.cons hg11 (.cons hg11 (.cons rfl (.cons rfl (.cons rfl (.cons rfl .nil))))))))))))
     ·replace ht := ite_f ht hg10
      have e := Option.some.inj ht
      subst e
      exact rg0 (obs := [((decide (x6.1.Net = x7.1.Net) && (decide (x6.1.Host = x7.1.Host) && (decide (x6.1.Service = x7.1.Service) && true))) = false), ((decide (x6.1.Net = x7.1.Net) && (decide (x6.1.Host = x7.1.Host) && (decide (x6.1.Service = x7.1.Service) && true))) = false), ((decide (x6.1.Net = x7.1.Net) && (decide (x6.1.Host = x7.1.Host) && (decide (x6.1.Service = x7.1.Service) && true))) = false), ((decide (x6.1.Net = x7.1.Net) && (decide (x6.1.Host = x7.1.Host) && (decide (x6.1.Service = x7.1.Service) && true))) = false), (false = false), (false = false), (false = false), (false = false), (false = false), (false = false), (false = false)]) [hE, hE, hE, hE, hS, hS, hS, hN (.pk false), hE, hS, hS, hS, hE, hE, hS, hS, hS, hE, hE, hS, hE, hE] (⟨[(4, pB false)], [], 0⟩) (.cons hg10 (.cons hg10 (.cons hg10 (.cons hg10 (.cons rfl (.cons rfl (.cons rfl (.cons rfl (.cons rfl (.cons rfl (.cons rfl .nil)))))))))))
    ·clear ht
     refine x_toret ?_
     obtain rfl := Option.some.inj h
     exact ret0 (.bool t15) (.refl _) (fun _ => rfl)

end Go.Proofs.YtphblddgbbgdnaaDoor
