/- The functions of the program compute what their plain forms compute; printed by a program of the claim's author. -/
import Derived.Test.YtheeafnmkboblaaDoorC
import Derived.Test.YtheeafnmkboblaaDoorS
import Derived.Test.YtheeafnmkboblaaDoorShelf
import Derived.Test.YtheeafnmkboblaaDoorVmE
namespace Go.Proofs.YtheeafnmkboblaaDoor
open Go.Vm
set_option autoImplicit false
set_option linter.unusedVariables false
set_option linter.unusedSimpArgs false
set_option maxRecDepth 100000

theorem c5 {dir : Str} {p : Str} {r : Bool} (h : law03_PathJoins dir p = some r) : CallOK Tryd.prog 5 [.str dir, .str p] (.bool r) true := by
  apply ok5
  unfold law03_PathJoins at h
  refine x_rg (st2 := { tm := [(0, .pv (.str dir)), (1, .pv (.str p))], hp := [], nx := 0 }) (RegTo.mk [(.n, .e)] ({ tm := [(0, .pv (.str dir)), (1, .pv (.str p))], hp := [], nx := 0 }) [] (by kernel_rfl) .nil (Sub.refl _)) ?_
  refine x_seq ?_
  refine x_rg (st2 := { tm := [(0, .pv (.str dir)), (1, .pv (.str p)), (16, .pv (.bool ((decide (5000 < (List.length dir : Int))) || (decide (5000 < (List.length p : Int))))))], hp := [], nx := 0 }) ?_ ?_
  · rcases Bool.eq_false_or_eq_true (decide (5000 < (List.length dir : Int))) with hg1 | hg1
    · exact RegTo.mk [(.n, .e), (.n, .e), (.n, .e), (.n, .e), (.s, .e), (.s, .e), (.s, .e), (.n, (.pk true))] ({ tm := [(0, .pv (.str dir)), (1, .pv (.str p)), (16, .pv (.bool true))], hp := [], nx := 0 }) [((decide (5000 < (List.length dir : Int))) = true), ((decide (5000 < (List.length dir : Int))) = true), ((decide (5000 < (List.length dir : Int))) = true), ((decide (5000 < (List.length dir : Int))) = true)] (by kernel_rfl) (.cons hg1 (.cons hg1 (.cons hg1 (.cons hg1 .nil)))) (.of_eq (by simp only [hg1, Bool.true_or, Bool.false_or, Bool.true_and, Bool.false_and, Bool.or_true, Bool.or_false, Bool.and_true, Bool.and_false, Bool.false_eq_true, if_true, if_false, reduceIte]))
    · exact RegTo.mk [(.n, .e), (.n, .e), (.n, .e), (.n, .e), (.y, .e), (.y, .e), (.y, .e), (.n, (.pk false))] ({ tm := [(0, .pv (.str dir)), (1, .pv (.str p)), (16, .pv (.bool (decide (5000 < (List.length p : Int)))))], hp := [], nx := 0 }) [((decide (5000 < (List.length dir : Int))) = false), ((decide (5000 < (List.length dir : Int))) = false), ((decide (5000 < (List.length dir : Int))) = false), ((decide (5000 < (List.length dir : Int))) = false)] (by kernel_rfl) (.cons hg1 (.cons hg1 (.cons hg1 (.cons hg1 .nil)))) (.of_eq (by simp only [hg1, Bool.true_or, Bool.false_or, Bool.true_and, Bool.false_and, Bool.or_true, Bool.or_false, Bool.and_true, Bool.and_false, Bool.false_eq_true, if_true, if_false, reduceIte]))
  · refine x_cond _ rfl (fun hc3 => ?_) (fun hc3 => ?_)
    · replace h := ite_t h hc3
      obtain ⟨x4, hx4, h⟩ := bind_some h
      refine x_rg (st2 := { tm := [(4, .pv (.bool x4))], hp := [], nx := 0 }) (RegTo.mk [(.n, (.call [] (.bool x4) true)), (.n, .e)] ({ tm := [(4, .pv (.bool x4))], hp := [], nx := 0 }) [(LesA [] []), (CallOK Tryd.prog 11 [] (.bool x4) true)] (by kernel_rfl) (.cons (LesA.rfl' _) (.cons (c11 hx4) .nil)) (Sub.refl _)) ?_
      refine x_toret ?_
      refine x_tr ?_
      obtain rfl := Option.some.inj h
      exact x_ret (.bool x4) [] [] (by kernel_rfl) .nil (by decide) (.refl _) (fun _ => rfl)
    · replace h := ite_f h hc3
      refine x_kw (st2 := { tm := [(0, .pv (.str dir)), (1, .pv (.str p))], hp := [], nx := 0 }) ({ tm := [(0, .pv (.str dir)), (1, .pv (.str p))], hp := [], nx := 0 }) (by kernel_rfl) (Sub.refl _) ?_
      refine x_skip ?_
      refine x_tn ?_
      obtain ⟨x5, hx5, h⟩ := bind_some h
      refine x_rg (st2 := { tm := [(0, .pv (.str dir)), (1, .pv (.str p)), (5, .pv (.str x5.1)), (6, .pv (.int .i64 x5.2))], hp := [], nx := 0 }) (RegTo.mk [(.n, .e), (.n, .e), (.n, (.call [.str dir, .str p] (.tup [.str x5.1, .int .i64 x5.2]) true)), (.n, .e), (.n, .e), (.n, .e), (.n, .e), (.n, .e)] ({ tm := [(0, .pv (.str dir)), (1, .pv (.str p)), (5, .pv (.str x5.1)), (6, .pv (.int .i64 x5.2))], hp := [], nx := 0 }) [(LesA [.str dir, .str p] [.str dir, .str p]), (CallOK Tryd.prog 19 [.str dir, .str p] (.tup [.str x5.1, .int .i64 x5.2]) true)] (by kernel_rfl) (.cons (LesA.rfl' _) (.cons (c19 hx5) .nil)) (Sub.refl _)) ?_
      obtain ⟨x6, hx6, h⟩ := bind_some h
      refine x_rg (st2 := { tm := [(5, .pv (.str x5.1)), (6, .pv (.int .i64 x5.2)), (7, .pv (.str x6.1)), (8, .pv (.int .i64 x6.2))], hp := [], nx := 0 }) (RegTo.mk [(.n, .e), (.n, .e), (.n, (.call [.str dir, .str p] (.tup [.str x6.1, .int .i64 x6.2]) true)), (.n, .e), (.n, .e), (.n, .e), (.n, .e), (.n, .e)] ({ tm := [(5, .pv (.str x5.1)), (6, .pv (.int .i64 x5.2)), (7, .pv (.str x6.1)), (8, .pv (.int .i64 x6.2))], hp := [], nx := 0 }) [(LesA [.str dir, .str p] [.str dir, .str p]), (CallOK Tryd.prog 20 [.str dir, .str p] (.tup [.str x6.1, .int .i64 x6.2]) true)] (by kernel_rfl) (.cons (LesA.rfl' _) (.cons (c20 hx6) .nil)) (Sub.refl _)) ?_
      obtain ⟨t10, ht, h⟩ := bind_some h
      refine x_rg (st2 := { tm := [(4, .pv (.bool t10))], hp := [], nx := 0 }) ?_ ?_
      · rcases Bool.eq_false_or_eq_true (decide (x5.1 = x6.1)) with hg7 | hg7
        · replace ht := ite_t ht hg7
          rcases Bool.eq_false_or_eq_true (decide (x5.2 = x6.2)) with hg8 | hg8
          · replace ht := ite_t ht hg8
            obtain ⟨x9, hx9, ht⟩ := bind_some ht
            have e := Option.some.inj ht
            subst e
            exact RegTo.mk [(.n, .e), (.n, .e), (.n, .e), (.n, .e), (.y, .e), (.y, .e), (.y, .e), (.n, (.pk true)), (.n, .e), (.y, (.call [] (.bool x9) true)), (.n, (.pk true)), (.n, .e)] ({ tm := [(4, .pv (.bool x9))], hp := [], nx := 0 }) [((decide (x5.1 = x6.1)) = true), ((decide (x5.1 = x6.1)) = true), ((decide (x5.1 = x6.1)) = true), ((decide (x5.1 = x6.1)) = true), ((decide (x5.2 = x6.2)) = true), (LesA [] []), (CallOK Tryd.prog 11 [] (.bool x9) true), ((decide (x5.2 = x6.2)) = true)] (by kernel_rfl) (.cons hg7 (.cons hg7 (.cons hg7 (.cons hg7 (.cons hg8 (.cons (LesA.rfl' _) (.cons (c11 hx9) (.cons hg8 .nil)))))))) (Sub.refl _)
          · replace ht := ite_f ht hg8
            have e := Option.some.inj ht
            subst e
            exact RegTo.mk [(.n, .e), (.n, .e), (.n, .e), (.n, .e), (.y, .e), (.y, .e), (.y, .e), (.n, (.pk true)), (.n, .e), (.s, .e), (.n, (.pk false)), (.n, .e)] ({ tm := [(4, .pv (.bool false))], hp := [], nx := 0 }) [((decide (x5.1 = x6.1)) = true), ((decide (x5.1 = x6.1)) = true), ((decide (x5.1 = x6.1)) = true), ((decide (x5.1 = x6.1)) = true), ((decide (x5.2 = x6.2)) = false), ((decide (x5.2 = x6.2)) = false)] (by kernel_rfl) (.cons hg7 (.cons hg7 (.cons hg7 (.cons hg7 (.cons hg8 (.cons hg8 .nil)))))) (Sub.refl _)
        · replace ht := ite_f ht hg7
          have e := Option.some.inj ht
          subst e
          exact RegTo.mk [(.n, .e), (.n, .e), (.n, .e), (.n, .e), (.s, .e), (.s, .e), (.s, .e), (.n, (.pk false)), (.n, .e), (.s, .e), (.n, .e), (.n, .e)] ({ tm := [(4, .pv (.bool false))], hp := [], nx := 0 }) [((decide (x5.1 = x6.1)) = false), ((decide (x5.1 = x6.1)) = false), ((decide (x5.1 = x6.1)) = false), ((decide (x5.1 = x6.1)) = false), (false = false)] (by kernel_rfl) (.cons hg7 (.cons hg7 (.cons hg7 (.cons hg7 (.cons rfl .nil))))) (Sub.refl _)
      · clear ht
        refine x_toret ?_
        obtain rfl := Option.some.inj h
        exact x_ret (.bool t10) [] [] (by kernel_rfl) .nil (by decide) (.refl _) (fun _ => rfl)

theorem c22 {dir : Str} {p : Str} {r : Bool} (h : ref03_Under dir p = some r) : CallOK Tryd.prog 22 [.str dir, .str p] (.bool r) true := by
  apply ok22
  unfold ref03_Under at h
  refine x_rg (st2 := { tm := [(0, .pv (.str dir)), (1, .pv (.str p))], hp := [], nx := 0 }) (RegTo.mk [(.n, .e)] ({ tm := [(0, .pv (.str dir)), (1, .pv (.str p))], hp := [], nx := 0 }) [] (by kernel_rfl) .nil (Sub.refl _)) ?_
  obtain ⟨x1, hx1, h⟩ := bind_some h
  refine x_rg (st2 := { tm := [(0, .pv (.str dir)), (1, .pv (.str p)), (5, .osl 0 0 (List.map PV.str x1.1).length), (6, .pv (.int .i64 x1.2))], hp := [(0, some (.p none (List.map PV.str x1.1)))], nx := 1 }) (RegTo.mk [(.n, .e), (.n, (.call [.str dir] (.tup [.usl none (List.map PV.str x1.1), .int .i64 x1.2]) true)), (.n, .e), (.n, .e), (.n, .e), (.n, .e), (.n, .e)] ({ tm := [(0, .pv (.str dir)), (1, .pv (.str p)), (5, .osl 0 0 (List.map PV.str x1.1).length), (6, .pv (.int .i64 x1.2))], hp := [(0, some (.p none (List.map PV.str x1.1)))], nx := 1 }) [(LesA [.str dir] [.str dir]), (CallOK Tryd.prog 17 [.str dir] (.tup [.usl none (List.map PV.str x1.1), .int .i64 x1.2]) true)] (by kernel_rfl) (.cons (LesA.rfl' _) (.cons (c17 hx1) .nil)) (Sub.refl _)) ?_
  obtain ⟨x2, hx2, h⟩ := bind_some h
  refine x_rg (st2 := { tm := [(0, .pv (.str dir)), (1, .pv (.str p)), (5, .osl 0 0 (List.map PV.str x1.1).length), (6, .pv (.int .i64 x1.2)), (7, .osl 1 0 (List.map PV.str x2.1).length), (8, .pv (.int .i64 x2.2))], hp := [(0, some (.p none (List.map PV.str x1.1))), (1, some (.p none (List.map PV.str x2.1)))], nx := 2 }) (RegTo.mk [(.n, .e), (.n, (.call [.str p] (.tup [.usl none (List.map PV.str x2.1), .int .i64 x2.2]) true)), (.n, .e), (.n, .e), (.n, .e), (.n, .e), (.n, .e)] ({ tm := [(0, .pv (.str dir)), (1, .pv (.str p)), (5, .osl 0 0 (List.map PV.str x1.1).length), (6, .pv (.int .i64 x1.2)), (7, .osl 1 0 (List.map PV.str x2.1).length), (8, .pv (.int .i64 x2.2))], hp := [(0, some (.p none (List.map PV.str x1.1))), (1, some (.p none (List.map PV.str x2.1)))], nx := 2 }) [(LesA [.str p] [.str p]), (CallOK Tryd.prog 17 [.str p] (.tup [.usl none (List.map PV.str x2.1), .int .i64 x2.2]) true)] (by kernel_rfl) (.cons (LesA.rfl' _) (.cons (c17 hx2) .nil)) (Sub.refl _)) ?_
  refine x_seq ?_
  obtain ⟨t9, ht, h⟩ := bind_some h
  refine x_rg (st2 := { tm := [(5, .osl 0 0 (List.map PV.str x1.1).length), (7, .osl 1 0 (List.map PV.str x2.1).length), (42, .pv (.bool t9))], hp := [(0, some (.p none (List.map PV.str x1.1))), (1, some (.p none (List.map PV.str x2.1)))], nx := 2 }) ?_ ?_
  · rcases Bool.eq_false_or_eq_true (!decide (x1.2 = 0)) with hg3 | hg3
    · replace ht := ite_t ht hg3
      have e := Option.some.inj ht
      subst e
      exact RegTo.mk [(.n, .e), (.n, .e), (.n, .e), (.s, .e), (.s, .e), (.n, (.pk true)), (.n, .e), (.s, .e), (.s, .e), (.s, .e), (.n, .e), (.n, .e), (.s, .e), (.s, .e), (.s, .e), (.n, .e), (.n, .e), (.s, .e), (.s, .e), (.s, .e), (.s, .e), (.s, .e), (.n, .e)] ({ tm := [(5, .osl 0 0 (List.map PV.str x1.1).length), (7, .osl 1 0 (List.map PV.str x2.1).length), (42, .pv (.bool true))], hp := [(0, some (.p none (List.map PV.str x1.1))), (1, some (.p none (List.map PV.str x2.1)))], nx := 2 }) [((!decide (x1.2 = 0)) = true), ((!decide (x1.2 = 0)) = true), ((!decide (x1.2 = 0)) = true), (true = true), (true = true), (true = true), (true = true), (true = true), (true = true), (true = true), (true = true), (true = true), (true = true), (true = true)] (by kernel_rfl) (.cons hg3 (.cons hg3 (.cons hg3 (.cons rfl (.cons rfl (.cons rfl (.cons rfl (.cons rfl (.cons rfl (.cons rfl (.cons rfl (.cons rfl (.cons rfl (.cons rfl .nil)))))))))))))) (Sub.refl _)
    · replace ht := ite_f ht hg3
      rcases Bool.eq_false_or_eq_true (!decide (x2.2 = 0)) with hg4 | hg4
      · replace ht := ite_t ht hg4
        have e := Option.some.inj ht
        subst e
        exact RegTo.mk [(.n, .e), (.n, .e), (.n, .e), (.y, .e), (.y, .e), (.n, (.pk false)), (.n, .e), (.s, .e), (.s, .e), (.s, .e), (.n, (.pk true)), (.n, .e), (.s, .e), (.s, .e), (.s, .e), (.n, .e), (.n, .e), (.s, .e), (.s, .e), (.s, .e), (.s, .e), (.s, .e), (.n, .e)] ({ tm := [(5, .osl 0 0 (List.map PV.str x1.1).length), (7, .osl 1 0 (List.map PV.str x2.1).length), (42, .pv (.bool true))], hp := [(0, some (.p none (List.map PV.str x1.1))), (1, some (.p none (List.map PV.str x2.1)))], nx := 2 }) [((!decide (x1.2 = 0)) = false), ((!decide (x1.2 = 0)) = false), ((!decide (x1.2 = 0)) = false), ((!decide (x2.2 = 0)) = true), ((!decide (x2.2 = 0)) = true), ((!decide (x2.2 = 0)) = true), ((!decide (x2.2 = 0)) = true), (true = true), (true = true), (true = true), (true = true), (true = true), (true = true), (true = true), (true = true)] (by kernel_rfl) (.cons hg3 (.cons hg3 (.cons hg3 (.cons hg4 (.cons hg4 (.cons hg4 (.cons hg4 (.cons rfl (.cons rfl (.cons rfl (.cons rfl (.cons rfl (.cons rfl (.cons rfl (.cons rfl .nil))))))))))))))) (Sub.refl _)
      · replace ht := ite_f ht hg4
        obtain ⟨x5, hx5, ht⟩ := bind_some ht
        rcases Bool.eq_false_or_eq_true (!x5) with hg6 | hg6
        · replace ht := ite_t ht hg6
          have e := Option.some.inj ht
          subst e
          exact RegTo.mk [(.n, .e), (.n, .e), (.n, .e), (.y, .e), (.y, .e), (.n, (.pk false)), (.n, .e), (.y, .e), (.y, (.call [.str dir] (.bool x5) true)), (.y, .e), (.n, (.pk false)), (.n, .e), (.s, .e), (.s, .e), (.s, .e), (.n, (.pk true)), (.n, .e), (.s, .e), (.s, .e), (.s, .e), (.s, .e), (.s, .e), (.n, .e)] ({ tm := [(5, .osl 0 0 (List.map PV.str x1.1).length), (7, .osl 1 0 (List.map PV.str x2.1).length), (42, .pv (.bool true))], hp := [(0, some (.p none (List.map PV.str x1.1))), (1, some (.p none (List.map PV.str x2.1)))], nx := 2 }) [((!decide (x1.2 = 0)) = false), ((!decide (x1.2 = 0)) = false), ((!decide (x1.2 = 0)) = false), ((!decide (x2.2 = 0)) = false), ((!decide (x2.2 = 0)) = false), (LesA [.str dir] [.str dir]), (CallOK Tryd.prog 24 [.str dir] (.bool x5) true), ((!decide (x2.2 = 0)) = false), ((!decide (x2.2 = 0)) = false), ((!x5) = true), ((!x5) = true), ((!x5) = true), ((!x5) = true), (true = true), (true = true), (true = true), (true = true), (true = true)] (by kernel_rfl) (.cons hg3 (.cons hg3 (.cons hg3 (.cons hg4 (.cons hg4 (.cons (LesA.rfl' _) (.cons (c24 hx5) (.cons hg4 (.cons hg4 (.cons hg6 (.cons hg6 (.cons hg6 (.cons hg6 (.cons rfl (.cons rfl (.cons rfl (.cons rfl (.cons rfl .nil)))))))))))))))))) (Sub.refl _)
        · replace ht := ite_f ht hg6
          obtain ⟨x7, hx7, ht⟩ := bind_some ht
          rcases Bool.eq_false_or_eq_true (!x7) with hg8 | hg8
          · replace ht := ite_t ht hg8
            have e := Option.some.inj ht
            subst e
            exact RegTo.mk [(.n, .e), (.n, .e), (.n, .e), (.y, .e), (.y, .e), (.n, (.pk false)), (.n, .e), (.y, .e), (.y, (.call [.str dir] (.bool x5) true)), (.y, .e), (.n, (.pk false)), (.n, .e), (.y, .e), (.y, (.call [.str p] (.bool x7) true)), (.y, .e), (.n, (.pk false)), (.n, .e), (.s, .e), (.s, .e), (.s, .e), (.s, .e), (.s, .e), (.n, (.pk true))] ({ tm := [(5, .osl 0 0 (List.map PV.str x1.1).length), (7, .osl 1 0 (List.map PV.str x2.1).length), (42, .pv (.bool true))], hp := [(0, some (.p none (List.map PV.str x1.1))), (1, some (.p none (List.map PV.str x2.1)))], nx := 2 }) [((!decide (x1.2 = 0)) = false), ((!decide (x1.2 = 0)) = false), ((!decide (x1.2 = 0)) = false), ((!decide (x2.2 = 0)) = false), ((!decide (x2.2 = 0)) = false), (LesA [.str dir] [.str dir]), (CallOK Tryd.prog 24 [.str dir] (.bool x5) true), ((!decide (x2.2 = 0)) = false), ((!decide (x2.2 = 0)) = false), ((!x5) = false), ((!x5) = false), (LesA [.str p] [.str p]), (CallOK Tryd.prog 24 [.str p] (.bool x7) true), ((!x5) = false), ((!x5) = false), ((!x7) = true), ((!x7) = true), ((!x7) = true), ((!x7) = true), ((!x7) = true), ((!x7) = true)] (by kernel_rfl) (.cons hg3 (.cons hg3 (.cons hg3 (.cons hg4 (.cons hg4 (.cons (LesA.rfl' _) (.cons (c24 hx5) (.cons hg4 (.cons hg4 (.cons hg6 (.cons hg6 (.cons (LesA.rfl' _) (.cons (c24 hx7) (.cons hg6 (.cons hg6 (.cons hg8 (.cons hg8 (.cons hg8 (.cons hg8 (.cons hg8 (.cons hg8 .nil))))))))))))))))))))) (Sub.refl _)
          · replace ht := ite_f ht hg8
            have e := Option.some.inj ht
            subst e
            exact RegTo.mk [(.n, .e), (.n, .e), (.n, .e), (.y, .e), (.y, .e), (.n, (.pk false)), (.n, .e), (.y, .e), (.y, (.call [.str dir] (.bool x5) true)), (.y, .e), (.n, (.pk false)), (.n, .e), (.y, .e), (.y, (.call [.str p] (.bool x7) true)), (.y, .e), (.n, (.pk false)), (.n, .e), (.y, .e), (.y, (.len (List.length x1.1 : Int))), (.y, .e), (.y, (.len (List.length x2.1 : Int))), (.y, .e), (.n, (.pk false))] ({ tm := [(5, .osl 0 0 (List.map PV.str x1.1).length), (7, .osl 1 0 (List.map PV.str x2.1).length), (42, .pv (.bool (decide ((List.length x2.1 : Int) < (List.length x1.1 : Int)))))], hp := [(0, some (.p none (List.map PV.str x1.1))), (1, some (.p none (List.map PV.str x2.1)))], nx := 2 }) [((!decide (x1.2 = 0)) = false), ((!decide (x1.2 = 0)) = false), ((!decide (x1.2 = 0)) = false), ((!decide (x2.2 = 0)) = false), ((!decide (x2.2 = 0)) = false), (LesA [.str dir] [.str dir]), (CallOK Tryd.prog 24 [.str dir] (.bool x5) true), ((!decide (x2.2 = 0)) = false), ((!decide (x2.2 = 0)) = false), ((!x5) = false), ((!x5) = false), (LesA [.str p] [.str p]), (CallOK Tryd.prog 24 [.str p] (.bool x7) true), ((!x5) = false), ((!x5) = false), ((!x7) = false), ((!x7) = false), ((((List.map PV.str x1.1).length : Nat) : Int) = (List.length x1.1 : Int)), ((!x7) = false), ((!x7) = false), ((((List.map PV.str x2.1).length : Nat) : Int) = (List.length x2.1 : Int)), ((!x7) = false), ((!x7) = false)] (by kernel_rfl) (.cons hg3 (.cons hg3 (.cons hg3 (.cons hg4 (.cons hg4 (.cons (LesA.rfl' _) (.cons (c24 hx5) (.cons hg4 (.cons hg4 (.cons hg6 (.cons hg6 (.cons (LesA.rfl' _) (.cons (c24 hx7) (.cons hg6 (.cons hg6 (.cons hg8 (.cons hg8 (.cons (by rw [List.length_map]) (.cons hg8 (.cons hg8 (.cons (by rw [List.length_map]) (.cons hg8 (.cons hg8 .nil))))))))))))))))))))))) (Sub.refl _)
  · clear ht
    refine x_cond _ rfl (fun hc10 => ?_) (fun hc10 => ?_)
    · replace h := ite_t h hc10
      refine x_rg (st2 := { tm := [(4, .pv (.bool false))], hp := [], nx := 0 }) (RegTo.mk [(.n, .e)] ({ tm := [(4, .pv (.bool false))], hp := [], nx := 0 }) [] (by kernel_rfl) .nil (Sub.refl _)) ?_
      refine x_toret ?_
      refine x_tr ?_
      obtain rfl := Option.some.inj h
      exact x_ret (.bool false) [] [] (by kernel_rfl) .nil (by decide) (.refl _) (fun _ => rfl)
    · replace h := ite_f h hc10
      refine x_kw (st2 := { tm := [(5, .osl 0 0 (List.map PV.str x1.1).length), (7, .osl 1 0 (List.map PV.str x2.1).length)], hp := [(0, some (.p none (List.map PV.str x1.1))), (1, some (.p none (List.map PV.str x2.1)))], nx := 2 }) ({ tm := [(5, .osl 0 0 (List.map PV.str x1.1).length), (7, .osl 1 0 (List.map PV.str x2.1).length)], hp := [(0, some (.p none (List.map PV.str x1.1))), (1, some (.p none (List.map PV.str x2.1)))], nx := 2 }) (by kernel_rfl) (Sub.refl _) ?_
      refine x_skip ?_
      refine x_tn ?_
      refine x_seq ?_
      refine x_rg (st2 := { tm := [(5, .osl 0 0 (List.map PV.str x1.1).length), (7, .osl 1 0 (List.map PV.str x2.1).length), (9, .pv (.int .i64 0))], hp := [(0, some (.p none (List.map PV.str x1.1))), (1, some (.p none (List.map PV.str x2.1)))], nx := 2 }) (RegTo.mk [(.n, .e)] ({ tm := [(5, .osl 0 0 (List.map PV.str x1.1).length), (7, .osl 1 0 (List.map PV.str x2.1).length), (9, .pv (.int .i64 0))], hp := [(0, some (.p none (List.map PV.str x1.1))), (1, some (.p none (List.map PV.str x2.1)))], nx := 2 }) [] (by kernel_rfl) .nil (Sub.refl _)) ?_
      refine x_block ?_
      refine x_kw (st2 := { tm := [(5, .osl 0 0 (List.map PV.str x1.1).length), (7, .osl 1 0 (List.map PV.str x2.1).length), (9, .pv (.int .i64 0))], hp := [(0, some (.p none (List.map PV.str x1.1))), (1, some (.p none (List.map PV.str x2.1)))], nx := 2 }) ({ tm := [(5, .osl 0 0 (List.map PV.str x1.1).length), (7, .osl 1 0 (List.map PV.str x2.1).length), (9, .pv (.int .i64 0))], hp := [(0, some (.p none (List.map PV.str x1.1))), (1, some (.p none (List.map PV.str x2.1)))], nx := 2 }) (by kernel_rfl) (Sub.refl _) ?_
      refine x_loop (σ := Int) h (fun s => { tm := [(5, .osl 0 0 (List.map PV.str x1.1).length), (7, .osl 1 0 (List.map PV.str x2.1).length), (9, .pv (.int .i64 s))], hp := [(0, some (.p none (List.map PV.str x1.1))), (1, some (.p none (List.map PV.str x2.1)))], nx := 2 }) (by kernel_rfl) ?_ ?_
      · rintro i
        kernel_rfl
      · rintro i x16 h hx16
        replace h : ref03_Under_L16 x1 x2 i = some x16 := h
        unfold ref03_Under_L16 at h
        refine x_seq ?_
        refine x_rg (st2 := { tm := [(5, .osl 0 0 (List.map PV.str x1.1).length), (7, .osl 1 0 (List.map PV.str x2.1).length), (9, .pv (.int .i64 i)), (46, .pv (.bool (decide (i < (List.length x1.1 : Int)))))], hp := [(0, some (.p none (List.map PV.str x1.1))), (1, some (.p none (List.map PV.str x2.1)))], nx := 2 }) (RegTo.mk [(.n, .e), (.n, .e), (.n, (.len (List.length x1.1 : Int))), (.n, .e)] ({ tm := [(5, .osl 0 0 (List.map PV.str x1.1).length), (7, .osl 1 0 (List.map PV.str x2.1).length), (9, .pv (.int .i64 i)), (46, .pv (.bool (decide (i < (List.length x1.1 : Int)))))], hp := [(0, some (.p none (List.map PV.str x1.1))), (1, some (.p none (List.map PV.str x2.1)))], nx := 2 }) [((((List.map PV.str x1.1).length : Nat) : Int) = (List.length x1.1 : Int))] (by kernel_rfl) (.cons (by rw [List.length_map]) .nil) (Sub.refl _)) ?_
        refine x_cond _ rfl (fun hc17 => ?_) (fun hc17 => ?_)
        · replace h := ite_t h hc17
          refine x_kw (st2 := { tm := [(5, .osl 0 0 (List.map PV.str x1.1).length), (7, .osl 1 0 (List.map PV.str x2.1).length), (9, .pv (.int .i64 i))], hp := [(0, some (.p none (List.map PV.str x1.1))), (1, some (.p none (List.map PV.str x2.1)))], nx := 2 }) ({ tm := [(5, .osl 0 0 (List.map PV.str x1.1).length), (7, .osl 1 0 (List.map PV.str x2.1).length), (9, .pv (.int .i64 i))], hp := [(0, some (.p none (List.map PV.str x1.1))), (1, some (.p none (List.map PV.str x2.1)))], nx := 2 }) (by kernel_rfl) (Sub.refl _) ?_
          refine x_skip ?_
          refine x_tn ?_
          refine x_seq ?_
          refine x_block ?_
          obtain ⟨x18, hx18, h⟩ := bind_some h
          obtain ⟨x19, hx19, h⟩ := bind_some h
          refine x_rg (st2 := { tm := [(5, .osl 0 0 (List.map PV.str x1.1).length), (7, .osl 1 0 (List.map PV.str x2.1).length), (9, .pv (.int .i64 i)), (57, .pv (.bool (!decide (x18 = x19))))], hp := [(0, some (.p none (List.map PV.str x1.1))), (1, some (.p none (List.map PV.str x2.1)))], nx := 2 }) (RegTo.mk [(.n, .e), (.n, .e), (.n, .rAt), (.n, (.ld (.str x18))), (.n, .e), (.n, .e), (.n, .rAt), (.n, (.ld (.str x19))), (.n, .e)] ({ tm := [(5, .osl 0 0 (List.map PV.str x1.1).length), (7, .osl 1 0 (List.map PV.str x2.1).length), (9, .pv (.int .i64 i)), (57, .pv (.bool (!decide (x18 = x19))))], hp := [(0, some (.p none (List.map PV.str x1.1))), (1, some (.p none (List.map PV.str x2.1)))], nx := 2 }) [(0 ≤ (i : Int) ∧ Int.toNat i < (List.map PV.str x1.1).length), ((List.map PV.str x1.1)[(0 + Int.toNat i)]? = some (.str x18)), (0 ≤ (i : Int) ∧ Int.toNat i < (List.map PV.str x2.1).length), ((List.map PV.str x2.1)[(0 + Int.toNat i)]? = some (.str x19))] (by kernel_rfl) (.cons (rAt_ob hx18 (by simp)) (.cons (ownAt hx18) (.cons (rAt_ob hx19 (by simp)) (.cons (ownAt hx19) .nil)))) (Sub.refl _)) ?_
          refine x_cond _ rfl (fun hc20 => ?_) (fun hc20 => ?_)
          · replace h := ite_t h hc20
            refine x_rg (st2 := { tm := [(4, .pv (.bool false))], hp := [], nx := 0 }) (RegTo.mk [(.n, .e)] ({ tm := [(4, .pv (.bool false))], hp := [], nx := 0 }) [] (by kernel_rfl) .nil (Sub.refl _)) ?_
            refine x_toret ?_
            refine x_br ?_
            refine x_tr ?_
            refine x_tr ?_
            replace h := done_leaf h hx16
            refine x_br ?_
            refine x_tr ?_
            obtain rfl := Option.some.inj h
            exact x_ret (.bool false) [] [] (by kernel_rfl) .nil (by decide) (.refl _) (fun _ => rfl)
          · replace h := ite_f h hc20
            refine x_kw (st2 := { tm := [(5, .osl 0 0 (List.map PV.str x1.1).length), (7, .osl 1 0 (List.map PV.str x2.1).length), (9, .pv (.int .i64 i))], hp := [(0, some (.p none (List.map PV.str x1.1))), (1, some (.p none (List.map PV.str x2.1)))], nx := 2 }) ({ tm := [(5, .osl 0 0 (List.map PV.str x1.1).length), (7, .osl 1 0 (List.map PV.str x2.1).length), (9, .pv (.int .i64 i))], hp := [(0, some (.p none (List.map PV.str x1.1))), (1, some (.p none (List.map PV.str x2.1)))], nx := 2 }) (by kernel_rfl) (Sub.refl _) ?_
            refine x_skip ?_
            refine x_bn ?_
            refine x_tn ?_
            refine x_rgt (st2 := { tm := [(5, .osl 0 0 (List.map PV.str x1.1).length), (7, .osl 1 0 (List.map PV.str x2.1).length), (9, .pv (.int .i64 (IntKind.wrap .i64 (i + 1))))], hp := [(0, some (.p none (List.map PV.str x1.1))), (1, some (.p none (List.map PV.str x2.1)))], nx := 2 }) (RegTo.mk [(.n, .e), (.n, .e), (.n, .e)] ({ tm := [(5, .osl 0 0 (List.map PV.str x1.1).length), (7, .osl 1 0 (List.map PV.str x2.1).length), (9, .pv (.int .i64 (IntKind.wrap .i64 (i + 1))))], hp := [(0, some (.p none (List.map PV.str x1.1))), (1, some (.p none (List.map PV.str x2.1)))], nx := 2 }) [] (by kernel_rfl) .nil (Sub.refl _)) ?_
            refine x_tn ?_
            exact ⟨_, (Option.some.inj h).symm, by kernel_rfl⟩
        · replace h := ite_f h hc17
          refine x_kw (st2 := { tm := [], hp := [], nx := 0 }) ({ tm := [], hp := [], nx := 0 }) (by kernel_rfl) (Sub.refl _) ?_
          refine x_exit ?_
          refine x_te ?_
          refine x_te ?_
          replace h := done_leaf h hx16
          refine x_bh ?_
          refine x_tn ?_
          refine x_rg (st2 := { tm := [(4, .pv (.bool true))], hp := [], nx := 0 }) (RegTo.mk [(.n, .e)] ({ tm := [(4, .pv (.bool true))], hp := [], nx := 0 }) [] (by kernel_rfl) .nil (Sub.refl _)) ?_
          refine x_toret ?_
          obtain rfl := Option.some.inj h
          exact x_ret (.bool true) [] [] (by kernel_rfl) .nil (by decide) (.refl _) (fun _ => rfl)

theorem c6 {dir : Str} {p : Str} {r : Bool} (h : law03_PathContains dir p = some r) : CallOK Tryd.prog 6 [.str dir, .str p] (.bool r) true := by
  apply ok6
  unfold law03_PathContains at h
  refine x_rg (st2 := { tm := [(0, .pv (.str dir)), (1, .pv (.str p))], hp := [], nx := 0 }) (RegTo.mk [(.n, .e)] ({ tm := [(0, .pv (.str dir)), (1, .pv (.str p))], hp := [], nx := 0 }) [] (by kernel_rfl) .nil (Sub.refl _)) ?_
  refine x_seq ?_
  refine x_rg (st2 := { tm := [(0, .pv (.str dir)), (1, .pv (.str p)), (12, .pv (.bool ((decide (5000 < (List.length dir : Int))) || (decide (5000 < (List.length p : Int))))))], hp := [], nx := 0 }) ?_ ?_
  · rcases Bool.eq_false_or_eq_true (decide (5000 < (List.length dir : Int))) with hg1 | hg1
    · exact RegTo.mk [(.n, .e), (.n, .e), (.n, .e), (.n, .e), (.s, .e), (.s, .e), (.s, .e), (.n, (.pk true))] ({ tm := [(0, .pv (.str dir)), (1, .pv (.str p)), (12, .pv (.bool true))], hp := [], nx := 0 }) [((decide (5000 < (List.length dir : Int))) = true), ((decide (5000 < (List.length dir : Int))) = true), ((decide (5000 < (List.length dir : Int))) = true), ((decide (5000 < (List.length dir : Int))) = true)] (by kernel_rfl) (.cons hg1 (.cons hg1 (.cons hg1 (.cons hg1 .nil)))) (.of_eq (by simp only [hg1, Bool.true_or, Bool.false_or, Bool.true_and, Bool.false_and, Bool.or_true, Bool.or_false, Bool.and_true, Bool.and_false, Bool.false_eq_true, if_true, if_false, reduceIte]))
    · exact RegTo.mk [(.n, .e), (.n, .e), (.n, .e), (.n, .e), (.y, .e), (.y, .e), (.y, .e), (.n, (.pk false))] ({ tm := [(0, .pv (.str dir)), (1, .pv (.str p)), (12, .pv (.bool (decide (5000 < (List.length p : Int)))))], hp := [], nx := 0 }) [((decide (5000 < (List.length dir : Int))) = false), ((decide (5000 < (List.length dir : Int))) = false), ((decide (5000 < (List.length dir : Int))) = false), ((decide (5000 < (List.length dir : Int))) = false)] (by kernel_rfl) (.cons hg1 (.cons hg1 (.cons hg1 (.cons hg1 .nil)))) (.of_eq (by simp only [hg1, Bool.true_or, Bool.false_or, Bool.true_and, Bool.false_and, Bool.or_true, Bool.or_false, Bool.and_true, Bool.and_false, Bool.false_eq_true, if_true, if_false, reduceIte]))
  · refine x_cond _ rfl (fun hc3 => ?_) (fun hc3 => ?_)
    · replace h := ite_t h hc3
      obtain ⟨x4, hx4, h⟩ := bind_some h
      refine x_rg (st2 := { tm := [(4, .pv (.bool x4))], hp := [], nx := 0 }) (RegTo.mk [(.n, (.call [] (.bool x4) true)), (.n, .e)] ({ tm := [(4, .pv (.bool x4))], hp := [], nx := 0 }) [(LesA [] []), (CallOK Tryd.prog 11 [] (.bool x4) true)] (by kernel_rfl) (.cons (LesA.rfl' _) (.cons (c11 hx4) .nil)) (Sub.refl _)) ?_
      refine x_toret ?_
      refine x_tr ?_
      obtain rfl := Option.some.inj h
      exact x_ret (.bool x4) [] [] (by kernel_rfl) .nil (by decide) (.refl _) (fun _ => rfl)
    · replace h := ite_f h hc3
      refine x_kw (st2 := { tm := [(0, .pv (.str dir)), (1, .pv (.str p))], hp := [], nx := 0 }) ({ tm := [(0, .pv (.str dir)), (1, .pv (.str p))], hp := [], nx := 0 }) (by kernel_rfl) (Sub.refl _) ?_
      refine x_skip ?_
      refine x_tn ?_
      obtain ⟨x5, hx5, h⟩ := bind_some h
      obtain ⟨x6, hx6, h⟩ := bind_some h
      obtain ⟨t9, ht, h⟩ := bind_some h
      refine x_rg (st2 := { tm := [(4, .pv (.bool t9))], hp := [], nx := 0 }) ?_ ?_
      · rcases Bool.eq_false_or_eq_true (decide (x5 = x6)) with hg7 | hg7
        · replace ht := ite_t ht hg7
          obtain ⟨x8, hx8, ht⟩ := bind_some ht
          have e := Option.some.inj ht
          subst e
          exact RegTo.mk [(.n, .e), (.n, .e), (.n, (.call [.str dir, .str p] (.bool x5) true)), (.n, .e), (.n, .e), (.n, (.call [.str dir, .str p] (.bool x6) true)), (.n, .e), (.n, .e), (.y, (.call [] (.bool x8) true)), (.n, (.pk true)), (.n, .e)] ({ tm := [(4, .pv (.bool x8))], hp := [], nx := 0 }) [(LesA [.str dir, .str p] [.str dir, .str p]), (CallOK Tryd.prog 21 [.str dir, .str p] (.bool x5) true), (LesA [.str dir, .str p] [.str dir, .str p]), (CallOK Tryd.prog 22 [.str dir, .str p] (.bool x6) true), ((decide (x5 = x6)) = true), (LesA [] []), (CallOK Tryd.prog 11 [] (.bool x8) true), ((decide (x5 = x6)) = true)] (by kernel_rfl) (.cons (LesA.rfl' _) (.cons (c21 hx5) (.cons (LesA.rfl' _) (.cons (c22 hx6) (.cons hg7 (.cons (LesA.rfl' _) (.cons (c11 hx8) (.cons hg7 .nil)))))))) (Sub.refl _)
        · replace ht := ite_f ht hg7
          have e := Option.some.inj ht
          subst e
          exact RegTo.mk [(.n, .e), (.n, .e), (.n, (.call [.str dir, .str p] (.bool x5) true)), (.n, .e), (.n, .e), (.n, (.call [.str dir, .str p] (.bool x6) true)), (.n, .e), (.n, .e), (.s, .e), (.n, (.pk false)), (.n, .e)] ({ tm := [(4, .pv (.bool false))], hp := [], nx := 0 }) [(LesA [.str dir, .str p] [.str dir, .str p]), (CallOK Tryd.prog 21 [.str dir, .str p] (.bool x5) true), (LesA [.str dir, .str p] [.str dir, .str p]), (CallOK Tryd.prog 22 [.str dir, .str p] (.bool x6) true), ((decide (x5 = x6)) = false), ((decide (x5 = x6)) = false)] (by kernel_rfl) (.cons (LesA.rfl' _) (.cons (c21 hx5) (.cons (LesA.rfl' _) (.cons (c22 hx6) (.cons hg7 (.cons hg7 .nil)))))) (Sub.refl _)
      · clear ht
        refine x_toret ?_
        obtain rfl := Option.some.inj h
        exact x_ret (.bool t9) [] [] (by kernel_rfl) .nil (by decide) (.refl _) (fun _ => rfl)

theorem c7 {p : Str} {r : Bool} (h : law03_PathSettles p = some r) : CallOK Tryd.prog 7 [.str p] (.bool r) true := by
  apply ok7
  unfold law03_PathSettles at h
  refine x_rg (st2 := { tm := [(0, .pv (.str p))], hp := [], nx := 0 }) (RegTo.mk [(.n, .e)] ({ tm := [(0, .pv (.str p))], hp := [], nx := 0 }) [] (by kernel_rfl) .nil (Sub.refl _)) ?_
  refine x_seq ?_
  refine x_rg (st2 := { tm := [(0, .pv (.str p)), (11, .pv (.bool (decide (5000 < (List.length p : Int)))))], hp := [], nx := 0 }) (RegTo.mk [(.n, .e), (.n, .e), (.n, .e)] ({ tm := [(0, .pv (.str p)), (11, .pv (.bool (decide (5000 < (List.length p : Int)))))], hp := [], nx := 0 }) [] (by kernel_rfl) .nil (Sub.refl _)) ?_
  refine x_cond _ rfl (fun hc1 => ?_) (fun hc1 => ?_)
  · replace h := ite_t h hc1
    obtain ⟨x2, hx2, h⟩ := bind_some h
    refine x_rg (st2 := { tm := [(2, .pv (.bool x2))], hp := [], nx := 0 }) (RegTo.mk [(.n, (.call [] (.bool x2) true)), (.n, .e)] ({ tm := [(2, .pv (.bool x2))], hp := [], nx := 0 }) [(LesA [] []), (CallOK Tryd.prog 11 [] (.bool x2) true)] (by kernel_rfl) (.cons (LesA.rfl' _) (.cons (c11 hx2) .nil)) (Sub.refl _)) ?_
    refine x_toret ?_
    refine x_tr ?_
    obtain rfl := Option.some.inj h
    exact x_ret (.bool x2) [] [] (by kernel_rfl) .nil (by decide) (.refl _) (fun _ => rfl)
  · replace h := ite_f h hc1
    refine x_kw (st2 := { tm := [(0, .pv (.str p))], hp := [], nx := 0 }) ({ tm := [(0, .pv (.str p))], hp := [], nx := 0 }) (by kernel_rfl) (Sub.refl _) ?_
    refine x_skip ?_
    refine x_tn ?_
    obtain ⟨x3, hx3, h⟩ := bind_some h
    refine x_rg (st2 := { tm := [(0, .pv (.str p)), (3, .pv (.str x3.1)), (4, .pv (.int .i64 x3.2))], hp := [], nx := 0 }) (RegTo.mk [(.n, .e), (.n, (.call [.str p] (.tup [.str x3.1, .int .i64 x3.2]) true)), (.n, .e), (.n, .e), (.n, .e), (.n, .e), (.n, .e)] ({ tm := [(0, .pv (.str p)), (3, .pv (.str x3.1)), (4, .pv (.int .i64 x3.2))], hp := [], nx := 0 }) [(LesA [.str p] [.str p]), (CallOK Tryd.prog 14 [.str p] (.tup [.str x3.1, .int .i64 x3.2]) true)] (by kernel_rfl) (.cons (LesA.rfl' _) (.cons (c14 hx3) .nil)) (Sub.refl _)) ?_
    refine x_seq ?_
    refine x_rg (st2 := { tm := [(0, .pv (.str p)), (3, .pv (.str x3.1)), (19, .pv (.bool (!decide (x3.2 = 0))))], hp := [], nx := 0 }) (RegTo.mk [(.n, .e), (.n, .e)] ({ tm := [(0, .pv (.str p)), (3, .pv (.str x3.1)), (19, .pv (.bool (!decide (x3.2 = 0))))], hp := [], nx := 0 }) [] (by kernel_rfl) .nil (Sub.refl _)) ?_
    refine x_cond _ rfl (fun hc4 => ?_) (fun hc4 => ?_)
    · replace h := ite_t h hc4
      obtain ⟨t7, ht, h⟩ := bind_some h
      refine x_rg (st2 := { tm := [(2, .pv (.bool t7))], hp := [], nx := 0 }) ?_ ?_
      · rcases Bool.eq_false_or_eq_true (decide (x3.1 = [])) with hg5 | hg5
        · replace ht := ite_t ht hg5
          obtain ⟨x6, hx6, ht⟩ := bind_some ht
          have e := Option.some.inj ht
          subst e
          exact RegTo.mk [(.n, .e), (.n, .e), (.n, .e), (.y, (.call [] (.bool x6) true)), (.n, (.pk true)), (.n, .e)] ({ tm := [(2, .pv (.bool x6))], hp := [], nx := 0 }) [((decide (x3.1 = [])) = true), (LesA [] []), (CallOK Tryd.prog 11 [] (.bool x6) true), ((decide (x3.1 = [])) = true)] (by kernel_rfl) (.cons hg5 (.cons (LesA.rfl' _) (.cons (c11 hx6) (.cons hg5 .nil)))) (Sub.refl _)
        · replace ht := ite_f ht hg5
          have e := Option.some.inj ht
          subst e
          exact RegTo.mk [(.n, .e), (.n, .e), (.n, .e), (.s, .e), (.n, (.pk false)), (.n, .e)] ({ tm := [(2, .pv (.bool false))], hp := [], nx := 0 }) [((decide (x3.1 = [])) = false), ((decide (x3.1 = [])) = false)] (by kernel_rfl) (.cons hg5 (.cons hg5 .nil)) (Sub.refl _)
      · clear ht
        refine x_toret ?_
        refine x_tr ?_
        obtain rfl := Option.some.inj h
        exact x_ret (.bool t7) [] [] (by kernel_rfl) .nil (by decide) (.refl _) (fun _ => rfl)
    · replace h := ite_f h hc4
      refine x_kw (st2 := { tm := [(0, .pv (.str p)), (3, .pv (.str x3.1))], hp := [], nx := 0 }) ({ tm := [(0, .pv (.str p)), (3, .pv (.str x3.1))], hp := [], nx := 0 }) (by kernel_rfl) (Sub.refl _) ?_
      refine x_skip ?_
      refine x_tn ?_
      obtain ⟨x8, hx8, h⟩ := bind_some h
      refine x_rg (st2 := { tm := [(0, .pv (.str p)), (3, .pv (.str x3.1)), (5, .pv (.str x8.1)), (6, .pv (.int .i64 x8.2))], hp := [], nx := 0 }) (RegTo.mk [(.n, .e), (.n, (.call [.str x3.1] (.tup [.str x8.1, .int .i64 x8.2]) true)), (.n, .e), (.n, .e), (.n, .e), (.n, .e), (.n, .e)] ({ tm := [(0, .pv (.str p)), (3, .pv (.str x3.1)), (5, .pv (.str x8.1)), (6, .pv (.int .i64 x8.2))], hp := [], nx := 0 }) [(LesA [.str x3.1] [.str x3.1]), (CallOK Tryd.prog 14 [.str x3.1] (.tup [.str x8.1, .int .i64 x8.2]) true)] (by kernel_rfl) (.cons (LesA.rfl' _) (.cons (c14 hx8) .nil)) (Sub.refl _)) ?_
      obtain ⟨x9, hx9, h⟩ := bind_some h
      refine x_rg (st2 := { tm := [(0, .pv (.str p)), (3, .pv (.str x3.1)), (5, .pv (.str x8.1)), (6, .pv (.int .i64 x8.2)), (7, .osl 0 0 (List.map PV.str x9.1).length), (8, .pv (.int .i64 x9.2))], hp := [(0, some (.p none (List.map PV.str x9.1)))], nx := 1 }) (RegTo.mk [(.n, .e), (.n, (.call [.str x3.1] (.tup [.usl none (List.map PV.str x9.1), .int .i64 x9.2]) true)), (.n, .e), (.n, .e), (.n, .e), (.n, .e), (.n, .e)] ({ tm := [(0, .pv (.str p)), (3, .pv (.str x3.1)), (5, .pv (.str x8.1)), (6, .pv (.int .i64 x8.2)), (7, .osl 0 0 (List.map PV.str x9.1).length), (8, .pv (.int .i64 x9.2))], hp := [(0, some (.p none (List.map PV.str x9.1)))], nx := 1 }) [(LesA [.str x3.1] [.str x3.1]), (CallOK Tryd.prog 16 [.str x3.1] (.tup [.usl none (List.map PV.str x9.1), .int .i64 x9.2]) true)] (by kernel_rfl) (.cons (LesA.rfl' _) (.cons (c16 hx9) .nil)) (Sub.refl _)) ?_
      obtain ⟨t17, ht, h⟩ := bind_some h
      refine x_rg (st2 := { tm := [(2, .pv (.bool t17))], hp := [], nx := 0 }) ?_ ?_
      · rcases Bool.eq_false_or_eq_true (decide (x8.2 = 0)) with hg10 | hg10
        · replace ht := ite_t ht hg10
          rcases Bool.eq_false_or_eq_true (decide (x3.1 = x8.1)) with hg11 | hg11
          · replace ht := ite_t ht hg11
            rcases Bool.eq_false_or_eq_true (decide (x9.2 = 0)) with hg12 | hg12
            · replace ht := ite_t ht hg12
              obtain ⟨x13, hx13, ht⟩ := bind_some ht
              obtain ⟨x14, hx14, ht⟩ := bind_some ht
              rcases Bool.eq_false_or_eq_true (decide (x14 = x3.1)) with hg15 | hg15
              · replace ht := ite_t ht hg15
                obtain ⟨x16, hx16, ht⟩ := bind_some ht
                have e := Option.some.inj ht
                subst e
                exact RegTo.mk [(.n, .e), (.n, .e), (.n, .e), (.y, .e), (.y, .e), (.y, .e), (.n, (.pk true)), (.n, .e), (.y, .e), (.y, .e), (.n, (.pk true)), (.n, .e), (.y, .e), (.y, (.call [.str p] (.bool x13) true)), (.y, .e), (.y, (.call [.bool x13, .sl none (List.map PV.str x9.1)] (.str x14) true)), (.y, .e), (.y, .e), (.n, (.pk true)), (.n, .e), (.y, (.call [] (.bool x16) true)), (.n, (.pk true)), (.n, .e)] ({ tm := [(2, .pv (.bool x16))], hp := [], nx := 0 }) [((decide (x8.2 = 0)) = true), ((decide (x8.2 = 0)) = true), ((decide (x8.2 = 0)) = true), ((decide (x8.2 = 0)) = true), ((decide (x3.1 = x8.1)) = true), ((decide (x3.1 = x8.1)) = true), ((decide (x3.1 = x8.1)) = true), ((decide (x9.2 = 0)) = true), ((decide (x9.2 = 0)) = true), (LesA [.str p] [.str p]), (CallOK Tryd.prog 24 [.str p] (.bool x13) true), ((decide (x9.2 = 0)) = true), ((decide (x9.2 = 0)) = true), (LesA [.bool x13, .sl none (List.take (List.map PV.str x9.1).length (List.drop 0 (List.map PV.str x9.1)))] [.bool x13, .sl none (List.map PV.str x9.1)]), (CallOK Tryd.prog 23 [.bool x13, .sl none (List.map PV.str x9.1)] (.str x14) true), (0 + (List.map PV.str x9.1).length ≤ List.length (List.map PV.str x9.1)), ((decide (x9.2 = 0)) = true), ((decide (x9.2 = 0)) = true), ((decide (x9.2 = 0)) = true), ((decide (x14 = x3.1)) = true), (LesA [] []), (CallOK Tryd.prog 11 [] (.bool x16) true), ((decide (x14 = x3.1)) = true)] (by kernel_rfl) (.cons hg10 (.cons hg10 (.cons hg10 (.cons hg10 (.cons hg11 (.cons hg11 (.cons hg11 (.cons hg12 (.cons hg12 (.cons (LesA.rfl' _) (.cons (c24 hx13) (.cons hg12 (.cons hg12 (.cons (.cons (.refl _) (.cons (.of_eq (by rw [List.drop_zero, List.take_length])) .nil)) (.cons (c23 hx14) (.cons (by simp) (.cons hg12 (.cons hg12 (.cons hg12 (.cons hg15 (.cons (LesA.rfl' _) (.cons (c11 hx16) (.cons hg15 .nil))))))))))))))))))))))) (Sub.refl _)
              · replace ht := ite_f ht hg15
                have e := Option.some.inj ht
                subst e
                exact RegTo.mk [(.n, .e), (.n, .e), (.n, .e), (.y, .e), (.y, .e), (.y, .e), (.n, (.pk true)), (.n, .e), (.y, .e), (.y, .e), (.n, (.pk true)), (.n, .e), (.y, .e), (.y, (.call [.str p] (.bool x13) true)), (.y, .e), (.y, (.call [.bool x13, .sl none (List.map PV.str x9.1)] (.str x14) true)), (.y, .e), (.y, .e), (.n, (.pk true)), (.n, .e), (.s, .e), (.n, (.pk false)), (.n, .e)] ({ tm := [(2, .pv (.bool false))], hp := [], nx := 0 }) [((decide (x8.2 = 0)) = true), ((decide (x8.2 = 0)) = true), ((decide (x8.2 = 0)) = true), ((decide (x8.2 = 0)) = true), ((decide (x3.1 = x8.1)) = true), ((decide (x3.1 = x8.1)) = true), ((decide (x3.1 = x8.1)) = true), ((decide (x9.2 = 0)) = true), ((decide (x9.2 = 0)) = true), (LesA [.str p] [.str p]), (CallOK Tryd.prog 24 [.str p] (.bool x13) true), ((decide (x9.2 = 0)) = true), ((decide (x9.2 = 0)) = true), (LesA [.bool x13, .sl none (List.take (List.map PV.str x9.1).length (List.drop 0 (List.map PV.str x9.1)))] [.bool x13, .sl none (List.map PV.str x9.1)]), (CallOK Tryd.prog 23 [.bool x13, .sl none (List.map PV.str x9.1)] (.str x14) true), (0 + (List.map PV.str x9.1).length ≤ List.length (List.map PV.str x9.1)), ((decide (x9.2 = 0)) = true), ((decide (x9.2 = 0)) = true), ((decide (x9.2 = 0)) = true), ((decide (x14 = x3.1)) = false), ((decide (x14 = x3.1)) = false)] (by kernel_rfl) (.cons hg10 (.cons hg10 (.cons hg10 (.cons hg10 (.cons hg11 (.cons hg11 (.cons hg11 (.cons hg12 (.cons hg12 (.cons (LesA.rfl' _) (.cons (c24 hx13) (.cons hg12 (.cons hg12 (.cons (.cons (.refl _) (.cons (.of_eq (by rw [List.drop_zero, List.take_length])) .nil)) (.cons (c23 hx14) (.cons (by simp) (.cons hg12 (.cons hg12 (.cons hg12 (.cons hg15 (.cons hg15 .nil))))))))))))))))))))) (Sub.refl _)
            · replace ht := ite_f ht hg12
              have e := Option.some.inj ht
              subst e
              exact RegTo.mk [(.n, .e), (.n, .e), (.n, .e), (.y, .e), (.y, .e), (.y, .e), (.n, (.pk true)), (.n, .e), (.y, .e), (.y, .e), (.n, (.pk true)), (.n, .e), (.s, .e), (.s, .e), (.s, .e), (.s, .e), (.s, .e), (.s, .e), (.n, (.pk false)), (.n, .e), (.s, .e), (.n, .e), (.n, .e)] ({ tm := [(2, .pv (.bool false))], hp := [], nx := 0 }) [((decide (x8.2 = 0)) = true), ((decide (x8.2 = 0)) = true), ((decide (x8.2 = 0)) = true), ((decide (x8.2 = 0)) = true), ((decide (x3.1 = x8.1)) = true), ((decide (x3.1 = x8.1)) = true), ((decide (x3.1 = x8.1)) = true), ((decide (x9.2 = 0)) = false), ((decide (x9.2 = 0)) = false), ((decide (x9.2 = 0)) = false), ((decide (x9.2 = 0)) = false), ((decide (x9.2 = 0)) = false), ((decide (x9.2 = 0)) = false), ((decide (x9.2 = 0)) = false), (false = false)] (by kernel_rfl) (.cons hg10 (.cons hg10 (.cons hg10 (.cons hg10 (.cons hg11 (.cons hg11 (.cons hg11 (.cons hg12 (.cons hg12 (.cons hg12 (.cons hg12 (.cons hg12 (.cons hg12 (.cons hg12 (.cons rfl .nil))))))))))))))) (Sub.refl _)
          · replace ht := ite_f ht hg11
            have e := Option.some.inj ht
            subst e
            exact RegTo.mk [(.n, .e), (.n, .e), (.n, .e), (.y, .e), (.y, .e), (.y, .e), (.n, (.pk true)), (.n, .e), (.s, .e), (.s, .e), (.n, (.pk false)), (.n, .e), (.s, .e), (.s, .e), (.s, .e), (.s, .e), (.s, .e), (.s, .e), (.n, .e), (.n, .e), (.s, .e), (.n, .e), (.n, .e)] ({ tm := [(2, .pv (.bool false))], hp := [], nx := 0 }) [((decide (x8.2 = 0)) = true), ((decide (x8.2 = 0)) = true), ((decide (x8.2 = 0)) = true), ((decide (x8.2 = 0)) = true), ((decide (x3.1 = x8.1)) = false), ((decide (x3.1 = x8.1)) = false), ((decide (x3.1 = x8.1)) = false), (false = false), (false = false), (false = false), (false = false), (false = false), (false = false), (false = false)] (by kernel_rfl) (.cons hg10 (.cons hg10 (.cons hg10 (.cons hg10 (.cons hg11 (.cons hg11 (.cons hg11 (.cons rfl (.cons rfl (.cons rfl (.cons rfl (.cons rfl (.cons rfl (.cons rfl .nil)))))))))))))) (Sub.refl _)
        · replace ht := ite_f ht hg10
          have e := Option.some.inj ht
          subst e
          exact RegTo.mk [(.n, .e), (.n, .e), (.n, .e), (.s, .e), (.s, .e), (.s, .e), (.n, (.pk false)), (.n, .e), (.s, .e), (.s, .e), (.n, .e), (.n, .e), (.s, .e), (.s, .e), (.s, .e), (.s, .e), (.s, .e), (.s, .e), (.n, .e), (.n, .e), (.s, .e), (.n, .e), (.n, .e)] ({ tm := [(2, .pv (.bool false))], hp := [], nx := 0 }) [((decide (x8.2 = 0)) = false), ((decide (x8.2 = 0)) = false), ((decide (x8.2 = 0)) = false), ((decide (x8.2 = 0)) = false), (false = false), (false = false), (false = false), (false = false), (false = false), (false = false), (false = false), (false = false), (false = false)] (by kernel_rfl) (.cons hg10 (.cons hg10 (.cons hg10 (.cons hg10 (.cons rfl (.cons rfl (.cons rfl (.cons rfl (.cons rfl (.cons rfl (.cons rfl (.cons rfl (.cons rfl .nil))))))))))))) (Sub.refl _)
      · clear ht
        refine x_toret ?_
        obtain rfl := Option.some.inj h
        exact x_ret (.bool t17) [] [] (by kernel_rfl) .nil (by decide) (.refl _) (fun _ => rfl)

theorem c8 {top : Str} {dir : Str} {p : Str} {r : Bool} (h : law03_PathNests top dir p = some r) : CallOK Tryd.prog 8 [.str top, .str dir, .str p] (.bool r) true := by
  apply ok8
  unfold law03_PathNests at h
  refine x_rg (st2 := { tm := [(0, .pv (.str top)), (1, .pv (.str dir)), (2, .pv (.str p))], hp := [], nx := 0 }) (RegTo.mk [(.n, .e)] ({ tm := [(0, .pv (.str top)), (1, .pv (.str dir)), (2, .pv (.str p))], hp := [], nx := 0 }) [] (by kernel_rfl) .nil (Sub.refl _)) ?_
  refine x_seq ?_
  obtain ⟨t7, ht, h⟩ := bind_some h
  refine x_rg (st2 := { tm := [(0, .pv (.str top)), (1, .pv (.str dir)), (2, .pv (.str p)), (34, .pv (.bool t7))], hp := [], nx := 0 }) ?_ ?_
  · rcases Bool.eq_false_or_eq_true (decide (300 < (List.length top : Int))) with hg1 | hg1
    · replace ht := ite_t ht hg1
      have e := Option.some.inj ht
      subst e
      exact RegTo.mk [(.n, .e), (.n, .e), (.n, .e), (.n, .e), (.s, .e), (.s, .e), (.s, .e), (.n, (.pk true)), (.n, .e), (.s, .e), (.s, .e), (.s, .e), (.n, .e), (.n, .e), (.s, .e), (.s, .e), (.n, .e), (.n, .e), (.s, .e), (.s, .e), (.s, .e), (.n, .e)] ({ tm := [(0, .pv (.str top)), (1, .pv (.str dir)), (2, .pv (.str p)), (34, .pv (.bool true))], hp := [], nx := 0 }) [((decide (300 < (List.length top : Int))) = true), ((decide (300 < (List.length top : Int))) = true), ((decide (300 < (List.length top : Int))) = true), ((decide (300 < (List.length top : Int))) = true), (true = true), (true = true), (true = true), (true = true), (true = true), (true = true), (true = true), (true = true)] (by kernel_rfl) (.cons hg1 (.cons hg1 (.cons hg1 (.cons hg1 (.cons rfl (.cons rfl (.cons rfl (.cons rfl (.cons rfl (.cons rfl (.cons rfl (.cons rfl .nil)))))))))))) (Sub.refl _)
    · replace ht := ite_f ht hg1
      rcases Bool.eq_false_or_eq_true (decide (300 < (List.length dir : Int))) with hg2 | hg2
      · replace ht := ite_t ht hg2
        have e := Option.some.inj ht
        subst e
        exact RegTo.mk [(.n, .e), (.n, .e), (.n, .e), (.n, .e), (.y, .e), (.y, .e), (.y, .e), (.n, (.pk false)), (.n, .e), (.s, .e), (.s, .e), (.s, .e), (.n, (.pk true)), (.n, .e), (.s, .e), (.s, .e), (.n, .e), (.n, .e), (.s, .e), (.s, .e), (.s, .e), (.n, .e)] ({ tm := [(0, .pv (.str top)), (1, .pv (.str dir)), (2, .pv (.str p)), (34, .pv (.bool true))], hp := [], nx := 0 }) [((decide (300 < (List.length top : Int))) = false), ((decide (300 < (List.length top : Int))) = false), ((decide (300 < (List.length top : Int))) = false), ((decide (300 < (List.length top : Int))) = false), ((decide (300 < (List.length dir : Int))) = true), ((decide (300 < (List.length dir : Int))) = true), ((decide (300 < (List.length dir : Int))) = true), ((decide (300 < (List.length dir : Int))) = true), (true = true), (true = true), (true = true), (true = true), (true = true)] (by kernel_rfl) (.cons hg1 (.cons hg1 (.cons hg1 (.cons hg1 (.cons hg2 (.cons hg2 (.cons hg2 (.cons hg2 (.cons rfl (.cons rfl (.cons rfl (.cons rfl (.cons rfl .nil))))))))))))) (Sub.refl _)
      · replace ht := ite_f ht hg2
        rcases Bool.eq_false_or_eq_true (decide (300 < (List.length p : Int))) with hg3 | hg3
        · replace ht := ite_t ht hg3
          have e := Option.some.inj ht
          subst e
          exact RegTo.mk [(.n, .e), (.n, .e), (.n, .e), (.n, .e), (.y, .e), (.y, .e), (.y, .e), (.n, (.pk false)), (.n, .e), (.y, .e), (.y, .e), (.y, .e), (.n, (.pk false)), (.n, .e), (.s, .e), (.s, .e), (.n, (.pk true)), (.n, .e), (.s, .e), (.s, .e), (.s, .e), (.n, .e)] ({ tm := [(0, .pv (.str top)), (1, .pv (.str dir)), (2, .pv (.str p)), (34, .pv (.bool true))], hp := [], nx := 0 }) [((decide (300 < (List.length top : Int))) = false), ((decide (300 < (List.length top : Int))) = false), ((decide (300 < (List.length top : Int))) = false), ((decide (300 < (List.length top : Int))) = false), ((decide (300 < (List.length dir : Int))) = false), ((decide (300 < (List.length dir : Int))) = false), ((decide (300 < (List.length dir : Int))) = false), ((decide (300 < (List.length dir : Int))) = false), ((decide (300 < (List.length p : Int))) = true), ((decide (300 < (List.length p : Int))) = true), ((decide (300 < (List.length p : Int))) = true), (true = true), (true = true), (true = true)] (by kernel_rfl) (.cons hg1 (.cons hg1 (.cons hg1 (.cons hg1 (.cons hg2 (.cons hg2 (.cons hg2 (.cons hg2 (.cons hg3 (.cons hg3 (.cons hg3 (.cons rfl (.cons rfl (.cons rfl .nil)))))))))))))) (Sub.refl _)
        · replace ht := ite_f ht hg3
          obtain ⟨x4, hx4, ht⟩ := bind_some ht
          rcases Bool.eq_false_or_eq_true x4 with hg5 | hg5
          · replace ht := ite_t ht hg5
            have e := Option.some.inj ht
            subst e
            exact RegTo.mk [(.n, .e), (.n, .e), (.n, .e), (.n, .e), (.y, .e), (.y, .e), (.y, .e), (.n, (.pk false)), (.n, .e), (.y, .e), (.y, .e), (.y, .e), (.n, (.pk false)), (.n, .e), (.y, .e), (.y, (.call [.str p] (.bool x4) true)), (.n, (.pk false)), (.n, .e), (.s, .e), (.s, .e), (.s, .e), (.n, (.pk true))] ({ tm := [(0, .pv (.str top)), (1, .pv (.str dir)), (2, .pv (.str p)), (34, .pv (.bool true))], hp := [], nx := 0 }) [((decide (300 < (List.length top : Int))) = false), ((decide (300 < (List.length top : Int))) = false), ((decide (300 < (List.length top : Int))) = false), ((decide (300 < (List.length top : Int))) = false), ((decide (300 < (List.length dir : Int))) = false), ((decide (300 < (List.length dir : Int))) = false), ((decide (300 < (List.length dir : Int))) = false), ((decide (300 < (List.length dir : Int))) = false), ((decide (300 < (List.length p : Int))) = false), ((decide (300 < (List.length p : Int))) = false), (LesA [.str p] [.str p]), (CallOK Tryd.prog 24 [.str p] (.bool x4) true), ((decide (300 < (List.length p : Int))) = false), (x4 = true), (x4 = true), (x4 = true), (x4 = true)] (by kernel_rfl) (.cons hg1 (.cons hg1 (.cons hg1 (.cons hg1 (.cons hg2 (.cons hg2 (.cons hg2 (.cons hg2 (.cons hg3 (.cons hg3 (.cons (LesA.rfl' _) (.cons (c24 hx4) (.cons hg3 (.cons hg5 (.cons hg5 (.cons hg5 (.cons hg5 .nil))))))))))))))))) (Sub.refl _)
          · replace ht := ite_f ht hg5
            obtain ⟨x6, hx6, ht⟩ := bind_some ht
            have e := Option.some.inj ht
            subst e
            exact RegTo.mk [(.n, .e), (.n, .e), (.n, .e), (.n, .e), (.y, .e), (.y, .e), (.y, .e), (.n, (.pk false)), (.n, .e), (.y, .e), (.y, .e), (.y, .e), (.n, (.pk false)), (.n, .e), (.y, .e), (.y, (.call [.str p] (.bool x4) true)), (.n, (.pk false)), (.n, .e), (.y, .e), (.y, (.call [.str dir] (.bool x6) true)), (.y, .e), (.n, (.pk false))] ({ tm := [(0, .pv (.str top)), (1, .pv (.str dir)), (2, .pv (.str p)), (34, .pv (.bool (!x6)))], hp := [], nx := 0 }) [((decide (300 < (List.length top : Int))) = false), ((decide (300 < (List.length top : Int))) = false), ((decide (300 < (List.length top : Int))) = false), ((decide (300 < (List.length top : Int))) = false), ((decide (300 < (List.length dir : Int))) = false), ((decide (300 < (List.length dir : Int))) = false), ((decide (300 < (List.length dir : Int))) = false), ((decide (300 < (List.length dir : Int))) = false), ((decide (300 < (List.length p : Int))) = false), ((decide (300 < (List.length p : Int))) = false), (LesA [.str p] [.str p]), (CallOK Tryd.prog 24 [.str p] (.bool x4) true), ((decide (300 < (List.length p : Int))) = false), (x4 = false), (x4 = false), (LesA [.str dir] [.str dir]), (CallOK Tryd.prog 24 [.str dir] (.bool x6) true), (x4 = false), (x4 = false)] (by kernel_rfl) (.cons hg1 (.cons hg1 (.cons hg1 (.cons hg1 (.cons hg2 (.cons hg2 (.cons hg2 (.cons hg2 (.cons hg3 (.cons hg3 (.cons (LesA.rfl' _) (.cons (c24 hx4) (.cons hg3 (.cons hg5 (.cons hg5 (.cons (LesA.rfl' _) (.cons (c24 hx6) (.cons hg5 (.cons hg5 .nil))))))))))))))))))) (Sub.refl _)
  · clear ht
    refine x_cond _ rfl (fun hc8 => ?_) (fun hc8 => ?_)
    · replace h := ite_t h hc8
      obtain ⟨x9, hx9, h⟩ := bind_some h
      refine x_rg (st2 := { tm := [(6, .pv (.bool x9))], hp := [], nx := 0 }) (RegTo.mk [(.n, (.call [] (.bool x9) true)), (.n, .e)] ({ tm := [(6, .pv (.bool x9))], hp := [], nx := 0 }) [(LesA [] []), (CallOK Tryd.prog 11 [] (.bool x9) true)] (by kernel_rfl) (.cons (LesA.rfl' _) (.cons (c11 hx9) .nil)) (Sub.refl _)) ?_
      refine x_toret ?_
      refine x_tr ?_
      obtain rfl := Option.some.inj h
      exact x_ret (.bool x9) [] [] (by kernel_rfl) .nil (by decide) (.refl _) (fun _ => rfl)
    · replace h := ite_f h hc8
      refine x_kw (st2 := { tm := [(0, .pv (.str top)), (1, .pv (.str dir)), (2, .pv (.str p))], hp := [], nx := 0 }) ({ tm := [(0, .pv (.str top)), (1, .pv (.str dir)), (2, .pv (.str p))], hp := [], nx := 0 }) (by kernel_rfl) (Sub.refl _) ?_
      refine x_skip ?_
      refine x_tn ?_
      obtain ⟨x10, hx10, h⟩ := bind_some h
      refine x_rg (st2 := { tm := [(0, .pv (.str top)), (1, .pv (.str dir)), (2, .pv (.str p)), (7, .osl 0 0 (List.map PV.str x10).length)], hp := [(0, some (.p none (List.map PV.str x10)))], nx := 1 }) (RegTo.mk [(.n, .e), (.n, (.call [.str p] (.usl none (List.map PV.str x10)) true)), (.n, .e)] ({ tm := [(0, .pv (.str top)), (1, .pv (.str dir)), (2, .pv (.str p)), (7, .osl 0 0 (List.map PV.str x10).length)], hp := [(0, some (.p none (List.map PV.str x10)))], nx := 1 }) [(LesA [.str p] [.str p]), (CallOK Tryd.prog 25 [.str p] (.usl none (List.map PV.str x10)) true)] (by kernel_rfl) (.cons (LesA.rfl' _) (.cons (c25 hx10) .nil)) (Sub.refl _)) ?_
      refine x_seq ?_
      refine x_rg (st2 := { tm := [(0, .pv (.str top)), (1, .pv (.str dir)), (2, .pv (.str p)), (7, .osl 0 0 (List.map PV.str x10).length), (39, .pv (.int .i64 (List.length x10 : Int))), (40, .pv (.int .i64 0))], hp := [(0, some (.p none (List.map PV.str x10)))], nx := 1 }) (RegTo.mk [(.n, .e), (.n, (.len (List.length x10 : Int))), (.n, .e)] ({ tm := [(0, .pv (.str top)), (1, .pv (.str dir)), (2, .pv (.str p)), (7, .osl 0 0 (List.map PV.str x10).length), (39, .pv (.int .i64 (List.length x10 : Int))), (40, .pv (.int .i64 0))], hp := [(0, some (.p none (List.map PV.str x10)))], nx := 1 }) [((((List.map PV.str x10).length : Nat) : Int) = (List.length x10 : Int))] (by kernel_rfl) (.cons (by rw [List.length_map]) .nil) (Sub.refl _)) ?_
      refine x_block ?_
      refine x_kw (st2 := { tm := [(0, .pv (.str top)), (1, .pv (.str dir)), (2, .pv (.str p)), (7, .osl 0 0 (List.map PV.str x10).length), (39, .pv (.int .i64 (List.length x10 : Int))), (40, .pv (.int .i64 0))], hp := [(0, some (.p none (List.map PV.str x10)))], nx := 1 }) ({ tm := [(0, .pv (.str top)), (1, .pv (.str dir)), (2, .pv (.str p)), (7, .osl 0 0 (List.map PV.str x10).length), (39, .pv (.int .i64 (List.length x10 : Int))), (40, .pv (.int .i64 0))], hp := [(0, some (.p none (List.map PV.str x10)))], nx := 1 }) (by kernel_rfl) (Sub.refl _) ?_
      refine x_loop (σ := Int) h (fun s => { tm := [(0, .pv (.str top)), (1, .pv (.str dir)), (2, .pv (.str p)), (7, .osl 0 0 (List.map PV.str x10).length), (39, .pv (.int .i64 (List.length x10 : Int))), (40, .pv (.int .i64 s))], hp := [(0, some (.p none (List.map PV.str x10)))], nx := 1 }) (by kernel_rfl) ?_ ?_
      · rintro v15
        kernel_rfl
      · rintro v15 x16 h hx16
        replace h : law03_PathNests_L16 top dir p x10 v15 = some x16 := h
        unfold law03_PathNests_L16 at h
        refine x_rg (st2 := { tm := [(0, .pv (.str top)), (1, .pv (.str dir)), (2, .pv (.str p)), (7, .osl 0 0 (List.map PV.str x10).length), (39, .pv (.int .i64 (List.length x10 : Int))), (40, .pv (.int .i64 v15)), (41, .pv (.bool (decide (v15 < (List.length x10 : Int)))))], hp := [(0, some (.p none (List.map PV.str x10)))], nx := 1 }) (RegTo.mk [(.n, .e)] ({ tm := [(0, .pv (.str top)), (1, .pv (.str dir)), (2, .pv (.str p)), (7, .osl 0 0 (List.map PV.str x10).length), (39, .pv (.int .i64 (List.length x10 : Int))), (40, .pv (.int .i64 v15)), (41, .pv (.bool (decide (v15 < (List.length x10 : Int)))))], hp := [(0, some (.p none (List.map PV.str x10)))], nx := 1 }) [] (by kernel_rfl) .nil (Sub.refl _)) ?_
        refine x_seq ?_
        refine x_cond _ rfl (fun hc17 => ?_) (fun hc17 => ?_)
        · replace h := ite_t h hc17
          refine x_kw (st2 := { tm := [(0, .pv (.str top)), (1, .pv (.str dir)), (2, .pv (.str p)), (7, .osl 0 0 (List.map PV.str x10).length), (39, .pv (.int .i64 (List.length x10 : Int))), (40, .pv (.int .i64 v15))], hp := [(0, some (.p none (List.map PV.str x10)))], nx := 1 }) ({ tm := [(0, .pv (.str top)), (1, .pv (.str dir)), (2, .pv (.str p)), (7, .osl 0 0 (List.map PV.str x10).length), (39, .pv (.int .i64 (List.length x10 : Int))), (40, .pv (.int .i64 v15))], hp := [(0, some (.p none (List.map PV.str x10)))], nx := 1 }) (by kernel_rfl) (Sub.refl _) ?_
          refine x_skip ?_
          refine x_tn ?_
          refine x_seq ?_
          refine x_block ?_
          refine x_rg (st2 := { tm := [(0, .pv (.str top)), (1, .pv (.str dir)), (2, .pv (.str p)), (7, .osl 0 0 (List.map PV.str x10).length), (8, .pv (.int .i64 v15)), (39, .pv (.int .i64 (List.length x10 : Int))), (40, .pv (.int .i64 v15))], hp := [(0, some (.p none (List.map PV.str x10)))], nx := 1 }) (RegTo.mk [(.n, .e), (.n, .e)] ({ tm := [(0, .pv (.str top)), (1, .pv (.str dir)), (2, .pv (.str p)), (7, .osl 0 0 (List.map PV.str x10).length), (8, .pv (.int .i64 v15)), (39, .pv (.int .i64 (List.length x10 : Int))), (40, .pv (.int .i64 v15))], hp := [(0, some (.p none (List.map PV.str x10)))], nx := 1 }) [] (by kernel_rfl) .nil (Sub.refl _)) ?_
          obtain ⟨x18, hx18, h⟩ := bind_some h
          refine x_rg (st2 := { tm := [(0, .pv (.str top)), (1, .pv (.str dir)), (2, .pv (.str p)), (7, .osl 0 0 (List.map PV.str x10).length), (39, .pv (.int .i64 (List.length x10 : Int))), (40, .pv (.int .i64 v15)), (47, .pv (.bool (decide (x18 = [46, 46]))))], hp := [(0, some (.p none (List.map PV.str x10)))], nx := 1 }) (RegTo.mk [(.n, .e), (.n, .e), (.n, .rAt), (.n, (.ld (.str x18))), (.n, .e)] ({ tm := [(0, .pv (.str top)), (1, .pv (.str dir)), (2, .pv (.str p)), (7, .osl 0 0 (List.map PV.str x10).length), (39, .pv (.int .i64 (List.length x10 : Int))), (40, .pv (.int .i64 v15)), (47, .pv (.bool (decide (x18 = [46, 46]))))], hp := [(0, some (.p none (List.map PV.str x10)))], nx := 1 }) [(0 ≤ (v15 : Int) ∧ Int.toNat v15 < (List.map PV.str x10).length), ((List.map PV.str x10)[(0 + Int.toNat v15)]? = some (.str x18))] (by kernel_rfl) (.cons (rAt_ob hx18 (by simp)) (.cons (ownAt hx18) .nil)) (Sub.refl _)) ?_
          refine x_cond _ rfl (fun hc19 => ?_) (fun hc19 => ?_)
          · replace h := ite_t h hc19
            obtain ⟨x20, hx20, h⟩ := bind_some h
            refine x_rg (st2 := { tm := [(6, .pv (.bool x20))], hp := [], nx := 0 }) (RegTo.mk [(.n, (.call [] (.bool x20) true)), (.n, .e)] ({ tm := [(6, .pv (.bool x20))], hp := [], nx := 0 }) [(LesA [] []), (CallOK Tryd.prog 11 [] (.bool x20) true)] (by kernel_rfl) (.cons (LesA.rfl' _) (.cons (c11 hx20) .nil)) (Sub.refl _)) ?_
            refine x_toret ?_
            refine x_br ?_
            refine x_tr ?_
            refine x_tr ?_
            replace h := done_leaf h hx16
            refine x_br ?_
            refine x_tr ?_
            obtain rfl := Option.some.inj h
            exact x_ret (.bool x20) [] [] (by kernel_rfl) .nil (by decide) (.refl _) (fun _ => rfl)
          · replace h := ite_f h hc19
            refine x_kw (st2 := { tm := [(0, .pv (.str top)), (1, .pv (.str dir)), (2, .pv (.str p)), (7, .osl 0 0 (List.map PV.str x10).length), (39, .pv (.int .i64 (List.length x10 : Int))), (40, .pv (.int .i64 v15))], hp := [(0, some (.p none (List.map PV.str x10)))], nx := 1 }) ({ tm := [(0, .pv (.str top)), (1, .pv (.str dir)), (2, .pv (.str p)), (7, .osl 0 0 (List.map PV.str x10).length), (39, .pv (.int .i64 (List.length x10 : Int))), (40, .pv (.int .i64 v15))], hp := [(0, some (.p none (List.map PV.str x10)))], nx := 1 }) (by kernel_rfl) (Sub.refl _) ?_
            refine x_skip ?_
            refine x_bn ?_
            refine x_tn ?_
            refine x_rgt (st2 := { tm := [(0, .pv (.str top)), (1, .pv (.str dir)), (2, .pv (.str p)), (7, .osl 0 0 (List.map PV.str x10).length), (39, .pv (.int .i64 (List.length x10 : Int))), (40, .pv (.int .i64 (IntKind.wrap .i64 (v15 + 1))))], hp := [(0, some (.p none (List.map PV.str x10)))], nx := 1 }) (RegTo.mk [(.n, .e), (.n, .e)] ({ tm := [(0, .pv (.str top)), (1, .pv (.str dir)), (2, .pv (.str p)), (7, .osl 0 0 (List.map PV.str x10).length), (39, .pv (.int .i64 (List.length x10 : Int))), (40, .pv (.int .i64 (IntKind.wrap .i64 (v15 + 1))))], hp := [(0, some (.p none (List.map PV.str x10)))], nx := 1 }) [] (by kernel_rfl) .nil (Sub.refl _)) ?_
            refine x_tn ?_
            exact ⟨_, (Option.some.inj h).symm, by kernel_rfl⟩
        · replace h := ite_f h hc17
          refine x_kw (st2 := { tm := [(0, .pv (.str top)), (1, .pv (.str dir)), (2, .pv (.str p))], hp := [], nx := 0 }) ({ tm := [(0, .pv (.str top)), (1, .pv (.str dir)), (2, .pv (.str p))], hp := [], nx := 0 }) (by kernel_rfl) (Sub.refl _) ?_
          refine x_exit ?_
          refine x_te ?_
          refine x_te ?_
          replace h := done_map h hx16
          unfold law03_PathNests_A36 at h
          refine x_bh ?_
          refine x_tn ?_
          obtain ⟨x21, hx21, h⟩ := bind_some h
          refine x_rg (st2 := { tm := [(0, .pv (.str top)), (1, .pv (.str dir)), (9, .pv (.str x21.1)), (10, .pv (.int .i64 x21.2))], hp := [], nx := 0 }) (RegTo.mk [(.n, .e), (.n, .e), (.n, (.call [.str dir, .str p] (.tup [.str x21.1, .int .i64 x21.2]) true)), (.n, .e), (.n, .e), (.n, .e), (.n, .e), (.n, .e)] ({ tm := [(0, .pv (.str top)), (1, .pv (.str dir)), (9, .pv (.str x21.1)), (10, .pv (.int .i64 x21.2))], hp := [], nx := 0 }) [(LesA [.str dir, .str p] [.str dir, .str p]), (CallOK Tryd.prog 19 [.str dir, .str p] (.tup [.str x21.1, .int .i64 x21.2]) true)] (by kernel_rfl) (.cons (LesA.rfl' _) (.cons (c19 hx21) .nil)) (Sub.refl _)) ?_
          refine x_seq ?_
          obtain ⟨x22, hx22, h⟩ := bind_some h
          refine x_rg (st2 := { tm := [(0, .pv (.str top)), (1, .pv (.str dir)), (9, .pv (.str x21.1)), (10, .pv (.int .i64 x21.2)), (12, .pv (.int .i64 x22.2))], hp := [], nx := 0 }) (RegTo.mk [(.n, .e), (.n, (.call [.str dir] (.tup [.str x22.1, .int .i64 x22.2]) true)), (.n, .e), (.n, .e), (.n, .e), (.n, .e), (.n, .e)] ({ tm := [(0, .pv (.str top)), (1, .pv (.str dir)), (9, .pv (.str x21.1)), (10, .pv (.int .i64 x21.2)), (12, .pv (.int .i64 x22.2))], hp := [], nx := 0 }) [(LesA [.str dir] [.str dir]), (CallOK Tryd.prog 14 [.str dir] (.tup [.str x22.1, .int .i64 x22.2]) true)] (by kernel_rfl) (.cons (LesA.rfl' _) (.cons (c14 hx22) .nil)) (Sub.refl _)) ?_
          refine x_rg (st2 := { tm := [(0, .pv (.str top)), (1, .pv (.str dir)), (9, .pv (.str x21.1)), (66, .pv (.bool ((!decide (x21.2 = 0)) || (!decide (x22.2 = 0)))))], hp := [], nx := 0 }) ?_ ?_
          · rcases Bool.eq_false_or_eq_true (!decide (x21.2 = 0)) with hg23 | hg23
            · exact RegTo.mk [(.n, .e), (.n, .e), (.n, .e), (.s, .e), (.s, .e), (.n, (.pk true))] ({ tm := [(0, .pv (.str top)), (1, .pv (.str dir)), (9, .pv (.str x21.1)), (66, .pv (.bool true))], hp := [], nx := 0 }) [((!decide (x21.2 = 0)) = true), ((!decide (x21.2 = 0)) = true), ((!decide (x21.2 = 0)) = true)] (by kernel_rfl) (.cons hg23 (.cons hg23 (.cons hg23 .nil))) (.of_eq (by simp only [hg23, Bool.true_or, Bool.false_or, Bool.true_and, Bool.false_and, Bool.or_true, Bool.or_false, Bool.and_true, Bool.and_false, Bool.false_eq_true, if_true, if_false, reduceIte]))
            · exact RegTo.mk [(.n, .e), (.n, .e), (.n, .e), (.y, .e), (.y, .e), (.n, (.pk false))] ({ tm := [(0, .pv (.str top)), (1, .pv (.str dir)), (9, .pv (.str x21.1)), (66, .pv (.bool (!decide (x22.2 = 0))))], hp := [], nx := 0 }) [((!decide (x21.2 = 0)) = false), ((!decide (x21.2 = 0)) = false), ((!decide (x21.2 = 0)) = false)] (by kernel_rfl) (.cons hg23 (.cons hg23 (.cons hg23 .nil))) (.of_eq (by simp only [hg23, Bool.true_or, Bool.false_or, Bool.true_and, Bool.false_and, Bool.or_true, Bool.or_false, Bool.and_true, Bool.and_false, Bool.false_eq_true, if_true, if_false, reduceIte]))
          · refine x_cond _ rfl (fun hc25 => ?_) (fun hc25 => ?_)
            · replace h := ite_t h hc25
              obtain ⟨x26, hx26, h⟩ := bind_some h
              refine x_rg (st2 := { tm := [(6, .pv (.bool x26))], hp := [], nx := 0 }) (RegTo.mk [(.n, (.call [] (.bool x26) true)), (.n, .e)] ({ tm := [(6, .pv (.bool x26))], hp := [], nx := 0 }) [(LesA [] []), (CallOK Tryd.prog 11 [] (.bool x26) true)] (by kernel_rfl) (.cons (LesA.rfl' _) (.cons (c11 hx26) .nil)) (Sub.refl _)) ?_
              refine x_toret ?_
              refine x_tr ?_
              obtain rfl := Option.some.inj h
              exact x_ret (.bool x26) [] [] (by kernel_rfl) .nil (by decide) (.refl _) (fun _ => rfl)
            · replace h := ite_f h hc25
              refine x_kw (st2 := { tm := [(0, .pv (.str top)), (1, .pv (.str dir)), (9, .pv (.str x21.1))], hp := [], nx := 0 }) ({ tm := [(0, .pv (.str top)), (1, .pv (.str dir)), (9, .pv (.str x21.1))], hp := [], nx := 0 }) (by kernel_rfl) (Sub.refl _) ?_
              refine x_skip ?_
              refine x_tn ?_
              obtain ⟨x27, hx27, h⟩ := bind_some h
              obtain ⟨t35, ht, h⟩ := bind_some h
              refine x_rg (st2 := { tm := [(6, .pv (.bool t35))], hp := [], nx := 0 }) ?_ ?_
              · rcases Bool.eq_false_or_eq_true x27 with hg28 | hg28
                · replace ht := ite_t ht hg28
                  obtain ⟨x29, hx29, ht⟩ := bind_some ht
                  rcases Bool.eq_false_or_eq_true (!x29) with hg30 | hg30
                  · replace ht := ite_t ht hg30
                    obtain ⟨x31, hx31, ht⟩ := bind_some ht
                    have e := Option.some.inj ht
                    subst e
                    exact RegTo.mk [(.n, .e), (.n, .e), (.n, (.call [.str dir, .str x21.1] (.bool x27) true)), (.n, .e), (.y, .e), (.y, .e), (.y, (.call [.str top, .str dir] (.bool x29) true)), (.y, .e), (.y, .e), (.s, .e), (.s, .e), (.s, .e), (.y, (.pk true)), (.n, (.pk true)), (.n, .e), (.y, (.call [] (.bool x31) true)), (.n, .e), (.n, .e)] ({ tm := [(6, .pv (.bool x31))], hp := [], nx := 0 }) [(LesA [.str dir, .str x21.1] [.str dir, .str x21.1]), (CallOK Tryd.prog 21 [.str dir, .str x21.1] (.bool x27) true), (x27 = true), (x27 = true), (x27 = true), (LesA [.str top, .str dir] [.str top, .str dir]), (CallOK Tryd.prog 21 [.str top, .str dir] (.bool x29) true), (x27 = true), (x27 = true), ((!x29) = true), ((!x29) = true), ((!x29) = true), (x27 = true), ((!x29) = true), (x27 = true), (true = true), (LesA [] []), (CallOK Tryd.prog 11 [] (.bool x31) true)] (by kernel_rfl) (.cons (LesA.rfl' _) (.cons (c21 hx27) (.cons hg28 (.cons hg28 (.cons hg28 (.cons (LesA.rfl' _) (.cons (c21 hx29) (.cons hg28 (.cons hg28 (.cons hg30 (.cons hg30 (.cons hg30 (.cons hg28 (.cons hg30 (.cons hg28 (.cons rfl (.cons (LesA.rfl' _) (.cons (c11 hx31) .nil)))))))))))))))))) (Sub.refl _)
                  · replace ht := ite_f ht hg30
                    obtain ⟨x32, hx32, ht⟩ := bind_some ht
                    rcases Bool.eq_false_or_eq_true x32 with hg33 | hg33
                    · replace ht := ite_t ht hg33
                      obtain ⟨x34, hx34, ht⟩ := bind_some ht
                      have e := Option.some.inj ht
                      subst e
                      exact RegTo.mk [(.n, .e), (.n, .e), (.n, (.call [.str dir, .str x21.1] (.bool x27) true)), (.n, .e), (.y, .e), (.y, .e), (.y, (.call [.str top, .str dir] (.bool x29) true)), (.y, .e), (.y, .e), (.y, .e), (.y, .e), (.y, (.call [.str top, .str x21.1] (.bool x32) true)), (.y, (.pk false)), (.n, (.pk true)), (.n, .e), (.y, (.call [] (.bool x34) true)), (.n, (.pk true)), (.n, .e)] ({ tm := [(6, .pv (.bool x34))], hp := [], nx := 0 }) [(LesA [.str dir, .str x21.1] [.str dir, .str x21.1]), (CallOK Tryd.prog 21 [.str dir, .str x21.1] (.bool x27) true), (x27 = true), (x27 = true), (x27 = true), (LesA [.str top, .str dir] [.str top, .str dir]), (CallOK Tryd.prog 21 [.str top, .str dir] (.bool x29) true), (x27 = true), (x27 = true), ((!x29) = false), ((!x29) = false), ((!x29) = false), (LesA [.str top, .str x21.1] [.str top, .str x21.1]), (CallOK Tryd.prog 21 [.str top, .str x21.1] (.bool x32) true), (x27 = true), ((!x29) = false), (x27 = true), (x32 = true), (LesA [] []), (CallOK Tryd.prog 11 [] (.bool x34) true), (x32 = true)] (by kernel_rfl) (.cons (LesA.rfl' _) (.cons (c21 hx27) (.cons hg28 (.cons hg28 (.cons hg28 (.cons (LesA.rfl' _) (.cons (c21 hx29) (.cons hg28 (.cons hg28 (.cons hg30 (.cons hg30 (.cons hg30 (.cons (LesA.rfl' _) (.cons (c21 hx32) (.cons hg28 (.cons hg30 (.cons hg28 (.cons hg33 (.cons (LesA.rfl' _) (.cons (c11 hx34) (.cons hg33 .nil))))))))))))))))))))) (Sub.refl _)
                    · replace ht := ite_f ht hg33
                      have e := Option.some.inj ht
                      subst e
                      exact RegTo.mk [(.n, .e), (.n, .e), (.n, (.call [.str dir, .str x21.1] (.bool x27) true)), (.n, .e), (.y, .e), (.y, .e), (.y, (.call [.str top, .str dir] (.bool x29) true)), (.y, .e), (.y, .e), (.y, .e), (.y, .e), (.y, (.call [.str top, .str x21.1] (.bool x32) true)), (.y, (.pk false)), (.n, (.pk true)), (.n, .e), (.s, .e), (.n, (.pk false)), (.n, .e)] ({ tm := [(6, .pv (.bool false))], hp := [], nx := 0 }) [(LesA [.str dir, .str x21.1] [.str dir, .str x21.1]), (CallOK Tryd.prog 21 [.str dir, .str x21.1] (.bool x27) true), (x27 = true), (x27 = true), (x27 = true), (LesA [.str top, .str dir] [.str top, .str dir]), (CallOK Tryd.prog 21 [.str top, .str dir] (.bool x29) true), (x27 = true), (x27 = true), ((!x29) = false), ((!x29) = false), ((!x29) = false), (LesA [.str top, .str x21.1] [.str top, .str x21.1]), (CallOK Tryd.prog 21 [.str top, .str x21.1] (.bool x32) true), (x27 = true), ((!x29) = false), (x27 = true), (x32 = false), (x32 = false)] (by kernel_rfl) (.cons (LesA.rfl' _) (.cons (c21 hx27) (.cons hg28 (.cons hg28 (.cons hg28 (.cons (LesA.rfl' _) (.cons (c21 hx29) (.cons hg28 (.cons hg28 (.cons hg30 (.cons hg30 (.cons hg30 (.cons (LesA.rfl' _) (.cons (c21 hx32) (.cons hg28 (.cons hg30 (.cons hg28 (.cons hg33 (.cons hg33 .nil))))))))))))))))))) (Sub.refl _)
                · replace ht := ite_f ht hg28
                  have e := Option.some.inj ht
                  subst e
                  exact RegTo.mk [(.n, .e), (.n, .e), (.n, (.call [.str dir, .str x21.1] (.bool x27) true)), (.n, .e), (.s, .e), (.s, .e), (.s, .e), (.s, .e), (.s, .e), (.u, .e), (.u, .e), (.u, .e), (.s, .e), (.n, (.pk false)), (.n, .e), (.s, .e), (.n, .e), (.n, .e)] ({ tm := [(6, .pv (.bool false))], hp := [], nx := 0 }) [(LesA [.str dir, .str x21.1] [.str dir, .str x21.1]), (CallOK Tryd.prog 21 [.str dir, .str x21.1] (.bool x27) true), (x27 = false), (x27 = false), (x27 = false), (x27 = false), (x27 = false), (x27 = false), (x27 = false), (false = false)] (by kernel_rfl) (.cons (LesA.rfl' _) (.cons (c21 hx27) (.cons hg28 (.cons hg28 (.cons hg28 (.cons hg28 (.cons hg28 (.cons hg28 (.cons hg28 (.cons rfl .nil)))))))))) (Sub.refl _)
              · clear ht
                refine x_toret ?_
                obtain rfl := Option.some.inj h
                exact x_ret (.bool t35) [] [] (by kernel_rfl) .nil (by decide) (.refl _) (fun _ => rfl)

theorem c27 {p : Str} {r : Str} (h : ref03_Base p = some r) : CallOK Tryd.prog 27 [.str p] (.str r) true := by
  apply ok27
  unfold ref03_Base at h
  refine x_rg (st2 := { tm := [(0, .pv (.str p))], hp := [], nx := 0 }) (RegTo.mk [(.n, .e)] ({ tm := [(0, .pv (.str p))], hp := [], nx := 0 }) [] (by kernel_rfl) .nil (Sub.refl _)) ?_
  obtain ⟨x1, hx1, h⟩ := bind_some h
  refine x_rg (st2 := { tm := [(0, .pv (.str p)), (3, .osl 0 0 (List.map PV.str x1.1).length), (4, .pv (.int .i64 x1.2))], hp := [(0, some (.p none (List.map PV.str x1.1)))], nx := 1 }) (RegTo.mk [(.n, .e), (.n, (.call [.str p] (.tup [.usl none (List.map PV.str x1.1), .int .i64 x1.2]) true)), (.n, .e), (.n, .e), (.n, .e), (.n, .e), (.n, .e)] ({ tm := [(0, .pv (.str p)), (3, .osl 0 0 (List.map PV.str x1.1).length), (4, .pv (.int .i64 x1.2))], hp := [(0, some (.p none (List.map PV.str x1.1)))], nx := 1 }) [(LesA [.str p] [.str p]), (CallOK Tryd.prog 17 [.str p] (.tup [.usl none (List.map PV.str x1.1), .int .i64 x1.2]) true)] (by kernel_rfl) (.cons (LesA.rfl' _) (.cons (c17 hx1) .nil)) (Sub.refl _)) ?_
  refine x_seq ?_
  refine x_rg (st2 := { tm := [(0, .pv (.str p)), (3, .osl 0 0 (List.map PV.str x1.1).length), (11, .pv (.bool (!decide (x1.2 = 0))))], hp := [(0, some (.p none (List.map PV.str x1.1)))], nx := 1 }) (RegTo.mk [(.n, .e), (.n, .e)] ({ tm := [(0, .pv (.str p)), (3, .osl 0 0 (List.map PV.str x1.1).length), (11, .pv (.bool (!decide (x1.2 = 0))))], hp := [(0, some (.p none (List.map PV.str x1.1)))], nx := 1 }) [] (by kernel_rfl) .nil (Sub.refl _)) ?_
  refine x_cond _ rfl (fun hc2 => ?_) (fun hc2 => ?_)
  · replace h := ite_t h hc2
    refine x_rg (st2 := { tm := [(2, .pv (.str []))], hp := [], nx := 0 }) (RegTo.mk [(.n, .e)] ({ tm := [(2, .pv (.str []))], hp := [], nx := 0 }) [] (by kernel_rfl) .nil (Sub.refl _)) ?_
    refine x_toret ?_
    refine x_tr ?_
    obtain rfl := Option.some.inj h
    exact x_ret (.str []) [] [] (by kernel_rfl) .nil (by decide) (.refl _) (fun _ => rfl)
  · replace h := ite_f h hc2
    refine x_kw (st2 := { tm := [(0, .pv (.str p)), (3, .osl 0 0 (List.map PV.str x1.1).length)], hp := [(0, some (.p none (List.map PV.str x1.1)))], nx := 1 }) ({ tm := [(0, .pv (.str p)), (3, .osl 0 0 (List.map PV.str x1.1).length)], hp := [(0, some (.p none (List.map PV.str x1.1)))], nx := 1 }) (by kernel_rfl) (Sub.refl _) ?_
    refine x_skip ?_
    refine x_tn ?_
    refine x_seq ?_
    refine x_rg (st2 := { tm := [(0, .pv (.str p)), (3, .osl 0 0 (List.map PV.str x1.1).length), (14, .pv (.bool (decide ((List.length x1.1 : Int) = 0))))], hp := [(0, some (.p none (List.map PV.str x1.1)))], nx := 1 }) (RegTo.mk [(.n, .e), (.n, (.len (List.length x1.1 : Int))), (.n, .e)] ({ tm := [(0, .pv (.str p)), (3, .osl 0 0 (List.map PV.str x1.1).length), (14, .pv (.bool (decide ((List.length x1.1 : Int) = 0))))], hp := [(0, some (.p none (List.map PV.str x1.1)))], nx := 1 }) [((((List.map PV.str x1.1).length : Nat) : Int) = (List.length x1.1 : Int))] (by kernel_rfl) (.cons (by rw [List.length_map]) .nil) (Sub.refl _)) ?_
    refine x_cond _ rfl (fun hc3 => ?_) (fun hc3 => ?_)
    · replace h := ite_t h hc3
      obtain ⟨x4, hx4, h⟩ := bind_some h
      obtain ⟨x5, hx5, h⟩ := bind_some h
      refine x_rg (st2 := { tm := [(2, .pv (.str x5))], hp := [], nx := 0 }) (RegTo.mk [(.n, .e), (.n, (.call [.str p] (.bool x4) true)), (.n, (.call [.bool x4, .sl none (List.map PV.str [])] (.str x5) true)), (.n, .e)] ({ tm := [(2, .pv (.str x5))], hp := [], nx := 0 }) [(LesA [.str p] [.str p]), (CallOK Tryd.prog 24 [.str p] (.bool x4) true), (LesA [.bool x4, .nilsl] [.bool x4, .sl none (List.map PV.str [])]), (CallOK Tryd.prog 23 [.bool x4, .sl none (List.map PV.str [])] (.str x5) true)] (by kernel_rfl) (.cons (LesA.rfl' _) (.cons (c24 hx4) (.cons (.cons (.refl _) (.cons (.nilSl _) .nil)) (.cons (c23 hx5) .nil)))) (Sub.refl _)) ?_
      refine x_toret ?_
      refine x_tr ?_
      obtain rfl := Option.some.inj h
      exact x_ret (.str x5) [] [] (by kernel_rfl) .nil (by decide) (.refl _) (fun _ => rfl)
    · replace h := ite_f h hc3
      refine x_kw (st2 := { tm := [(3, .osl 0 0 (List.map PV.str x1.1).length)], hp := [(0, some (.p none (List.map PV.str x1.1)))], nx := 1 }) ({ tm := [(3, .osl 0 0 (List.map PV.str x1.1).length)], hp := [(0, some (.p none (List.map PV.str x1.1)))], nx := 1 }) (by kernel_rfl) (Sub.refl _) ?_
      refine x_skip ?_
      refine x_tn ?_
      obtain ⟨x6, hx6, h⟩ := bind_some h
      refine x_rg (st2 := { tm := [(2, .pv (.str x6))], hp := [], nx := 0 }) (RegTo.mk [(.n, .e), (.n, .e), (.n, (.len (List.length x1.1 : Int))), (.n, .e), (.n, .rAt), (.n, (.ld (.str x6))), (.n, .e)] ({ tm := [(2, .pv (.str x6))], hp := [], nx := 0 }) [((((List.map PV.str x1.1).length : Nat) : Int) = (List.length x1.1 : Int)), (0 ≤ ((IntKind.wrap .i64 ((List.length x1.1 : Int) - 1)) : Int) ∧ Int.toNat (IntKind.wrap .i64 ((List.length x1.1 : Int) - 1)) < (List.map PV.str x1.1).length), ((List.map PV.str x1.1)[(0 + Int.toNat (IntKind.wrap .i64 ((List.length x1.1 : Int) - 1)))]? = some (.str x6))] (by kernel_rfl) (.cons (by rw [List.length_map]) (.cons (rAt_ob hx6 (by simp)) (.cons (ownAt hx6) .nil))) (Sub.refl _)) ?_
      refine x_toret ?_
      obtain rfl := Option.some.inj h
      exact x_ret (.str x6) [] [] (by kernel_rfl) .nil (by decide) (.refl _) (fun _ => rfl)

theorem c28 {p : Str} {r : Str} (h : path_Dir p = some r) : CallOK Tryd.prog 28 [.str p] (.str r) true := by
  apply ok28
  unfold path_Dir at h
  refine x_rg (st2 := { tm := [(0, .pv (.str p))], hp := [], nx := 0 }) (RegTo.mk [(.n, .e)] ({ tm := [(0, .pv (.str p))], hp := [], nx := 0 }) [] (by kernel_rfl) .nil (Sub.refl _)) ?_
  obtain ⟨x1, hx1, h⟩ := bind_some h
  refine x_rg (st2 := { tm := [(0, .pv (.str p)), (3, .osl 0 0 (List.map PV.str x1.1).length), (4, .pv (.int .i64 x1.2))], hp := [(0, some (.p none (List.map PV.str x1.1)))], nx := 1 }) (RegTo.mk [(.n, .e), (.n, (.call [.str p] (.tup [.usl none (List.map PV.str x1.1), .int .i64 x1.2]) true)), (.n, .e), (.n, .e), (.n, .e), (.n, .e), (.n, .e)] ({ tm := [(0, .pv (.str p)), (3, .osl 0 0 (List.map PV.str x1.1).length), (4, .pv (.int .i64 x1.2))], hp := [(0, some (.p none (List.map PV.str x1.1)))], nx := 1 }) [(LesA [.str p] [.str p]), (CallOK Tryd.prog 16 [.str p] (.tup [.usl none (List.map PV.str x1.1), .int .i64 x1.2]) true)] (by kernel_rfl) (.cons (LesA.rfl' _) (.cons (c16 hx1) .nil)) (Sub.refl _)) ?_
  refine x_seq ?_
  refine x_rg (st2 := { tm := [(0, .pv (.str p)), (3, .osl 0 0 (List.map PV.str x1.1).length), (11, .pv (.bool (!decide (x1.2 = 0))))], hp := [(0, some (.p none (List.map PV.str x1.1)))], nx := 1 }) (RegTo.mk [(.n, .e), (.n, .e)] ({ tm := [(0, .pv (.str p)), (3, .osl 0 0 (List.map PV.str x1.1).length), (11, .pv (.bool (!decide (x1.2 = 0))))], hp := [(0, some (.p none (List.map PV.str x1.1)))], nx := 1 }) [] (by kernel_rfl) .nil (Sub.refl _)) ?_
  refine x_cond _ rfl (fun hc2 => ?_) (fun hc2 => ?_)
  · replace h := ite_t h hc2
    refine x_rg (st2 := { tm := [(2, .pv (.str []))], hp := [], nx := 0 }) (RegTo.mk [(.n, .e)] ({ tm := [(2, .pv (.str []))], hp := [], nx := 0 }) [] (by kernel_rfl) .nil (Sub.refl _)) ?_
    refine x_toret ?_
    refine x_tr ?_
    obtain rfl := Option.some.inj h
    exact x_ret (.str []) [] [] (by kernel_rfl) .nil (by decide) (.refl _) (fun _ => rfl)
  · replace h := ite_f h hc2
    refine x_kw (st2 := { tm := [(0, .pv (.str p)), (3, .osl 0 0 (List.map PV.str x1.1).length)], hp := [(0, some (.p none (List.map PV.str x1.1)))], nx := 1 }) ({ tm := [(0, .pv (.str p)), (3, .osl 0 0 (List.map PV.str x1.1).length)], hp := [(0, some (.p none (List.map PV.str x1.1)))], nx := 1 }) (by kernel_rfl) (Sub.refl _) ?_
    refine x_skip ?_
    refine x_tn ?_
    obtain ⟨x3, hx3, h⟩ := bind_some h
    obtain ⟨x4, hx4, h⟩ := bind_some h
    obtain ⟨x5, hx5, h⟩ := bind_some h
    refine x_rg (st2 := { tm := [(2, .pv (.str x5))], hp := [], nx := 0 }) (RegTo.mk [(.n, .e), (.n, .e), (.n, (.len (List.length x1.1 : Int))), (.n, .e), (.n, .e), (.n, .cutR), (.n, .e), (.n, (.call [.str p] (.bool x4) true)), (.n, (.call [.sl none (List.map PV.str x3), .bool x4] (.str x5) true)), (.n, .e)] ({ tm := [(2, .pv (.str x5))], hp := [], nx := 0 }) [((((List.map PV.str x1.1).length : Nat) : Int) = (List.length x1.1 : Int)), (0 ≤ (0 : Int) ∧ (0 : Int) ≤ (max (IntKind.wrap .i64 ((List.length x1.1 : Int) - 1)) 0) ∧ (max (IntKind.wrap .i64 ((List.length x1.1 : Int) - 1)) 0) ≤ (((List.map PV.str x1.1).length : Nat) : Int)), (LesA [.str p] [.str p]), (CallOK Tryd.prog 31 [.str p] (.bool x4) true), (LesA [.sl none (List.take (Int.toNat (max (IntKind.wrap .i64 ((List.length x1.1 : Int) - 1)) 0) - Int.toNat 0) (List.drop (0 + Int.toNat 0) (List.map PV.str x1.1))), .bool x4] [.sl none (List.map PV.str x3), .bool x4]), (CallOK Tryd.prog 30 [.sl none (List.map PV.str x3), .bool x4] (.str x5) true), ((0 + Int.toNat 0) + (Int.toNat (max (IntKind.wrap .i64 ((List.length x1.1 : Int) - 1)) 0) - Int.toNat 0) ≤ List.length (List.map PV.str x1.1))] (by kernel_rfl) (.cons (by rw [List.length_map]) (.cons (cutR_ob hx3 (by simp)) (.cons (LesA.rfl' _) (.cons (c31 hx4) (.cons (.cons (.of_eq (congrArg (PV.sl none) (cutR_arg hx3))) (.cons (.refl _) .nil)) (.cons (c30 hx5) (.cons (cutR_bound hx3) .nil))))))) (Sub.refl _)) ?_
    refine x_toret ?_
    obtain rfl := Option.some.inj h
    exact x_ret (.str x5) [] [] (by kernel_rfl) .nil (by decide) (.refl _) (fun _ => rfl)

theorem c29 {p : Str} {r : Str} (h : ref03_Dir p = some r) : CallOK Tryd.prog 29 [.str p] (.str r) true := by
  apply ok29
  unfold ref03_Dir at h
  refine x_rg (st2 := { tm := [(0, .pv (.str p))], hp := [], nx := 0 }) (RegTo.mk [(.n, .e)] ({ tm := [(0, .pv (.str p))], hp := [], nx := 0 }) [] (by kernel_rfl) .nil (Sub.refl _)) ?_
  obtain ⟨x1, hx1, h⟩ := bind_some h
  refine x_rg (st2 := { tm := [(0, .pv (.str p)), (3, .osl 0 0 (List.map PV.str x1.1).length), (4, .pv (.int .i64 x1.2))], hp := [(0, some (.p none (List.map PV.str x1.1)))], nx := 1 }) (RegTo.mk [(.n, .e), (.n, (.call [.str p] (.tup [.usl none (List.map PV.str x1.1), .int .i64 x1.2]) true)), (.n, .e), (.n, .e), (.n, .e), (.n, .e), (.n, .e)] ({ tm := [(0, .pv (.str p)), (3, .osl 0 0 (List.map PV.str x1.1).length), (4, .pv (.int .i64 x1.2))], hp := [(0, some (.p none (List.map PV.str x1.1)))], nx := 1 }) [(LesA [.str p] [.str p]), (CallOK Tryd.prog 17 [.str p] (.tup [.usl none (List.map PV.str x1.1), .int .i64 x1.2]) true)] (by kernel_rfl) (.cons (LesA.rfl' _) (.cons (c17 hx1) .nil)) (Sub.refl _)) ?_
  refine x_seq ?_
  refine x_rg (st2 := { tm := [(0, .pv (.str p)), (3, .osl 0 0 (List.map PV.str x1.1).length), (11, .pv (.bool (!decide (x1.2 = 0))))], hp := [(0, some (.p none (List.map PV.str x1.1)))], nx := 1 }) (RegTo.mk [(.n, .e), (.n, .e)] ({ tm := [(0, .pv (.str p)), (3, .osl 0 0 (List.map PV.str x1.1).length), (11, .pv (.bool (!decide (x1.2 = 0))))], hp := [(0, some (.p none (List.map PV.str x1.1)))], nx := 1 }) [] (by kernel_rfl) .nil (Sub.refl _)) ?_
  refine x_cond _ rfl (fun hc2 => ?_) (fun hc2 => ?_)
  · replace h := ite_t h hc2
    refine x_rg (st2 := { tm := [(2, .pv (.str []))], hp := [], nx := 0 }) (RegTo.mk [(.n, .e)] ({ tm := [(2, .pv (.str []))], hp := [], nx := 0 }) [] (by kernel_rfl) .nil (Sub.refl _)) ?_
    refine x_toret ?_
    refine x_tr ?_
    obtain rfl := Option.some.inj h
    exact x_ret (.str []) [] [] (by kernel_rfl) .nil (by decide) (.refl _) (fun _ => rfl)
  · replace h := ite_f h hc2
    refine x_kw (st2 := { tm := [(0, .pv (.str p)), (3, .osl 0 0 (List.map PV.str x1.1).length)], hp := [(0, some (.p none (List.map PV.str x1.1)))], nx := 1 }) ({ tm := [(0, .pv (.str p)), (3, .osl 0 0 (List.map PV.str x1.1).length)], hp := [(0, some (.p none (List.map PV.str x1.1)))], nx := 1 }) (by kernel_rfl) (Sub.refl _) ?_
    refine x_skip ?_
    refine x_tn ?_
    obtain ⟨x3, hx3, h⟩ := bind_some h
    obtain ⟨x4, hx4, h⟩ := bind_some h
    obtain ⟨x5, hx5, h⟩ := bind_some h
    refine x_rg (st2 := { tm := [(2, .pv (.str x5))], hp := [], nx := 0 }) (RegTo.mk [(.n, .e), (.n, (.call [.str p] (.bool x3) true)), (.n, .e), (.n, .e), (.n, (.len (List.length x1.1 : Int))), (.n, .e), (.n, .e), (.n, .cutR), (.n, (.call [.bool x3, .sl none (List.map PV.str x4)] (.str x5) true)), (.n, .e)] ({ tm := [(2, .pv (.str x5))], hp := [], nx := 0 }) [(LesA [.str p] [.str p]), (CallOK Tryd.prog 24 [.str p] (.bool x3) true), ((((List.map PV.str x1.1).length : Nat) : Int) = (List.length x1.1 : Int)), (0 ≤ (0 : Int) ∧ (0 : Int) ≤ (max 0 (IntKind.wrap .i64 ((List.length x1.1 : Int) - 1))) ∧ (max 0 (IntKind.wrap .i64 ((List.length x1.1 : Int) - 1))) ≤ (((List.map PV.str x1.1).length : Nat) : Int)), (LesA [.bool x3, .sl none (List.take (Int.toNat (max 0 (IntKind.wrap .i64 ((List.length x1.1 : Int) - 1))) - Int.toNat 0) (List.drop (0 + Int.toNat 0) (List.map PV.str x1.1)))] [.bool x3, .sl none (List.map PV.str x4)]), (CallOK Tryd.prog 23 [.bool x3, .sl none (List.map PV.str x4)] (.str x5) true), ((0 + Int.toNat 0) + (Int.toNat (max 0 (IntKind.wrap .i64 ((List.length x1.1 : Int) - 1))) - Int.toNat 0) ≤ List.length (List.map PV.str x1.1))] (by kernel_rfl) (.cons (LesA.rfl' _) (.cons (c24 hx3) (.cons (by rw [List.length_map]) (.cons (cutR_ob hx4 (by simp)) (.cons (.cons (.refl _) (.cons (.of_eq (congrArg (PV.sl none) (cutR_arg hx4))) .nil)) (.cons (c23 hx5) (.cons (cutR_bound hx4) .nil))))))) (Sub.refl _)) ?_
    refine x_toret ?_
    obtain rfl := Option.some.inj h
    exact x_ret (.str x5) [] [] (by kernel_rfl) .nil (by decide) (.refl _) (fun _ => rfl)

theorem c9 {p : Str} {r : Bool} (h : law03_PathEnds p = some r) : CallOK Tryd.prog 9 [.str p] (.bool r) true := by
  apply ok9
  unfold law03_PathEnds at h
  refine x_rg (st2 := { tm := [(0, .pv (.str p))], hp := [], nx := 0 }) (RegTo.mk [(.n, .e)] ({ tm := [(0, .pv (.str p))], hp := [], nx := 0 }) [] (by kernel_rfl) .nil (Sub.refl _)) ?_
  refine x_seq ?_
  refine x_rg (st2 := { tm := [(0, .pv (.str p)), (5, .pv (.bool (decide (5000 < (List.length p : Int)))))], hp := [], nx := 0 }) (RegTo.mk [(.n, .e), (.n, .e), (.n, .e)] ({ tm := [(0, .pv (.str p)), (5, .pv (.bool (decide (5000 < (List.length p : Int)))))], hp := [], nx := 0 }) [] (by kernel_rfl) .nil (Sub.refl _)) ?_
  refine x_cond _ rfl (fun hc1 => ?_) (fun hc1 => ?_)
  · replace h := ite_t h hc1
    obtain ⟨x2, hx2, h⟩ := bind_some h
    refine x_rg (st2 := { tm := [(2, .pv (.bool x2))], hp := [], nx := 0 }) (RegTo.mk [(.n, (.call [] (.bool x2) true)), (.n, .e)] ({ tm := [(2, .pv (.bool x2))], hp := [], nx := 0 }) [(LesA [] []), (CallOK Tryd.prog 11 [] (.bool x2) true)] (by kernel_rfl) (.cons (LesA.rfl' _) (.cons (c11 hx2) .nil)) (Sub.refl _)) ?_
    refine x_toret ?_
    refine x_tr ?_
    obtain rfl := Option.some.inj h
    exact x_ret (.bool x2) [] [] (by kernel_rfl) .nil (by decide) (.refl _) (fun _ => rfl)
  · replace h := ite_f h hc1
    refine x_kw (st2 := { tm := [(0, .pv (.str p))], hp := [], nx := 0 }) ({ tm := [(0, .pv (.str p))], hp := [], nx := 0 }) (by kernel_rfl) (Sub.refl _) ?_
    refine x_skip ?_
    refine x_tn ?_
    obtain ⟨x3, hx3, h⟩ := bind_some h
    obtain ⟨x4, hx4, h⟩ := bind_some h
    obtain ⟨t10, ht, h⟩ := bind_some h
    refine x_rg (st2 := { tm := [(2, .pv (.bool t10))], hp := [], nx := 0 }) ?_ ?_
    · rcases Bool.eq_false_or_eq_true (decide (x3 = x4)) with hg5 | hg5
      · replace ht := ite_t ht hg5
        obtain ⟨x6, hx6, ht⟩ := bind_some ht
        obtain ⟨x7, hx7, ht⟩ := bind_some ht
        rcases Bool.eq_false_or_eq_true (decide (x6 = x7)) with hg8 | hg8
        · replace ht := ite_t ht hg8
          obtain ⟨x9, hx9, ht⟩ := bind_some ht
          have e := Option.some.inj ht
          subst e
          exact RegTo.mk [(.n, .e), (.n, (.call [.str p] (.str x3) true)), (.n, .e), (.n, (.call [.str p] (.str x4) true)), (.n, .e), (.n, .e), (.y, .e), (.y, (.call [.str p] (.str x6) true)), (.y, .e), (.y, (.call [.str p] (.str x7) true)), (.y, .e), (.n, (.pk true)), (.n, .e), (.y, (.call [] (.bool x9) true)), (.n, (.pk true)), (.n, .e)] ({ tm := [(2, .pv (.bool x9))], hp := [], nx := 0 }) [(LesA [.str p] [.str p]), (CallOK Tryd.prog 26 [.str p] (.str x3) true), (LesA [.str p] [.str p]), (CallOK Tryd.prog 27 [.str p] (.str x4) true), ((decide (x3 = x4)) = true), ((decide (x3 = x4)) = true), (LesA [.str p] [.str p]), (CallOK Tryd.prog 28 [.str p] (.str x6) true), ((decide (x3 = x4)) = true), ((decide (x3 = x4)) = true), (LesA [.str p] [.str p]), (CallOK Tryd.prog 29 [.str p] (.str x7) true), ((decide (x3 = x4)) = true), ((decide (x3 = x4)) = true), ((decide (x6 = x7)) = true), (LesA [] []), (CallOK Tryd.prog 11 [] (.bool x9) true), ((decide (x6 = x7)) = true)] (by kernel_rfl) (.cons (LesA.rfl' _) (.cons (c26 hx3) (.cons (LesA.rfl' _) (.cons (c27 hx4) (.cons hg5 (.cons hg5 (.cons (LesA.rfl' _) (.cons (c28 hx6) (.cons hg5 (.cons hg5 (.cons (LesA.rfl' _) (.cons (c29 hx7) (.cons hg5 (.cons hg5 (.cons hg8 (.cons (LesA.rfl' _) (.cons (c11 hx9) (.cons hg8 .nil)))))))))))))))))) (Sub.refl _)
        · replace ht := ite_f ht hg8
          have e := Option.some.inj ht
          subst e
          exact RegTo.mk [(.n, .e), (.n, (.call [.str p] (.str x3) true)), (.n, .e), (.n, (.call [.str p] (.str x4) true)), (.n, .e), (.n, .e), (.y, .e), (.y, (.call [.str p] (.str x6) true)), (.y, .e), (.y, (.call [.str p] (.str x7) true)), (.y, .e), (.n, (.pk true)), (.n, .e), (.s, .e), (.n, (.pk false)), (.n, .e)] ({ tm := [(2, .pv (.bool false))], hp := [], nx := 0 }) [(LesA [.str p] [.str p]), (CallOK Tryd.prog 26 [.str p] (.str x3) true), (LesA [.str p] [.str p]), (CallOK Tryd.prog 27 [.str p] (.str x4) true), ((decide (x3 = x4)) = true), ((decide (x3 = x4)) = true), (LesA [.str p] [.str p]), (CallOK Tryd.prog 28 [.str p] (.str x6) true), ((decide (x3 = x4)) = true), ((decide (x3 = x4)) = true), (LesA [.str p] [.str p]), (CallOK Tryd.prog 29 [.str p] (.str x7) true), ((decide (x3 = x4)) = true), ((decide (x3 = x4)) = true), ((decide (x6 = x7)) = false), ((decide (x6 = x7)) = false)] (by kernel_rfl) (.cons (LesA.rfl' _) (.cons (c26 hx3) (.cons (LesA.rfl' _) (.cons (c27 hx4) (.cons hg5 (.cons hg5 (.cons (LesA.rfl' _) (.cons (c28 hx6) (.cons hg5 (.cons hg5 (.cons (LesA.rfl' _) (.cons (c29 hx7) (.cons hg5 (.cons hg5 (.cons hg8 (.cons hg8 .nil)))))))))))))))) (Sub.refl _)
      · replace ht := ite_f ht hg5
        have e := Option.some.inj ht
        subst e
        exact RegTo.mk [(.n, .e), (.n, (.call [.str p] (.str x3) true)), (.n, .e), (.n, (.call [.str p] (.str x4) true)), (.n, .e), (.n, .e), (.s, .e), (.s, .e), (.s, .e), (.s, .e), (.s, .e), (.n, (.pk false)), (.n, .e), (.s, .e), (.n, .e), (.n, .e)] ({ tm := [(2, .pv (.bool false))], hp := [], nx := 0 }) [(LesA [.str p] [.str p]), (CallOK Tryd.prog 26 [.str p] (.str x3) true), (LesA [.str p] [.str p]), (CallOK Tryd.prog 27 [.str p] (.str x4) true), ((decide (x3 = x4)) = false), ((decide (x3 = x4)) = false), ((decide (x3 = x4)) = false), ((decide (x3 = x4)) = false), ((decide (x3 = x4)) = false), ((decide (x3 = x4)) = false), (false = false)] (by kernel_rfl) (.cons (LesA.rfl' _) (.cons (c26 hx3) (.cons (LesA.rfl' _) (.cons (c27 hx4) (.cons hg5 (.cons hg5 (.cons hg5 (.cons hg5 (.cons hg5 (.cons hg5 (.cons rfl .nil))))))))))) (Sub.refl _)
    · clear ht
      refine x_toret ?_
      obtain rfl := Option.some.inj h
      exact x_ret (.bool t10) [] [] (by kernel_rfl) .nil (by decide) (.refl _) (fun _ => rfl)

theorem c10 {p : Str} {r : Bool} (h : law03_PathRejoins p = some r) : CallOK Tryd.prog 10 [.str p] (.bool r) true := by
  apply ok10
  unfold law03_PathRejoins at h
  refine x_rg (st2 := { tm := [(0, .pv (.str p))], hp := [], nx := 0 }) (RegTo.mk [(.n, .e)] ({ tm := [(0, .pv (.str p))], hp := [], nx := 0 }) [] (by kernel_rfl) .nil (Sub.refl _)) ?_
  refine x_seq ?_
  refine x_rg (st2 := { tm := [(0, .pv (.str p)), (11, .pv (.bool (decide (5000 < (List.length p : Int)))))], hp := [], nx := 0 }) (RegTo.mk [(.n, .e), (.n, .e), (.n, .e)] ({ tm := [(0, .pv (.str p)), (11, .pv (.bool (decide (5000 < (List.length p : Int)))))], hp := [], nx := 0 }) [] (by kernel_rfl) .nil (Sub.refl _)) ?_
  refine x_cond _ rfl (fun hc1 => ?_) (fun hc1 => ?_)
  · replace h := ite_t h hc1
    obtain ⟨x2, hx2, h⟩ := bind_some h
    refine x_rg (st2 := { tm := [(2, .pv (.bool x2))], hp := [], nx := 0 }) (RegTo.mk [(.n, (.call [] (.bool x2) true)), (.n, .e)] ({ tm := [(2, .pv (.bool x2))], hp := [], nx := 0 }) [(LesA [] []), (CallOK Tryd.prog 11 [] (.bool x2) true)] (by kernel_rfl) (.cons (LesA.rfl' _) (.cons (c11 hx2) .nil)) (Sub.refl _)) ?_
    refine x_toret ?_
    refine x_tr ?_
    obtain rfl := Option.some.inj h
    exact x_ret (.bool x2) [] [] (by kernel_rfl) .nil (by decide) (.refl _) (fun _ => rfl)
  · replace h := ite_f h hc1
    refine x_kw (st2 := { tm := [(0, .pv (.str p))], hp := [], nx := 0 }) ({ tm := [(0, .pv (.str p))], hp := [], nx := 0 }) (by kernel_rfl) (Sub.refl _) ?_
    refine x_skip ?_
    refine x_tn ?_
    obtain ⟨x3, hx3, h⟩ := bind_some h
    refine x_rg (st2 := { tm := [(0, .pv (.str p)), (3, .pv (.str x3.1)), (4, .pv (.int .i64 x3.2))], hp := [], nx := 0 }) (RegTo.mk [(.n, .e), (.n, (.call [.str p] (.tup [.str x3.1, .int .i64 x3.2]) true)), (.n, .e), (.n, .e), (.n, .e), (.n, .e), (.n, .e)] ({ tm := [(0, .pv (.str p)), (3, .pv (.str x3.1)), (4, .pv (.int .i64 x3.2))], hp := [], nx := 0 }) [(LesA [.str p] [.str p]), (CallOK Tryd.prog 14 [.str p] (.tup [.str x3.1, .int .i64 x3.2]) true)] (by kernel_rfl) (.cons (LesA.rfl' _) (.cons (c14 hx3) .nil)) (Sub.refl _)) ?_
    obtain ⟨x4, hx4, h⟩ := bind_some h
    refine x_rg (st2 := { tm := [(0, .pv (.str p)), (3, .pv (.str x3.1)), (4, .pv (.int .i64 x3.2)), (5, .osl 0 0 (List.map PV.str x4.1).length), (6, .pv (.int .i64 x4.2))], hp := [(0, some (.p none (List.map PV.str x4.1)))], nx := 1 }) (RegTo.mk [(.n, .e), (.n, (.call [.str p] (.tup [.usl none (List.map PV.str x4.1), .int .i64 x4.2]) true)), (.n, .e), (.n, .e), (.n, .e), (.n, .e), (.n, .e)] ({ tm := [(0, .pv (.str p)), (3, .pv (.str x3.1)), (4, .pv (.int .i64 x3.2)), (5, .osl 0 0 (List.map PV.str x4.1).length), (6, .pv (.int .i64 x4.2))], hp := [(0, some (.p none (List.map PV.str x4.1)))], nx := 1 }) [(LesA [.str p] [.str p]), (CallOK Tryd.prog 16 [.str p] (.tup [.usl none (List.map PV.str x4.1), .int .i64 x4.2]) true)] (by kernel_rfl) (.cons (LesA.rfl' _) (.cons (c16 hx4) .nil)) (Sub.refl _)) ?_
    refine x_seq ?_
    obtain ⟨t9, ht, h⟩ := bind_some h
    refine x_rg (st2 := { tm := [(0, .pv (.str p)), (3, .pv (.str x3.1)), (42, .pv (.bool t9))], hp := [], nx := 0 }) ?_ ?_
    · rcases Bool.eq_false_or_eq_true (!decide (x3.2 = 0)) with hg5 | hg5
      · replace ht := ite_t ht hg5
        have e := Option.some.inj ht
        subst e
        exact RegTo.mk [(.n, .e), (.n, .e), (.n, .e), (.s, .e), (.s, .e), (.n, (.pk true)), (.n, .e), (.s, .e), (.s, .e), (.s, .e), (.n, .e), (.n, .e), (.s, .e), (.s, .e), (.s, .e), (.s, .e), (.s, .e), (.s, .e), (.s, .e), (.n, .e)] ({ tm := [(0, .pv (.str p)), (3, .pv (.str x3.1)), (42, .pv (.bool true))], hp := [], nx := 0 }) [((!decide (x3.2 = 0)) = true), ((!decide (x3.2 = 0)) = true), ((!decide (x3.2 = 0)) = true), (true = true), (true = true), (true = true), (true = true), (true = true), (true = true), (true = true), (true = true), (true = true), (true = true)] (by kernel_rfl) (.cons hg5 (.cons hg5 (.cons hg5 (.cons rfl (.cons rfl (.cons rfl (.cons rfl (.cons rfl (.cons rfl (.cons rfl (.cons rfl (.cons rfl (.cons rfl .nil))))))))))))) (Sub.refl _)
      · replace ht := ite_f ht hg5
        rcases Bool.eq_false_or_eq_true (!decide (x4.2 = 0)) with hg6 | hg6
        · replace ht := ite_t ht hg6
          have e := Option.some.inj ht
          subst e
          exact RegTo.mk [(.n, .e), (.n, .e), (.n, .e), (.y, .e), (.y, .e), (.n, (.pk false)), (.n, .e), (.s, .e), (.s, .e), (.s, .e), (.n, (.pk true)), (.n, .e), (.s, .e), (.s, .e), (.s, .e), (.s, .e), (.s, .e), (.s, .e), (.s, .e), (.n, .e)] ({ tm := [(0, .pv (.str p)), (3, .pv (.str x3.1)), (42, .pv (.bool true))], hp := [], nx := 0 }) [((!decide (x3.2 = 0)) = false), ((!decide (x3.2 = 0)) = false), ((!decide (x3.2 = 0)) = false), ((!decide (x4.2 = 0)) = true), ((!decide (x4.2 = 0)) = true), ((!decide (x4.2 = 0)) = true), ((!decide (x4.2 = 0)) = true), (true = true), (true = true), (true = true), (true = true), (true = true), (true = true), (true = true)] (by kernel_rfl) (.cons hg5 (.cons hg5 (.cons hg5 (.cons hg6 (.cons hg6 (.cons hg6 (.cons hg6 (.cons rfl (.cons rfl (.cons rfl (.cons rfl (.cons rfl (.cons rfl (.cons rfl .nil)))))))))))))) (Sub.refl _)
        · replace ht := ite_f ht hg6
          rcases Bool.eq_false_or_eq_true (decide ((List.length x4.1 : Int) = 0)) with hg7 | hg7
          · replace ht := ite_t ht hg7
            have e := Option.some.inj ht
            subst e
            exact RegTo.mk [(.n, .e), (.n, .e), (.n, .e), (.y, .e), (.y, .e), (.n, (.pk false)), (.n, .e), (.y, .e), (.y, (.len (List.length x4.1 : Int))), (.y, .e), (.n, (.pk false)), (.n, .e), (.s, .e), (.s, .e), (.s, .e), (.s, .e), (.s, .e), (.s, .e), (.s, .e), (.n, (.pk true))] ({ tm := [(0, .pv (.str p)), (3, .pv (.str x3.1)), (42, .pv (.bool true))], hp := [], nx := 0 }) [((!decide (x3.2 = 0)) = false), ((!decide (x3.2 = 0)) = false), ((!decide (x3.2 = 0)) = false), ((!decide (x4.2 = 0)) = false), ((!decide (x4.2 = 0)) = false), ((((List.map PV.str x4.1).length : Nat) : Int) = (List.length x4.1 : Int)), ((!decide (x4.2 = 0)) = false), ((!decide (x4.2 = 0)) = false), ((decide ((List.length x4.1 : Int) = 0)) = true), ((decide ((List.length x4.1 : Int) = 0)) = true), ((decide ((List.length x4.1 : Int) = 0)) = true), ((decide ((List.length x4.1 : Int) = 0)) = true), ((decide ((List.length x4.1 : Int) = 0)) = true), ((decide ((List.length x4.1 : Int) = 0)) = true), ((decide ((List.length x4.1 : Int) = 0)) = true), ((decide ((List.length x4.1 : Int) = 0)) = true)] (by kernel_rfl) (.cons hg5 (.cons hg5 (.cons hg5 (.cons hg6 (.cons hg6 (.cons (by rw [List.length_map]) (.cons hg6 (.cons hg6 (.cons hg7 (.cons hg7 (.cons hg7 (.cons hg7 (.cons hg7 (.cons hg7 (.cons hg7 (.cons hg7 .nil)))))))))))))))) (Sub.refl _)
          · replace ht := ite_f ht hg7
            obtain ⟨x8, hx8, ht⟩ := bind_some ht
            have e := Option.some.inj ht
            subst e
            exact RegTo.mk [(.n, .e), (.n, .e), (.n, .e), (.y, .e), (.y, .e), (.n, (.pk false)), (.n, .e), (.y, .e), (.y, (.len (List.length x4.1 : Int))), (.y, .e), (.n, (.pk false)), (.n, .e), (.y, .e), (.y, .e), (.y, (.len (List.length x4.1 : Int))), (.y, .e), (.y, .rAt), (.y, (.ld (.str x8))), (.y, .e), (.n, (.pk false))] ({ tm := [(0, .pv (.str p)), (3, .pv (.str x3.1)), (42, .pv (.bool (decide (x8 = [46, 46]))))], hp := [], nx := 0 }) [((!decide (x3.2 = 0)) = false), ((!decide (x3.2 = 0)) = false), ((!decide (x3.2 = 0)) = false), ((!decide (x4.2 = 0)) = false), ((!decide (x4.2 = 0)) = false), ((((List.map PV.str x4.1).length : Nat) : Int) = (List.length x4.1 : Int)), ((!decide (x4.2 = 0)) = false), ((!decide (x4.2 = 0)) = false), ((decide ((List.length x4.1 : Int) = 0)) = false), ((decide ((List.length x4.1 : Int) = 0)) = false), ((decide ((List.length x4.1 : Int) = 0)) = false), ((((List.map PV.str x4.1).length : Nat) : Int) = (List.length x4.1 : Int)), ((decide ((List.length x4.1 : Int) = 0)) = false), ((decide ((List.length x4.1 : Int) = 0)) = false), (0 ≤ ((IntKind.wrap .i64 ((List.length x4.1 : Int) - 1)) : Int) ∧ Int.toNat (IntKind.wrap .i64 ((List.length x4.1 : Int) - 1)) < (List.map PV.str x4.1).length), ((decide ((List.length x4.1 : Int) = 0)) = false), ((List.map PV.str x4.1)[(0 + Int.toNat (IntKind.wrap .i64 ((List.length x4.1 : Int) - 1)))]? = some (.str x8)), ((decide ((List.length x4.1 : Int) = 0)) = false), ((decide ((List.length x4.1 : Int) = 0)) = false)] (by kernel_rfl) (.cons hg5 (.cons hg5 (.cons hg5 (.cons hg6 (.cons hg6 (.cons (by rw [List.length_map]) (.cons hg6 (.cons hg6 (.cons hg7 (.cons hg7 (.cons hg7 (.cons (by rw [List.length_map]) (.cons hg7 (.cons hg7 (.cons (rAt_ob hx8 (by simp)) (.cons hg7 (.cons (ownAt hx8) (.cons hg7 (.cons hg7 .nil))))))))))))))))))) (Sub.refl _)
    · clear ht
      refine x_cond _ rfl (fun hc10 => ?_) (fun hc10 => ?_)
      · replace h := ite_t h hc10
        obtain ⟨x11, hx11, h⟩ := bind_some h
        refine x_rg (st2 := { tm := [(2, .pv (.bool x11))], hp := [], nx := 0 }) (RegTo.mk [(.n, (.call [] (.bool x11) true)), (.n, .e)] ({ tm := [(2, .pv (.bool x11))], hp := [], nx := 0 }) [(LesA [] []), (CallOK Tryd.prog 11 [] (.bool x11) true)] (by kernel_rfl) (.cons (LesA.rfl' _) (.cons (c11 hx11) .nil)) (Sub.refl _)) ?_
        refine x_toret ?_
        refine x_tr ?_
        obtain rfl := Option.some.inj h
        exact x_ret (.bool x11) [] [] (by kernel_rfl) .nil (by decide) (.refl _) (fun _ => rfl)
      · replace h := ite_f h hc10
        refine x_kw (st2 := { tm := [(0, .pv (.str p)), (3, .pv (.str x3.1))], hp := [], nx := 0 }) ({ tm := [(0, .pv (.str p)), (3, .pv (.str x3.1))], hp := [], nx := 0 }) (by kernel_rfl) (Sub.refl _) ?_
        refine x_skip ?_
        refine x_tn ?_
        obtain ⟨x12, hx12, h⟩ := bind_some h
        obtain ⟨x13, hx13, h⟩ := bind_some h
        obtain ⟨x14, hx14, h⟩ := bind_some h
        refine x_rg (st2 := { tm := [(3, .pv (.str x3.1)), (7, .pv (.str x14.1)), (8, .pv (.int .i64 x14.2))], hp := [], nx := 0 }) (RegTo.mk [(.n, .e), (.n, (.call [.str p] (.str x12) true)), (.n, .e), (.n, (.call [.str p] (.str x13) true)), (.n, (.call [.str x12, .str x13] (.tup [.str x14.1, .int .i64 x14.2]) true)), (.n, .e), (.n, .e), (.n, .e), (.n, .e), (.n, .e)] ({ tm := [(3, .pv (.str x3.1)), (7, .pv (.str x14.1)), (8, .pv (.int .i64 x14.2))], hp := [], nx := 0 }) [(LesA [.str p] [.str p]), (CallOK Tryd.prog 28 [.str p] (.str x12) true), (LesA [.str p] [.str p]), (CallOK Tryd.prog 26 [.str p] (.str x13) true), (LesA [.str x12, .str x13] [.str x12, .str x13]), (CallOK Tryd.prog 19 [.str x12, .str x13] (.tup [.str x14.1, .int .i64 x14.2]) true)] (by kernel_rfl) (.cons (LesA.rfl' _) (.cons (c28 hx12) (.cons (LesA.rfl' _) (.cons (c26 hx13) (.cons (LesA.rfl' _) (.cons (c19 hx14) .nil)))))) (Sub.refl _)) ?_
        obtain ⟨t18, ht, h⟩ := bind_some h
        refine x_rg (st2 := { tm := [(2, .pv (.bool t18))], hp := [], nx := 0 }) ?_ ?_
        · rcases Bool.eq_false_or_eq_true (decide (x14.2 = 0)) with hg15 | hg15
          · replace ht := ite_t ht hg15
            rcases Bool.eq_false_or_eq_true (decide (x14.1 = x3.1)) with hg16 | hg16
            · replace ht := ite_t ht hg16
              obtain ⟨x17, hx17, ht⟩ := bind_some ht
              have e := Option.some.inj ht
              subst e
              exact RegTo.mk [(.n, .e), (.n, .e), (.n, .e), (.y, .e), (.y, .e), (.y, .e), (.n, (.pk true)), (.n, .e), (.y, (.call [] (.bool x17) true)), (.n, (.pk true)), (.n, .e)] ({ tm := [(2, .pv (.bool x17))], hp := [], nx := 0 }) [((decide (x14.2 = 0)) = true), ((decide (x14.2 = 0)) = true), ((decide (x14.2 = 0)) = true), ((decide (x14.2 = 0)) = true), ((decide (x14.1 = x3.1)) = true), (LesA [] []), (CallOK Tryd.prog 11 [] (.bool x17) true), ((decide (x14.1 = x3.1)) = true)] (by kernel_rfl) (.cons hg15 (.cons hg15 (.cons hg15 (.cons hg15 (.cons hg16 (.cons (LesA.rfl' _) (.cons (c11 hx17) (.cons hg16 .nil)))))))) (Sub.refl _)
            · replace ht := ite_f ht hg16
              have e := Option.some.inj ht
              subst e
              exact RegTo.mk [(.n, .e), (.n, .e), (.n, .e), (.y, .e), (.y, .e), (.y, .e), (.n, (.pk true)), (.n, .e), (.s, .e), (.n, (.pk false)), (.n, .e)] ({ tm := [(2, .pv (.bool false))], hp := [], nx := 0 }) [((decide (x14.2 = 0)) = true), ((decide (x14.2 = 0)) = true), ((decide (x14.2 = 0)) = true), ((decide (x14.2 = 0)) = true), ((decide (x14.1 = x3.1)) = false), ((decide (x14.1 = x3.1)) = false)] (by kernel_rfl) (.cons hg15 (.cons hg15 (.cons hg15 (.cons hg15 (.cons hg16 (.cons hg16 .nil)))))) (Sub.refl _)
          · replace ht := ite_f ht hg15
            have e := Option.some.inj ht
            subst e
            exact RegTo.mk [(.n, .e), (.n, .e), (.n, .e), (.s, .e), (.s, .e), (.s, .e), (.n, (.pk false)), (.n, .e), (.s, .e), (.n, .e), (.n, .e)] ({ tm := [(2, .pv (.bool false))], hp := [], nx := 0 }) [((decide (x14.2 = 0)) = false), ((decide (x14.2 = 0)) = false), ((decide (x14.2 = 0)) = false), ((decide (x14.2 = 0)) = false), (false = false)] (by kernel_rfl) (.cons hg15 (.cons hg15 (.cons hg15 (.cons hg15 (.cons rfl .nil))))) (Sub.refl _)
        · clear ht
          refine x_toret ?_
          obtain rfl := Option.some.inj h
          exact x_ret (.bool t18) [] [] (by kernel_rfl) .nil (by decide) (.refl _) (fun _ => rfl)

theorem c48 {a0 : Str} {a1 : Str} {r : Int} (h : stringslite_Index a0 a1 = some r) : CallOK Tryd.prog 48 [.str a0, .str a1] (.int .i64 r) true :=
  ok_index Tryd.func48 (by kernel_rfl) (by kernel_rfl) Tryd.stringslite_Index_one h

theorem c52 {a0 : Str} {a1 : Int} {r : Int} (h : stringslite_IndexByte a0 a1 = some r) : CallOK Tryd.prog 52 [.str a0, .int .u8 a1] (.int .i64 r) true :=
  ok_indexByte Tryd.func52 (by kernel_rfl) (by kernel_rfl) Tryd.stringslite_IndexByte h

theorem c54 {n : Int} {r : Int} (h : bytealg_Cutover n = some r) : CallOK Tryd.prog 54 [.int .i64 n] (.int .i64 r) true := by
  apply ok54
  unfold bytealg_Cutover at h
  refine x_rg (st2 := { tm := [(0, .pv (.int .i64 n))], hp := [], nx := 0 }) (RegTo.mk [(.n, .e)] ({ tm := [(0, .pv (.int .i64 n))], hp := [], nx := 0 }) [] (by kernel_rfl) .nil (Sub.refl _)) ?_
  refine x_rg (st2 := { tm := [(2, .pv (.int .i64 (IntKind.wrap .i64 (Int.tdiv (IntKind.wrap .i64 (n + 16)) 8))))], hp := [], nx := 0 }) (RegTo.mk [(.n, .e), (.n, .e), (.n, .e), (.n, .e)] ({ tm := [(2, .pv (.int .i64 (IntKind.wrap .i64 (Int.tdiv (IntKind.wrap .i64 (n + 16)) 8))))], hp := [], nx := 0 }) [] (by kernel_rfl) .nil (Sub.refl _)) ?_
  refine x_toret ?_
  obtain rfl := Option.some.inj h
  exact x_ret (.int .i64 (IntKind.wrap .i64 (Int.tdiv (IntKind.wrap .i64 (n + 16)) 8))) [] [] (by kernel_rfl) .nil (by decide) (.refl _) (fun _ => rfl)

theorem c57 {sep : Str} {r : (Int × Int)} (h : bytealg_hashStr_string sep = some r) : CallOK Tryd.prog 57 [.str sep] (.tup [.int .u32 r.1, .int .u32 r.2]) true := by
  apply ok57
  unfold bytealg_hashStr_string at h
  refine x_rg (st2 := { tm := [(0, .pv (.str sep))], hp := [], nx := 0 }) (RegTo.mk [(.n, .e), (.n, .e)] ({ tm := [(0, .pv (.str sep))], hp := [], nx := 0 }) [] (by kernel_rfl) .nil (Sub.refl _)) ?_
  refine x_rg (st2 := { tm := [(0, .pv (.str sep)), (4, .pv (.int .u32 0))], hp := [], nx := 0 }) (RegTo.mk [(.n, .e)] ({ tm := [(0, .pv (.str sep)), (4, .pv (.int .u32 0))], hp := [], nx := 0 }) [] (by kernel_rfl) .nil (Sub.refl _)) ?_
  refine x_seq ?_
  refine x_rg (st2 := { tm := [(0, .pv (.str sep)), (4, .pv (.int .u32 0)), (5, .pv (.int .i64 0))], hp := [], nx := 0 }) (RegTo.mk [(.n, .e)] ({ tm := [(0, .pv (.str sep)), (4, .pv (.int .u32 0)), (5, .pv (.int .i64 0))], hp := [], nx := 0 }) [] (by kernel_rfl) .nil (Sub.refl _)) ?_
  refine x_block ?_
  refine x_kw (st2 := { tm := [(0, .pv (.str sep)), (4, .pv (.int .u32 0)), (5, .pv (.int .i64 0))], hp := [], nx := 0 }) ({ tm := [(0, .pv (.str sep)), (4, .pv (.int .u32 0)), (5, .pv (.int .i64 0))], hp := [], nx := 0 }) (by kernel_rfl) (Sub.refl _) ?_
  refine x_loop (σ := (Int × Int)) h (fun s => { tm := [(0, .pv (.str sep)), (4, .pv (.int .u32 s.1)), (5, .pv (.int .i64 s.2))], hp := [], nx := 0 }) (by kernel_rfl) ?_ ?_
  · rintro ⟨hash, i⟩
    kernel_rfl
  · rintro ⟨hash, i⟩ x5 h hx5
    replace h : bytealg_hashStr_string_L5 sep hash i = some x5 := h
    unfold bytealg_hashStr_string_L5 at h
    refine x_seq ?_
    refine x_rg (st2 := { tm := [(0, .pv (.str sep)), (4, .pv (.int .u32 hash)), (5, .pv (.int .i64 i)), (12, .pv (.bool (decide (i < (List.length sep : Int)))))], hp := [], nx := 0 }) (RegTo.mk [(.n, .e), (.n, .e), (.n, .e), (.n, .e)] ({ tm := [(0, .pv (.str sep)), (4, .pv (.int .u32 hash)), (5, .pv (.int .i64 i)), (12, .pv (.bool (decide (i < (List.length sep : Int)))))], hp := [], nx := 0 }) [] (by kernel_rfl) .nil (Sub.refl _)) ?_
    refine x_cond _ rfl (fun hc6 => ?_) (fun hc6 => ?_)
    · replace h := ite_t h hc6
      refine x_kw (st2 := { tm := [(0, .pv (.str sep)), (4, .pv (.int .u32 hash)), (5, .pv (.int .i64 i))], hp := [], nx := 0 }) ({ tm := [(0, .pv (.str sep)), (4, .pv (.int .u32 hash)), (5, .pv (.int .i64 i))], hp := [], nx := 0 }) (by kernel_rfl) (Sub.refl _) ?_
      refine x_skip ?_
      refine x_tn ?_
      refine x_seq ?_
      refine x_block ?_
      obtain ⟨c7, hc7, h⟩ := bind_some h
      refine x_rgt (st2 := { tm := [(0, .pv (.str sep)), (4, .pv (.int .u32 (IntKind.wrap .u32 ((IntKind.wrap .u32 (hash * 16777619)) + (IntKind.wrap .u32 (c7.toNat : Int)))))), (5, .pv (.int .i64 i))], hp := [], nx := 0 }) (RegTo.mk [(.n, .e), (.n, .e), (.n, .e), (.n, .e), (.n, (.sAt c7)), (.n, .e), (.n, .e), (.n, .e)] ({ tm := [(0, .pv (.str sep)), (4, .pv (.int .u32 (IntKind.wrap .u32 ((IntKind.wrap .u32 (hash * 16777619)) + (IntKind.wrap .u32 (c7.toNat : Int)))))), (5, .pv (.int .i64 i))], hp := [], nx := 0 }) [(strAt sep i = some c7)] (by kernel_rfl) (.cons hc7 .nil) (Sub.refl _)) ?_
      refine x_bn ?_
      refine x_tn ?_
      refine x_rgt (st2 := { tm := [(0, .pv (.str sep)), (4, .pv (.int .u32 (IntKind.wrap .u32 ((IntKind.wrap .u32 (hash * 16777619)) + (IntKind.wrap .u32 (c7.toNat : Int)))))), (5, .pv (.int .i64 (IntKind.wrap .i64 (i + 1))))], hp := [], nx := 0 }) (RegTo.mk [(.n, .e), (.n, .e), (.n, .e)] ({ tm := [(0, .pv (.str sep)), (4, .pv (.int .u32 (IntKind.wrap .u32 ((IntKind.wrap .u32 (hash * 16777619)) + (IntKind.wrap .u32 (c7.toNat : Int)))))), (5, .pv (.int .i64 (IntKind.wrap .i64 (i + 1))))], hp := [], nx := 0 }) [] (by kernel_rfl) .nil (Sub.refl _)) ?_
      refine x_tn ?_
      exact ⟨_, (Option.some.inj h).symm, by kernel_rfl⟩
    · replace h := ite_f h hc6
      refine x_kw (st2 := { tm := [(0, .pv (.str sep)), (4, .pv (.int .u32 hash))], hp := [], nx := 0 }) ({ tm := [(0, .pv (.str sep)), (4, .pv (.int .u32 hash))], hp := [], nx := 0 }) (by kernel_rfl) (Sub.refl _) ?_
      refine x_exit ?_
      refine x_te ?_
      refine x_te ?_
      replace h := done_map h hx5
      refine x_bh ?_
      refine x_tn ?_
      refine x_rg (st2 := { tm := [(0, .pv (.str sep)), (4, .pv (.int .u32 hash)), (6, .pv (.int .u32 1)), (7, .pv (.int .u32 16777619))], hp := [], nx := 0 }) (RegTo.mk [(.n, .e), (.n, .e)] ({ tm := [(0, .pv (.str sep)), (4, .pv (.int .u32 hash)), (6, .pv (.int .u32 1)), (7, .pv (.int .u32 16777619))], hp := [], nx := 0 }) [] (by kernel_rfl) .nil (Sub.refl _)) ?_
      refine x_seq ?_
      refine x_rg (st2 := { tm := [(4, .pv (.int .u32 hash)), (6, .pv (.int .u32 1)), (7, .pv (.int .u32 16777619)), (8, .pv (.int .i64 (List.length sep : Int)))], hp := [], nx := 0 }) (RegTo.mk [(.n, .e), (.n, .e), (.n, .e)] ({ tm := [(4, .pv (.int .u32 hash)), (6, .pv (.int .u32 1)), (7, .pv (.int .u32 16777619)), (8, .pv (.int .i64 (List.length sep : Int)))], hp := [], nx := 0 }) [] (by kernel_rfl) .nil (Sub.refl _)) ?_
      refine x_block ?_
      refine x_kw (st2 := { tm := [(4, .pv (.int .u32 hash)), (6, .pv (.int .u32 1)), (7, .pv (.int .u32 16777619)), (8, .pv (.int .i64 (List.length sep : Int)))], hp := [], nx := 0 }) ({ tm := [(4, .pv (.int .u32 hash)), (6, .pv (.int .u32 1)), (7, .pv (.int .u32 16777619)), (8, .pv (.int .i64 (List.length sep : Int)))], hp := [], nx := 0 }) (by kernel_rfl) (Sub.refl _) ?_
      refine x_loop (σ := (Int × Int × Int)) h (fun s => { tm := [(4, .pv (.int .u32 hash)), (6, .pv (.int .u32 s.1)), (7, .pv (.int .u32 s.2.1)), (8, .pv (.int .i64 s.2.2))], hp := [], nx := 0 }) (by kernel_rfl) ?_ ?_
      · rintro ⟨pow, sq, i_1⟩
        kernel_rfl
      · rintro ⟨pow, sq, i_1⟩ x16 h hx16
        replace h : bytealg_hashStr_string_L16 hash pow sq i_1 = some x16 := h
        unfold bytealg_hashStr_string_L16 at h
        refine x_seq ?_
        refine x_rg (st2 := { tm := [(4, .pv (.int .u32 hash)), (6, .pv (.int .u32 pow)), (7, .pv (.int .u32 sq)), (8, .pv (.int .i64 i_1)), (25, .pv (.bool (decide (0 < i_1))))], hp := [], nx := 0 }) (RegTo.mk [(.n, .e), (.n, .e)] ({ tm := [(4, .pv (.int .u32 hash)), (6, .pv (.int .u32 pow)), (7, .pv (.int .u32 sq)), (8, .pv (.int .i64 i_1)), (25, .pv (.bool (decide (0 < i_1))))], hp := [], nx := 0 }) [] (by kernel_rfl) .nil (Sub.refl _)) ?_
        refine x_cond _ rfl (fun hc17 => ?_) (fun hc17 => ?_)
        · replace h := ite_t h hc17
          refine x_kw (st2 := { tm := [(4, .pv (.int .u32 hash)), (6, .pv (.int .u32 pow)), (7, .pv (.int .u32 sq)), (8, .pv (.int .i64 i_1))], hp := [], nx := 0 }) ({ tm := [(4, .pv (.int .u32 hash)), (6, .pv (.int .u32 pow)), (7, .pv (.int .u32 sq)), (8, .pv (.int .i64 i_1))], hp := [], nx := 0 }) (by kernel_rfl) (Sub.refl _) ?_
          refine x_skip ?_
          refine x_tn ?_
          refine x_seq ?_
          refine x_block ?_
          refine x_join (τ := Int) (fun t => bytealg_hashStr_string_K18 sq i_1 t = some x16) (fun t => { tm := [(4, .pv (.int .u32 hash)), (6, .pv (.int .u32 t)), (7, .pv (.int .u32 sq)), (8, .pv (.int .i64 i_1))], hp := [], nx := 0 }) ?_ ?_
          · rintro p19 h
            replace h : bytealg_hashStr_string_K18 sq i_1 p19 = some x16 := h
            unfold bytealg_hashStr_string_K18 at h
            refine x_rgt (st2 := { tm := [(4, .pv (.int .u32 hash)), (6, .pv (.int .u32 p19)), (7, .pv (.int .u32 (IntKind.wrap .u32 (sq * sq)))), (8, .pv (.int .i64 i_1))], hp := [], nx := 0 }) (RegTo.mk [(.n, .e), (.n, .e), (.n, .e), (.n, .e)] ({ tm := [(4, .pv (.int .u32 hash)), (6, .pv (.int .u32 p19)), (7, .pv (.int .u32 (IntKind.wrap .u32 (sq * sq)))), (8, .pv (.int .i64 i_1))], hp := [], nx := 0 }) [] (by kernel_rfl) .nil (Sub.refl _)) ?_
            refine x_bn ?_
            refine x_tn ?_
            obtain ⟨x20, hx20, h⟩ := bind_some h
            refine x_rgt (st2 := { tm := [(4, .pv (.int .u32 hash)), (6, .pv (.int .u32 p19)), (7, .pv (.int .u32 (IntKind.wrap .u32 (sq * sq)))), (8, .pv (.int .i64 x20))], hp := [], nx := 0 }) (RegTo.mk [(.n, .e), (.n, (.dv x20)), (.n, .e)] ({ tm := [(4, .pv (.int .u32 hash)), (6, .pv (.int .u32 p19)), (7, .pv (.int .u32 (IntKind.wrap .u32 (sq * sq)))), (8, .pv (.int .i64 x20))], hp := [], nx := 0 }) [(shrI .i64 i_1 1 = some x20)] (by kernel_rfl) (.cons hx20 .nil) (Sub.refl _)) ?_
            refine x_tn ?_
            exact ⟨_, (Option.some.inj h).symm, by kernel_rfl⟩
          · refine x_rg (st2 := { tm := [(4, .pv (.int .u32 hash)), (6, .pv (.int .u32 pow)), (7, .pv (.int .u32 sq)), (8, .pv (.int .i64 i_1)), (30, .pv (.bool (!decide ((IntKind.wrap .i64 ((BitVec.ofInt (IntKind.bits .i64) i_1 &&& (BitVec.ofInt (IntKind.bits .i64) 1)).toNat : Nat)) = 0))))], hp := [], nx := 0 }) (RegTo.mk [(.n, .e), (.n, .e), (.n, .e)] ({ tm := [(4, .pv (.int .u32 hash)), (6, .pv (.int .u32 pow)), (7, .pv (.int .u32 sq)), (8, .pv (.int .i64 i_1)), (30, .pv (.bool (!decide ((IntKind.wrap .i64 ((BitVec.ofInt (IntKind.bits .i64) i_1 &&& (BitVec.ofInt (IntKind.bits .i64) 1)).toNat : Nat)) = 0))))], hp := [], nx := 0 }) [] (by kernel_rfl) .nil (Sub.refl _)) ?_
            refine x_cond _ rfl (fun hc21 => ?_) (fun hc21 => ?_)
            · replace h := ite_t h hc21
              refine x_rgt (st2 := { tm := [(4, .pv (.int .u32 hash)), (6, .pv (.int .u32 (IntKind.wrap .u32 (pow * sq)))), (7, .pv (.int .u32 sq)), (8, .pv (.int .i64 i_1))], hp := [], nx := 0 }) (RegTo.mk [(.n, .e), (.n, .e), (.n, .e), (.n, .e)] ({ tm := [(4, .pv (.int .u32 hash)), (6, .pv (.int .u32 (IntKind.wrap .u32 (pow * sq)))), (7, .pv (.int .u32 sq)), (8, .pv (.int .i64 i_1))], hp := [], nx := 0 }) [] (by kernel_rfl) .nil (Sub.refl _)) ?_
              refine x_tn ?_
              exact ⟨(IntKind.wrap .u32 (pow * sq)), h, by kernel_rfl⟩
            · replace h := ite_f h hc21
              refine x_kw (st2 := { tm := [(4, .pv (.int .u32 hash)), (6, .pv (.int .u32 pow)), (7, .pv (.int .u32 sq)), (8, .pv (.int .i64 i_1))], hp := [], nx := 0 }) ({ tm := [(4, .pv (.int .u32 hash)), (6, .pv (.int .u32 pow)), (7, .pv (.int .u32 sq)), (8, .pv (.int .i64 i_1))], hp := [], nx := 0 }) (by kernel_rfl) (Sub.refl _) ?_
              refine x_skip ?_
              refine x_tn ?_
              exact ⟨pow, h, by kernel_rfl⟩
        · replace h := ite_f h hc17
          refine x_kw (st2 := { tm := [(4, .pv (.int .u32 hash)), (6, .pv (.int .u32 pow))], hp := [], nx := 0 }) ({ tm := [(4, .pv (.int .u32 hash)), (6, .pv (.int .u32 pow))], hp := [], nx := 0 }) (by kernel_rfl) (Sub.refl _) ?_
          refine x_exit ?_
          refine x_te ?_
          refine x_te ?_
          replace h := done_leaf h hx16
          refine x_bh ?_
          refine x_tn ?_
          refine x_rg (st2 := { tm := [(2, .pv (.int .u32 hash)), (3, .pv (.int .u32 pow))], hp := [], nx := 0 }) (RegTo.mk [(.n, .e), (.n, .e), (.n, .e), (.n, .e)] ({ tm := [(2, .pv (.int .u32 hash)), (3, .pv (.int .u32 pow))], hp := [], nx := 0 }) [] (by kernel_rfl) .nil (Sub.refl _)) ?_
          refine x_toret ?_
          obtain rfl := Option.some.inj h
          exact x_ret (.tup [.int .u32 hash, .int .u32 pow]) [] [] (by kernel_rfl) .nil (by decide) (.tup (.cons (.refl _) (.cons (.refl _) .nil))) (fun _ => rfl)

theorem c55 {s_ : Str} {sep : Str} {r : Int} (h : bytealg_IndexRabinKarp_string s_ sep = some r) : CallOK Tryd.prog 55 [.str s_, .str sep] (.int .i64 r) true := by
  apply ok55
  unfold bytealg_IndexRabinKarp_string at h
  refine x_rg (st2 := { tm := [(0, .pv (.str s_)), (1, .pv (.str sep))], hp := [], nx := 0 }) (RegTo.mk [(.n, .e)] ({ tm := [(0, .pv (.str s_)), (1, .pv (.str sep))], hp := [], nx := 0 }) [] (by kernel_rfl) .nil (Sub.refl _)) ?_
  obtain ⟨x1, hx1, h⟩ := bind_some h
  refine x_rg (st2 := { tm := [(0, .pv (.str s_)), (1, .pv (.str sep)), (5, .pv (.int .u32 x1.1)), (6, .pv (.int .u32 x1.2))], hp := [], nx := 0 }) (RegTo.mk [(.n, .e), (.n, (.call [.str sep] (.tup [.int .u32 x1.1, .int .u32 x1.2]) true)), (.n, .e), (.n, .e), (.n, .e), (.n, .e), (.n, .e)] ({ tm := [(0, .pv (.str s_)), (1, .pv (.str sep)), (5, .pv (.int .u32 x1.1)), (6, .pv (.int .u32 x1.2))], hp := [], nx := 0 }) [(LesA [.str sep] [.str sep]), (CallOK Tryd.prog 57 [.str sep] (.tup [.int .u32 x1.1, .int .u32 x1.2]) true)] (by kernel_rfl) (.cons (LesA.rfl' _) (.cons (c57 hx1) .nil)) (Sub.refl _)) ?_
  refine x_rg (st2 := { tm := [(0, .pv (.str s_)), (1, .pv (.str sep)), (5, .pv (.int .u32 x1.1)), (6, .pv (.int .u32 x1.2)), (7, .pv (.int .i64 (List.length sep : Int)))], hp := [], nx := 0 }) (RegTo.mk [(.n, .e), (.n, .e), (.n, .e)] ({ tm := [(0, .pv (.str s_)), (1, .pv (.str sep)), (5, .pv (.int .u32 x1.1)), (6, .pv (.int .u32 x1.2)), (7, .pv (.int .i64 (List.length sep : Int)))], hp := [], nx := 0 }) [] (by kernel_rfl) .nil (Sub.refl _)) ?_
  refine x_rg (st2 := { tm := [(0, .pv (.str s_)), (1, .pv (.str sep)), (5, .pv (.int .u32 x1.1)), (6, .pv (.int .u32 x1.2)), (7, .pv (.int .i64 (List.length sep : Int))), (8, .pv (.int .u32 0))], hp := [], nx := 0 }) (RegTo.mk [(.n, .e)] ({ tm := [(0, .pv (.str s_)), (1, .pv (.str sep)), (5, .pv (.int .u32 x1.1)), (6, .pv (.int .u32 x1.2)), (7, .pv (.int .i64 (List.length sep : Int))), (8, .pv (.int .u32 0))], hp := [], nx := 0 }) [] (by kernel_rfl) .nil (Sub.refl _)) ?_
  refine x_seq ?_
  refine x_rg (st2 := { tm := [(0, .pv (.str s_)), (1, .pv (.str sep)), (5, .pv (.int .u32 x1.1)), (6, .pv (.int .u32 x1.2)), (7, .pv (.int .i64 (List.length sep : Int))), (8, .pv (.int .u32 0)), (9, .pv (.int .i64 0))], hp := [], nx := 0 }) (RegTo.mk [(.n, .e)] ({ tm := [(0, .pv (.str s_)), (1, .pv (.str sep)), (5, .pv (.int .u32 x1.1)), (6, .pv (.int .u32 x1.2)), (7, .pv (.int .i64 (List.length sep : Int))), (8, .pv (.int .u32 0)), (9, .pv (.int .i64 0))], hp := [], nx := 0 }) [] (by kernel_rfl) .nil (Sub.refl _)) ?_
  refine x_block ?_
  refine x_kw (st2 := { tm := [(0, .pv (.str s_)), (1, .pv (.str sep)), (5, .pv (.int .u32 x1.1)), (6, .pv (.int .u32 x1.2)), (7, .pv (.int .i64 (List.length sep : Int))), (8, .pv (.int .u32 0)), (9, .pv (.int .i64 0))], hp := [], nx := 0 }) ({ tm := [(0, .pv (.str s_)), (1, .pv (.str sep)), (5, .pv (.int .u32 x1.1)), (6, .pv (.int .u32 x1.2)), (7, .pv (.int .i64 (List.length sep : Int))), (8, .pv (.int .u32 0)), (9, .pv (.int .i64 0))], hp := [], nx := 0 }) (by kernel_rfl) (Sub.refl _) ?_
  refine x_loop (σ := (Int × Int)) h (fun s => { tm := [(0, .pv (.str s_)), (1, .pv (.str sep)), (5, .pv (.int .u32 x1.1)), (6, .pv (.int .u32 x1.2)), (7, .pv (.int .i64 (List.length sep : Int))), (8, .pv (.int .u32 s.1)), (9, .pv (.int .i64 s.2))], hp := [], nx := 0 }) (by kernel_rfl) ?_ ?_
  · rintro ⟨h_, i⟩
    kernel_rfl
  · rintro ⟨h_, i⟩ x6 h hx6
    replace h : bytealg_IndexRabinKarp_string_L6 s_ sep x1 h_ i = some x6 := h
    unfold bytealg_IndexRabinKarp_string_L6 at h
    refine x_seq ?_
    refine x_rg (st2 := { tm := [(0, .pv (.str s_)), (1, .pv (.str sep)), (5, .pv (.int .u32 x1.1)), (6, .pv (.int .u32 x1.2)), (7, .pv (.int .i64 (List.length sep : Int))), (8, .pv (.int .u32 h_)), (9, .pv (.int .i64 i)), (20, .pv (.bool (decide (i < (List.length sep : Int)))))], hp := [], nx := 0 }) (RegTo.mk [(.n, .e), (.n, .e), (.n, .e)] ({ tm := [(0, .pv (.str s_)), (1, .pv (.str sep)), (5, .pv (.int .u32 x1.1)), (6, .pv (.int .u32 x1.2)), (7, .pv (.int .i64 (List.length sep : Int))), (8, .pv (.int .u32 h_)), (9, .pv (.int .i64 i)), (20, .pv (.bool (decide (i < (List.length sep : Int)))))], hp := [], nx := 0 }) [] (by kernel_rfl) .nil (Sub.refl _)) ?_
    refine x_cond _ rfl (fun hc7 => ?_) (fun hc7 => ?_)
    · replace h := ite_t h hc7
      refine x_kw (st2 := { tm := [(0, .pv (.str s_)), (1, .pv (.str sep)), (5, .pv (.int .u32 x1.1)), (6, .pv (.int .u32 x1.2)), (7, .pv (.int .i64 (List.length sep : Int))), (8, .pv (.int .u32 h_)), (9, .pv (.int .i64 i))], hp := [], nx := 0 }) ({ tm := [(0, .pv (.str s_)), (1, .pv (.str sep)), (5, .pv (.int .u32 x1.1)), (6, .pv (.int .u32 x1.2)), (7, .pv (.int .i64 (List.length sep : Int))), (8, .pv (.int .u32 h_)), (9, .pv (.int .i64 i))], hp := [], nx := 0 }) (by kernel_rfl) (Sub.refl _) ?_
      refine x_skip ?_
      refine x_tn ?_
      refine x_seq ?_
      refine x_block ?_
      obtain ⟨c8, hc8, h⟩ := bind_some h
      refine x_rgt (st2 := { tm := [(0, .pv (.str s_)), (1, .pv (.str sep)), (5, .pv (.int .u32 x1.1)), (6, .pv (.int .u32 x1.2)), (7, .pv (.int .i64 (List.length sep : Int))), (8, .pv (.int .u32 (IntKind.wrap .u32 ((IntKind.wrap .u32 (h_ * 16777619)) + (IntKind.wrap .u32 (c8.toNat : Int)))))), (9, .pv (.int .i64 i))], hp := [], nx := 0 }) (RegTo.mk [(.n, .e), (.n, .e), (.n, .e), (.n, .e), (.n, (.sAt c8)), (.n, .e), (.n, .e), (.n, .e)] ({ tm := [(0, .pv (.str s_)), (1, .pv (.str sep)), (5, .pv (.int .u32 x1.1)), (6, .pv (.int .u32 x1.2)), (7, .pv (.int .i64 (List.length sep : Int))), (8, .pv (.int .u32 (IntKind.wrap .u32 ((IntKind.wrap .u32 (h_ * 16777619)) + (IntKind.wrap .u32 (c8.toNat : Int)))))), (9, .pv (.int .i64 i))], hp := [], nx := 0 }) [(strAt s_ i = some c8)] (by kernel_rfl) (.cons hc8 .nil) (Sub.refl _)) ?_
      refine x_bn ?_
      refine x_tn ?_
      refine x_rgt (st2 := { tm := [(0, .pv (.str s_)), (1, .pv (.str sep)), (5, .pv (.int .u32 x1.1)), (6, .pv (.int .u32 x1.2)), (7, .pv (.int .i64 (List.length sep : Int))), (8, .pv (.int .u32 (IntKind.wrap .u32 ((IntKind.wrap .u32 (h_ * 16777619)) + (IntKind.wrap .u32 (c8.toNat : Int)))))), (9, .pv (.int .i64 (IntKind.wrap .i64 (i + 1))))], hp := [], nx := 0 }) (RegTo.mk [(.n, .e), (.n, .e), (.n, .e)] ({ tm := [(0, .pv (.str s_)), (1, .pv (.str sep)), (5, .pv (.int .u32 x1.1)), (6, .pv (.int .u32 x1.2)), (7, .pv (.int .i64 (List.length sep : Int))), (8, .pv (.int .u32 (IntKind.wrap .u32 ((IntKind.wrap .u32 (h_ * 16777619)) + (IntKind.wrap .u32 (c8.toNat : Int)))))), (9, .pv (.int .i64 (IntKind.wrap .i64 (i + 1))))], hp := [], nx := 0 }) [] (by kernel_rfl) .nil (Sub.refl _)) ?_
      refine x_tn ?_
      exact ⟨_, (Option.some.inj h).symm, by kernel_rfl⟩
    · replace h := ite_f h hc7
      refine x_kw (st2 := { tm := [(0, .pv (.str s_)), (1, .pv (.str sep)), (5, .pv (.int .u32 x1.1)), (6, .pv (.int .u32 x1.2)), (7, .pv (.int .i64 (List.length sep : Int))), (8, .pv (.int .u32 h_))], hp := [], nx := 0 }) ({ tm := [(0, .pv (.str s_)), (1, .pv (.str sep)), (5, .pv (.int .u32 x1.1)), (6, .pv (.int .u32 x1.2)), (7, .pv (.int .i64 (List.length sep : Int))), (8, .pv (.int .u32 h_))], hp := [], nx := 0 }) (by kernel_rfl) (Sub.refl _) ?_
      refine x_exit ?_
      refine x_te ?_
      refine x_te ?_
      replace h := done_map h hx6
      unfold bytealg_IndexRabinKarp_string_A30 at h
      refine x_bh ?_
      refine x_tn ?_
      refine x_seq ?_
      obtain ⟨t11, ht, h⟩ := bind_some h
      refine x_rg (st2 := { tm := [(0, .pv (.str s_)), (1, .pv (.str sep)), (5, .pv (.int .u32 x1.1)), (6, .pv (.int .u32 x1.2)), (7, .pv (.int .i64 (List.length sep : Int))), (8, .pv (.int .u32 h_)), (39, .pv (.bool t11))], hp := [], nx := 0 }) ?_ ?_
      · rcases Bool.eq_false_or_eq_true (decide (h_ = x1.1)) with hg9 | hg9
        · replace ht := ite_t ht hg9
          obtain ⟨x10, hx10, ht⟩ := bind_some ht
          have e := Option.some.inj ht
          subst e
          exact RegTo.mk [(.n, .e), (.n, .e), (.n, .e), (.n, .e), (.y, .e), (.y, .e), (.y, (.cutS x10)), (.y, .e), (.y, .e), (.n, (.pk true))] ({ tm := [(0, .pv (.str s_)), (1, .pv (.str sep)), (5, .pv (.int .u32 x1.1)), (6, .pv (.int .u32 x1.2)), (7, .pv (.int .i64 (List.length sep : Int))), (8, .pv (.int .u32 h_)), (39, .pv (.bool (decide (x10 = sep))))], hp := [], nx := 0 }) [((decide (h_ = x1.1)) = true), ((decide (h_ = x1.1)) = true), ((decide (h_ = x1.1)) = true), (cut s_ 0 (List.length sep : Int) = some x10), ((decide (h_ = x1.1)) = true), ((decide (h_ = x1.1)) = true), ((decide (h_ = x1.1)) = true)] (by kernel_rfl) (.cons hg9 (.cons hg9 (.cons hg9 (.cons hx10 (.cons hg9 (.cons hg9 (.cons hg9 .nil))))))) (Sub.refl _)
        · replace ht := ite_f ht hg9
          have e := Option.some.inj ht
          subst e
          exact RegTo.mk [(.n, .e), (.n, .e), (.n, .e), (.n, .e), (.s, .e), (.s, .e), (.s, .e), (.s, .e), (.s, .e), (.n, (.pk false))] ({ tm := [(0, .pv (.str s_)), (1, .pv (.str sep)), (5, .pv (.int .u32 x1.1)), (6, .pv (.int .u32 x1.2)), (7, .pv (.int .i64 (List.length sep : Int))), (8, .pv (.int .u32 h_)), (39, .pv (.bool false))], hp := [], nx := 0 }) [((decide (h_ = x1.1)) = false), ((decide (h_ = x1.1)) = false), ((decide (h_ = x1.1)) = false), ((decide (h_ = x1.1)) = false), ((decide (h_ = x1.1)) = false), ((decide (h_ = x1.1)) = false)] (by kernel_rfl) (.cons hg9 (.cons hg9 (.cons hg9 (.cons hg9 (.cons hg9 (.cons hg9 .nil)))))) (Sub.refl _)
      · clear ht
        refine x_cond _ rfl (fun hc12 => ?_) (fun hc12 => ?_)
        · replace h := ite_t h hc12
          refine x_rg (st2 := { tm := [(4, .pv (.int .i64 0))], hp := [], nx := 0 }) (RegTo.mk [(.n, .e)] ({ tm := [(4, .pv (.int .i64 0))], hp := [], nx := 0 }) [] (by kernel_rfl) .nil (Sub.refl _)) ?_
          refine x_toret ?_
          refine x_tr ?_
          obtain rfl := Option.some.inj h
          exact x_ret (.int .i64 0) [] [] (by kernel_rfl) .nil (by decide) (.refl _) (fun _ => rfl)
        · replace h := ite_f h hc12
          refine x_kw (st2 := { tm := [(0, .pv (.str s_)), (1, .pv (.str sep)), (5, .pv (.int .u32 x1.1)), (6, .pv (.int .u32 x1.2)), (7, .pv (.int .i64 (List.length sep : Int))), (8, .pv (.int .u32 h_))], hp := [], nx := 0 }) ({ tm := [(0, .pv (.str s_)), (1, .pv (.str sep)), (5, .pv (.int .u32 x1.1)), (6, .pv (.int .u32 x1.2)), (7, .pv (.int .i64 (List.length sep : Int))), (8, .pv (.int .u32 h_))], hp := [], nx := 0 }) (by kernel_rfl) (Sub.refl _) ?_
          refine x_skip ?_
          refine x_tn ?_
          refine x_seq ?_
          refine x_rg (st2 := { tm := [(0, .pv (.str s_)), (1, .pv (.str sep)), (5, .pv (.int .u32 x1.1)), (6, .pv (.int .u32 x1.2)), (7, .pv (.int .i64 (List.length sep : Int))), (8, .pv (.int .u32 h_)), (10, .pv (.int .i64 (List.length sep : Int)))], hp := [], nx := 0 }) (RegTo.mk [(.n, .e), (.n, .e)] ({ tm := [(0, .pv (.str s_)), (1, .pv (.str sep)), (5, .pv (.int .u32 x1.1)), (6, .pv (.int .u32 x1.2)), (7, .pv (.int .i64 (List.length sep : Int))), (8, .pv (.int .u32 h_)), (10, .pv (.int .i64 (List.length sep : Int)))], hp := [], nx := 0 }) [] (by kernel_rfl) .nil (Sub.refl _)) ?_
          refine x_block ?_
          refine x_kw (st2 := { tm := [(0, .pv (.str s_)), (1, .pv (.str sep)), (5, .pv (.int .u32 x1.1)), (6, .pv (.int .u32 x1.2)), (7, .pv (.int .i64 (List.length sep : Int))), (8, .pv (.int .u32 h_)), (10, .pv (.int .i64 (List.length sep : Int)))], hp := [], nx := 0 }) ({ tm := [(0, .pv (.str s_)), (1, .pv (.str sep)), (5, .pv (.int .u32 x1.1)), (6, .pv (.int .u32 x1.2)), (7, .pv (.int .i64 (List.length sep : Int))), (8, .pv (.int .u32 h_)), (10, .pv (.int .i64 (List.length sep : Int)))], hp := [], nx := 0 }) (by kernel_rfl) (Sub.refl _) ?_
          refine x_loop (σ := (Int × Int)) h (fun s => { tm := [(0, .pv (.str s_)), (1, .pv (.str sep)), (5, .pv (.int .u32 x1.1)), (6, .pv (.int .u32 x1.2)), (7, .pv (.int .i64 (List.length sep : Int))), (8, .pv (.int .u32 s.1)), (10, .pv (.int .i64 s.2))], hp := [], nx := 0 }) (by kernel_rfl) ?_ ?_
          · rintro ⟨h__1, i_1⟩
            kernel_rfl
          · rintro ⟨h__1, i_1⟩ x22 h hx22
            replace h : bytealg_IndexRabinKarp_string_L22 s_ sep x1 h__1 i_1 = some x22 := h
            unfold bytealg_IndexRabinKarp_string_L22 at h
            refine x_seq ?_
            refine x_rg (st2 := { tm := [(0, .pv (.str s_)), (1, .pv (.str sep)), (5, .pv (.int .u32 x1.1)), (6, .pv (.int .u32 x1.2)), (7, .pv (.int .i64 (List.length sep : Int))), (8, .pv (.int .u32 h__1)), (10, .pv (.int .i64 i_1)), (44, .pv (.bool (decide (i_1 < (List.length s_ : Int)))))], hp := [], nx := 0 }) (RegTo.mk [(.n, .e), (.n, .e), (.n, .e), (.n, .e)] ({ tm := [(0, .pv (.str s_)), (1, .pv (.str sep)), (5, .pv (.int .u32 x1.1)), (6, .pv (.int .u32 x1.2)), (7, .pv (.int .i64 (List.length sep : Int))), (8, .pv (.int .u32 h__1)), (10, .pv (.int .i64 i_1)), (44, .pv (.bool (decide (i_1 < (List.length s_ : Int)))))], hp := [], nx := 0 }) [] (by kernel_rfl) .nil (Sub.refl _)) ?_
            refine x_cond _ rfl (fun hc23 => ?_) (fun hc23 => ?_)
            · replace h := ite_t h hc23
              refine x_kw (st2 := { tm := [(0, .pv (.str s_)), (1, .pv (.str sep)), (5, .pv (.int .u32 x1.1)), (6, .pv (.int .u32 x1.2)), (7, .pv (.int .i64 (List.length sep : Int))), (8, .pv (.int .u32 h__1)), (10, .pv (.int .i64 i_1))], hp := [], nx := 0 }) ({ tm := [(0, .pv (.str s_)), (1, .pv (.str sep)), (5, .pv (.int .u32 x1.1)), (6, .pv (.int .u32 x1.2)), (7, .pv (.int .i64 (List.length sep : Int))), (8, .pv (.int .u32 h__1)), (10, .pv (.int .i64 i_1))], hp := [], nx := 0 }) (by kernel_rfl) (Sub.refl _) ?_
              refine x_skip ?_
              refine x_tn ?_
              refine x_block ?_
              refine x_rg (st2 := { tm := [(0, .pv (.str s_)), (1, .pv (.str sep)), (5, .pv (.int .u32 x1.1)), (6, .pv (.int .u32 x1.2)), (7, .pv (.int .i64 (List.length sep : Int))), (8, .pv (.int .u32 (IntKind.wrap .u32 (h__1 * 16777619)))), (10, .pv (.int .i64 i_1))], hp := [], nx := 0 }) (RegTo.mk [(.n, .e), (.n, .e), (.n, .e)] ({ tm := [(0, .pv (.str s_)), (1, .pv (.str sep)), (5, .pv (.int .u32 x1.1)), (6, .pv (.int .u32 x1.2)), (7, .pv (.int .i64 (List.length sep : Int))), (8, .pv (.int .u32 (IntKind.wrap .u32 (h__1 * 16777619)))), (10, .pv (.int .i64 i_1))], hp := [], nx := 0 }) [] (by kernel_rfl) .nil (Sub.refl _)) ?_
              obtain ⟨c24, hc24, h⟩ := bind_some h
              refine x_rg (st2 := { tm := [(0, .pv (.str s_)), (1, .pv (.str sep)), (5, .pv (.int .u32 x1.1)), (6, .pv (.int .u32 x1.2)), (7, .pv (.int .i64 (List.length sep : Int))), (8, .pv (.int .u32 (IntKind.wrap .u32 ((IntKind.wrap .u32 (h__1 * 16777619)) + (IntKind.wrap .u32 (c24.toNat : Int)))))), (10, .pv (.int .i64 i_1))], hp := [], nx := 0 }) (RegTo.mk [(.n, .e), (.n, .e), (.n, .e), (.n, (.sAt c24)), (.n, .e), (.n, .e), (.n, .e)] ({ tm := [(0, .pv (.str s_)), (1, .pv (.str sep)), (5, .pv (.int .u32 x1.1)), (6, .pv (.int .u32 x1.2)), (7, .pv (.int .i64 (List.length sep : Int))), (8, .pv (.int .u32 (IntKind.wrap .u32 ((IntKind.wrap .u32 (h__1 * 16777619)) + (IntKind.wrap .u32 (c24.toNat : Int)))))), (10, .pv (.int .i64 i_1))], hp := [], nx := 0 }) [(strAt s_ i_1 = some c24)] (by kernel_rfl) (.cons hc24 .nil) (Sub.refl _)) ?_
              obtain ⟨c25, hc25, h⟩ := bind_some h
              refine x_rg (st2 := { tm := [(0, .pv (.str s_)), (1, .pv (.str sep)), (5, .pv (.int .u32 x1.1)), (6, .pv (.int .u32 x1.2)), (7, .pv (.int .i64 (List.length sep : Int))), (8, .pv (.int .u32 (IntKind.wrap .u32 ((IntKind.wrap .u32 ((IntKind.wrap .u32 (h__1 * 16777619)) + (IntKind.wrap .u32 (c24.toNat : Int)))) - (IntKind.wrap .u32 (x1.2 * (IntKind.wrap .u32 (c25.toNat : Int)))))))), (10, .pv (.int .i64 i_1))], hp := [], nx := 0 }) (RegTo.mk [(.n, .e), (.n, .e), (.n, .e), (.n, .e), (.n, .e), (.n, .e), (.n, (.sAt c25)), (.n, .e), (.n, .e), (.n, .e), (.n, .e)] ({ tm := [(0, .pv (.str s_)), (1, .pv (.str sep)), (5, .pv (.int .u32 x1.1)), (6, .pv (.int .u32 x1.2)), (7, .pv (.int .i64 (List.length sep : Int))), (8, .pv (.int .u32 (IntKind.wrap .u32 ((IntKind.wrap .u32 ((IntKind.wrap .u32 (h__1 * 16777619)) + (IntKind.wrap .u32 (c24.toNat : Int)))) - (IntKind.wrap .u32 (x1.2 * (IntKind.wrap .u32 (c25.toNat : Int)))))))), (10, .pv (.int .i64 i_1))], hp := [], nx := 0 }) [(strAt s_ (IntKind.wrap .i64 (i_1 - (List.length sep : Int))) = some c25)] (by kernel_rfl) (.cons hc25 .nil) (Sub.refl _)) ?_
              refine x_rg (st2 := { tm := [(0, .pv (.str s_)), (1, .pv (.str sep)), (5, .pv (.int .u32 x1.1)), (6, .pv (.int .u32 x1.2)), (7, .pv (.int .i64 (List.length sep : Int))), (8, .pv (.int .u32 (IntKind.wrap .u32 ((IntKind.wrap .u32 ((IntKind.wrap .u32 (h__1 * 16777619)) + (IntKind.wrap .u32 (c24.toNat : Int)))) - (IntKind.wrap .u32 (x1.2 * (IntKind.wrap .u32 (c25.toNat : Int)))))))), (10, .pv (.int .i64 (IntKind.wrap .i64 (i_1 + 1))))], hp := [], nx := 0 }) (RegTo.mk [(.n, .e), (.n, .e), (.n, .e)] ({ tm := [(0, .pv (.str s_)), (1, .pv (.str sep)), (5, .pv (.int .u32 x1.1)), (6, .pv (.int .u32 x1.2)), (7, .pv (.int .i64 (List.length sep : Int))), (8, .pv (.int .u32 (IntKind.wrap .u32 ((IntKind.wrap .u32 ((IntKind.wrap .u32 (h__1 * 16777619)) + (IntKind.wrap .u32 (c24.toNat : Int)))) - (IntKind.wrap .u32 (x1.2 * (IntKind.wrap .u32 (c25.toNat : Int)))))))), (10, .pv (.int .i64 (IntKind.wrap .i64 (i_1 + 1))))], hp := [], nx := 0 }) [] (by kernel_rfl) .nil (Sub.refl _)) ?_
              obtain ⟨t28, ht, h⟩ := bind_some h
              refine x_rg (st2 := { tm := [(0, .pv (.str s_)), (1, .pv (.str sep)), (5, .pv (.int .u32 x1.1)), (6, .pv (.int .u32 x1.2)), (7, .pv (.int .i64 (List.length sep : Int))), (8, .pv (.int .u32 (IntKind.wrap .u32 ((IntKind.wrap .u32 ((IntKind.wrap .u32 (h__1 * 16777619)) + (IntKind.wrap .u32 (c24.toNat : Int)))) - (IntKind.wrap .u32 (x1.2 * (IntKind.wrap .u32 (c25.toNat : Int)))))))), (10, .pv (.int .i64 (IntKind.wrap .i64 (i_1 + 1)))), (77, .pv (.bool t28))], hp := [], nx := 0 }) ?_ ?_
              · rcases Bool.eq_false_or_eq_true (decide ((IntKind.wrap .u32 ((IntKind.wrap .u32 ((IntKind.wrap .u32 (h__1 * 16777619)) + (IntKind.wrap .u32 (c24.toNat : Int)))) - (IntKind.wrap .u32 (x1.2 * (IntKind.wrap .u32 (c25.toNat : Int)))))) = x1.1)) with hg26 | hg26
                · replace ht := ite_t ht hg26
                  obtain ⟨x27, hx27, ht⟩ := bind_some ht
                  have e := Option.some.inj ht
                  subst e
                  exact RegTo.mk [(.n, .e), (.n, .e), (.n, .e), (.n, .e), (.y, .e), (.y, .e), (.y, .e), (.y, .e), (.y, .e), (.y, (.cutS x27)), (.y, .e), (.y, .e), (.n, (.pk true))] ({ tm := [(0, .pv (.str s_)), (1, .pv (.str sep)), (5, .pv (.int .u32 x1.1)), (6, .pv (.int .u32 x1.2)), (7, .pv (.int .i64 (List.length sep : Int))), (8, .pv (.int .u32 (IntKind.wrap .u32 ((IntKind.wrap .u32 ((IntKind.wrap .u32 (h__1 * 16777619)) + (IntKind.wrap .u32 (c24.toNat : Int)))) - (IntKind.wrap .u32 (x1.2 * (IntKind.wrap .u32 (c25.toNat : Int)))))))), (10, .pv (.int .i64 (IntKind.wrap .i64 (i_1 + 1)))), (77, .pv (.bool (decide (x27 = sep))))], hp := [], nx := 0 }) [((decide ((IntKind.wrap .u32 ((IntKind.wrap .u32 ((IntKind.wrap .u32 (h__1 * 16777619)) + (IntKind.wrap .u32 (c24.toNat : Int)))) - (IntKind.wrap .u32 (x1.2 * (IntKind.wrap .u32 (c25.toNat : Int)))))) = x1.1)) = true), ((decide ((IntKind.wrap .u32 ((IntKind.wrap .u32 ((IntKind.wrap .u32 (h__1 * 16777619)) + (IntKind.wrap .u32 (c24.toNat : Int)))) - (IntKind.wrap .u32 (x1.2 * (IntKind.wrap .u32 (c25.toNat : Int)))))) = x1.1)) = true), ((decide ((IntKind.wrap .u32 ((IntKind.wrap .u32 ((IntKind.wrap .u32 (h__1 * 16777619)) + (IntKind.wrap .u32 (c24.toNat : Int)))) - (IntKind.wrap .u32 (x1.2 * (IntKind.wrap .u32 (c25.toNat : Int)))))) = x1.1)) = true), ((decide ((IntKind.wrap .u32 ((IntKind.wrap .u32 ((IntKind.wrap .u32 (h__1 * 16777619)) + (IntKind.wrap .u32 (c24.toNat : Int)))) - (IntKind.wrap .u32 (x1.2 * (IntKind.wrap .u32 (c25.toNat : Int)))))) = x1.1)) = true), ((decide ((IntKind.wrap .u32 ((IntKind.wrap .u32 ((IntKind.wrap .u32 (h__1 * 16777619)) + (IntKind.wrap .u32 (c24.toNat : Int)))) - (IntKind.wrap .u32 (x1.2 * (IntKind.wrap .u32 (c25.toNat : Int)))))) = x1.1)) = true), ((decide ((IntKind.wrap .u32 ((IntKind.wrap .u32 ((IntKind.wrap .u32 (h__1 * 16777619)) + (IntKind.wrap .u32 (c24.toNat : Int)))) - (IntKind.wrap .u32 (x1.2 * (IntKind.wrap .u32 (c25.toNat : Int)))))) = x1.1)) = true), (cut s_ (IntKind.wrap .i64 ((IntKind.wrap .i64 (i_1 + 1)) - (List.length sep : Int))) (IntKind.wrap .i64 (i_1 + 1)) = some x27), ((decide ((IntKind.wrap .u32 ((IntKind.wrap .u32 ((IntKind.wrap .u32 (h__1 * 16777619)) + (IntKind.wrap .u32 (c24.toNat : Int)))) - (IntKind.wrap .u32 (x1.2 * (IntKind.wrap .u32 (c25.toNat : Int)))))) = x1.1)) = true), ((decide ((IntKind.wrap .u32 ((IntKind.wrap .u32 ((IntKind.wrap .u32 (h__1 * 16777619)) + (IntKind.wrap .u32 (c24.toNat : Int)))) - (IntKind.wrap .u32 (x1.2 * (IntKind.wrap .u32 (c25.toNat : Int)))))) = x1.1)) = true), ((decide ((IntKind.wrap .u32 ((IntKind.wrap .u32 ((IntKind.wrap .u32 (h__1 * 16777619)) + (IntKind.wrap .u32 (c24.toNat : Int)))) - (IntKind.wrap .u32 (x1.2 * (IntKind.wrap .u32 (c25.toNat : Int)))))) = x1.1)) = true)] (by kernel_rfl) (.cons hg26 (.cons hg26 (.cons hg26 (.cons hg26 (.cons hg26 (.cons hg26 (.cons hx27 (.cons hg26 (.cons hg26 (.cons hg26 .nil)))))))))) (Sub.refl _)
                · replace ht := ite_f ht hg26
                  have e := Option.some.inj ht
                  subst e
                  exact RegTo.mk [(.n, .e), (.n, .e), (.n, .e), (.n, .e), (.s, .e), (.s, .e), (.s, .e), (.s, .e), (.s, .e), (.s, .e), (.s, .e), (.s, .e), (.n, (.pk false))] ({ tm := [(0, .pv (.str s_)), (1, .pv (.str sep)), (5, .pv (.int .u32 x1.1)), (6, .pv (.int .u32 x1.2)), (7, .pv (.int .i64 (List.length sep : Int))), (8, .pv (.int .u32 (IntKind.wrap .u32 ((IntKind.wrap .u32 ((IntKind.wrap .u32 (h__1 * 16777619)) + (IntKind.wrap .u32 (c24.toNat : Int)))) - (IntKind.wrap .u32 (x1.2 * (IntKind.wrap .u32 (c25.toNat : Int)))))))), (10, .pv (.int .i64 (IntKind.wrap .i64 (i_1 + 1)))), (77, .pv (.bool false))], hp := [], nx := 0 }) [((decide ((IntKind.wrap .u32 ((IntKind.wrap .u32 ((IntKind.wrap .u32 (h__1 * 16777619)) + (IntKind.wrap .u32 (c24.toNat : Int)))) - (IntKind.wrap .u32 (x1.2 * (IntKind.wrap .u32 (c25.toNat : Int)))))) = x1.1)) = false), ((decide ((IntKind.wrap .u32 ((IntKind.wrap .u32 ((IntKind.wrap .u32 (h__1 * 16777619)) + (IntKind.wrap .u32 (c24.toNat : Int)))) - (IntKind.wrap .u32 (x1.2 * (IntKind.wrap .u32 (c25.toNat : Int)))))) = x1.1)) = false), ((decide ((IntKind.wrap .u32 ((IntKind.wrap .u32 ((IntKind.wrap .u32 (h__1 * 16777619)) + (IntKind.wrap .u32 (c24.toNat : Int)))) - (IntKind.wrap .u32 (x1.2 * (IntKind.wrap .u32 (c25.toNat : Int)))))) = x1.1)) = false), ((decide ((IntKind.wrap .u32 ((IntKind.wrap .u32 ((IntKind.wrap .u32 (h__1 * 16777619)) + (IntKind.wrap .u32 (c24.toNat : Int)))) - (IntKind.wrap .u32 (x1.2 * (IntKind.wrap .u32 (c25.toNat : Int)))))) = x1.1)) = false), ((decide ((IntKind.wrap .u32 ((IntKind.wrap .u32 ((IntKind.wrap .u32 (h__1 * 16777619)) + (IntKind.wrap .u32 (c24.toNat : Int)))) - (IntKind.wrap .u32 (x1.2 * (IntKind.wrap .u32 (c25.toNat : Int)))))) = x1.1)) = false), ((decide ((IntKind.wrap .u32 ((IntKind.wrap .u32 ((IntKind.wrap .u32 (h__1 * 16777619)) + (IntKind.wrap .u32 (c24.toNat : Int)))) - (IntKind.wrap .u32 (x1.2 * (IntKind.wrap .u32 (c25.toNat : Int)))))) = x1.1)) = false), ((decide ((IntKind.wrap .u32 ((IntKind.wrap .u32 ((IntKind.wrap .u32 (h__1 * 16777619)) + (IntKind.wrap .u32 (c24.toNat : Int)))) - (IntKind.wrap .u32 (x1.2 * (IntKind.wrap .u32 (c25.toNat : Int)))))) = x1.1)) = false), ((decide ((IntKind.wrap .u32 ((IntKind.wrap .u32 ((IntKind.wrap .u32 (h__1 * 16777619)) + (IntKind.wrap .u32 (c24.toNat : Int)))) - (IntKind.wrap .u32 (x1.2 * (IntKind.wrap .u32 (c25.toNat : Int)))))) = x1.1)) = false), ((decide ((IntKind.wrap .u32 ((IntKind.wrap .u32 ((IntKind.wrap .u32 (h__1 * 16777619)) + (IntKind.wrap .u32 (c24.toNat : Int)))) - (IntKind.wrap .u32 (x1.2 * (IntKind.wrap .u32 (c25.toNat : Int)))))) = x1.1)) = false)] (by kernel_rfl) (.cons hg26 (.cons hg26 (.cons hg26 (.cons hg26 (.cons hg26 (.cons hg26 (.cons hg26 (.cons hg26 (.cons hg26 .nil))))))))) (Sub.refl _)
              · clear ht
                refine x_cond _ rfl (fun hc29 => ?_) (fun hc29 => ?_)
                · replace h := ite_t h hc29
                  refine x_rg (st2 := { tm := [(4, .pv (.int .i64 (IntKind.wrap .i64 ((IntKind.wrap .i64 (i_1 + 1)) - (List.length sep : Int)))))], hp := [], nx := 0 }) (RegTo.mk [(.n, .e), (.n, .e), (.n, .e), (.n, .e)] ({ tm := [(4, .pv (.int .i64 (IntKind.wrap .i64 ((IntKind.wrap .i64 (i_1 + 1)) - (List.length sep : Int)))))], hp := [], nx := 0 }) [] (by kernel_rfl) .nil (Sub.refl _)) ?_
                  refine x_toret ?_
                  refine x_br ?_
                  refine x_tr ?_
                  replace h := done_leaf h hx22
                  refine x_br ?_
                  refine x_tr ?_
                  obtain rfl := Option.some.inj h
                  exact x_ret (.int .i64 (IntKind.wrap .i64 ((IntKind.wrap .i64 (i_1 + 1)) - (List.length sep : Int)))) [] [] (by kernel_rfl) .nil (by decide) (.refl _) (fun _ => rfl)
                · replace h := ite_f h hc29
                  refine x_kw (st2 := { tm := [(0, .pv (.str s_)), (1, .pv (.str sep)), (5, .pv (.int .u32 x1.1)), (6, .pv (.int .u32 x1.2)), (7, .pv (.int .i64 (List.length sep : Int))), (8, .pv (.int .u32 (IntKind.wrap .u32 ((IntKind.wrap .u32 ((IntKind.wrap .u32 (h__1 * 16777619)) + (IntKind.wrap .u32 (c24.toNat : Int)))) - (IntKind.wrap .u32 (x1.2 * (IntKind.wrap .u32 (c25.toNat : Int)))))))), (10, .pv (.int .i64 (IntKind.wrap .i64 (i_1 + 1))))], hp := [], nx := 0 }) ({ tm := [(0, .pv (.str s_)), (1, .pv (.str sep)), (5, .pv (.int .u32 x1.1)), (6, .pv (.int .u32 x1.2)), (7, .pv (.int .i64 (List.length sep : Int))), (8, .pv (.int .u32 (IntKind.wrap .u32 ((IntKind.wrap .u32 ((IntKind.wrap .u32 (h__1 * 16777619)) + (IntKind.wrap .u32 (c24.toNat : Int)))) - (IntKind.wrap .u32 (x1.2 * (IntKind.wrap .u32 (c25.toNat : Int)))))))), (10, .pv (.int .i64 (IntKind.wrap .i64 (i_1 + 1))))], hp := [], nx := 0 }) (by kernel_rfl) (Sub.refl _) ?_
                  refine x_skip ?_
                  refine x_bn ?_
                  refine x_tn ?_
                  exact ⟨_, (Option.some.inj h).symm, by kernel_rfl⟩
            · replace h := ite_f h hc23
              refine x_kw (st2 := { tm := [], hp := [], nx := 0 }) ({ tm := [], hp := [], nx := 0 }) (by kernel_rfl) (Sub.refl _) ?_
              refine x_exit ?_
              refine x_te ?_
              refine x_te ?_
              replace h := done_leaf h hx22
              refine x_bh ?_
              refine x_tn ?_
              refine x_rg (st2 := { tm := [(4, .pv (.int .i64 (-1)))], hp := [], nx := 0 }) (RegTo.mk [(.n, .e)] ({ tm := [(4, .pv (.int .i64 (-1)))], hp := [], nx := 0 }) [] (by kernel_rfl) .nil (Sub.refl _)) ?_
              refine x_toret ?_
              obtain rfl := Option.some.inj h
              exact x_ret (.int .i64 (-1)) [] [] (by kernel_rfl) .nil (by decide) (.refl _) (fun _ => rfl)

end Go.Proofs.YtheeafnmkboblaaDoor
