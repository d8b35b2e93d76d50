/- The functions of the program compute what their plain forms compute; printed by a program of the claim's author. -/
import Derived.Test.YtjlbepebaegmeaaDoorC
import Derived.Test.YtjlbepebaegmeaaDoorS
import Derived.Test.YtjlbepebaegmeaaDoorShelf
import Derived.Test.YtjlbepebaegmeaaDoorVmB
import Derived.Test.YtjlbepebaegmeaaDoorB
namespace Go.Proofs.YtjlbepebaegmeaaDoor
open Go.Vm
set_option autoImplicit false
set_option linter.unusedVariables false
set_option linter.unusedSimpArgs false
set_option maxRecDepth 100000

theorem c16 {l : (List api_Attr)} {r : (Str × Int)} (h : ref22_Print l = some r) : CallOK Tryd.prog 16 [.sl (some 3) (List.map enc_api_Attr l)] (.tup [.str r.1, .int .i64 r.2]) true := by
  apply ok16
  unfold ref22_Print at h
  refine x_rg (RegTo.mk [(.n, .e), (.n, .e)] ({ tm := [(0, .pv (.sl (some 3) (List.map enc_api_Attr l)))], hp := [], nx := 0 }) [] (by kernel_rfl) .nil (Sub.refl _)) ?_
  refine x_seq ?_
  obtain ⟨x1, hx1, h⟩ := bind_some h
  refine x_rg (RegTo.mk [(.n, .e), (.n, (.call [] [.sl (some 3) (List.map enc_api_Attr l)] (.int .i64 x1) true)), (.n, .e)] ({ tm := [(0, .pv (.sl (some 3) (List.map enc_api_Attr l))), (4, .pv (.int .i64 x1))], hp := [], nx := 0 }) [(LesA [.sl (some 3) (List.map enc_api_Attr l)] [.sl (some 3) (List.map enc_api_Attr l)]), (CallOK Tryd.prog 14 [.sl (some 3) (List.map enc_api_Attr l)] (.int .i64 x1) true)] (by kernel_rfl) (.cons (LesA.rfl' _) (.cons (c14 hx1) .nil)) (Sub.refl _)) ?_
  refine x_rg (RegTo.mk [(.n, .e), (.n, .e)] ({ tm := [(0, .pv (.sl (some 3) (List.map enc_api_Attr l))), (4, .pv (.int .i64 x1)), (10, .pv (.bool (!decide (x1 = 0))))], hp := [], nx := 0 }) [] (by kernel_rfl) .nil (Sub.refl _)) ?_
  refine x_cond _ rfl (fun hc2 => ?_) (fun hc2 => ?_)
  · replace h := ite_t h hc2
    refine x_rg (RegTo.mk [(.n, .e), (.n, .e), (.n, .e)] ({ tm := [(2, .pv (.str [])), (3, .pv (.int .i64 x1))], hp := [], nx := 0 }) [] (by kernel_rfl) .nil (Sub.refl _)) ?_
    refine x_toret ?_
    refine x_tr ?_
    obtain rfl := Option.some.inj h
    exact x_ret (.tup [.str [], .int .i64 x1]) [] [] (by kernel_rfl) .nil (by decide) (.tup (.cons (.refl _) (.cons (.refl _) .nil))) (fun _ => rfl)
  · replace h := ite_f h hc2
    refine x_kw ({ tm := [(0, .pv (.sl (some 3) (List.map enc_api_Attr l)))], hp := [], nx := 0 }) (by kernel_rfl) (Sub.refl _) ?_
    refine x_skip ?_
    refine x_tn ?_
    refine x_rg (RegTo.mk [(.n, .e)] ({ tm := [(0, .pv (.sl (some 3) (List.map enc_api_Attr l))), (5, .pv (.str []))], hp := [], nx := 0 }) [] (by kernel_rfl) .nil (Sub.refl _)) ?_
    refine x_seq ?_
    refine x_rg (RegTo.mk [(.n, .e)] ({ tm := [(0, .pv (.sl (some 3) (List.map enc_api_Attr l))), (5, .pv (.str [])), (6, .pv (.int .i64 0))], hp := [], nx := 0 }) [] (by kernel_rfl) .nil (Sub.refl _)) ?_
    refine x_block ?_
    refine x_kw ({ tm := [(0, .pv (.sl (some 3) (List.map enc_api_Attr l))), (5, .pv (.str [])), (6, .pv (.int .i64 0))], hp := [], nx := 0 }) (by kernel_rfl) (Sub.refl _) ?_
    refine x_loop (σ := (Str × Int)) h (fun s => { tm := [(0, .pv (.sl (some 3) (List.map enc_api_Attr l))), (5, .pv (.str s.1)), (6, .pv (.int .i64 s.2))], hp := [], nx := 0 }) (by kernel_rfl) ?_ ?_
    · rintro ⟨s_, i⟩
      kernel_rfl
    · rintro ⟨s_, i⟩ x17 h hx17
      replace h : ref22_Print_L17 l s_ i = some x17 := h
      unfold ref22_Print_L17 at h
      refine x_seq ?_
      refine x_rg (RegTo.mk [(.n, .e), (.n, .e), (.n, (.len (List.length l : Int))), (.n, .e)] ({ tm := [(0, .pv (.sl (some 3) (List.map enc_api_Attr l))), (5, .pv (.str s_)), (6, .pv (.int .i64 i)), (15, .pv (.bool (decide (i < (List.length l : Int)))))], hp := [], nx := 0 }) [((List.length (List.map enc_api_Attr l) : Int) = (List.length l : Int))] (by kernel_rfl) (.cons (by rw [List.length_map]) .nil) (Sub.refl _)) ?_
      refine x_cond _ rfl (fun hc18 => ?_) (fun hc18 => ?_)
      · replace h := ite_t h hc18
        refine x_kw ({ tm := [(0, .pv (.sl (some 3) (List.map enc_api_Attr l))), (5, .pv (.str s_)), (6, .pv (.int .i64 i))], hp := [], nx := 0 }) (by kernel_rfl) (Sub.refl _) ?_
        refine x_skip ?_
        refine x_tn ?_
        refine x_seq ?_
        refine x_block ?_
        refine x_join (τ := Str) (fun t => ref22_Print_K19 l i t = some x17) (fun t => { tm := [(0, .pv (.sl (some 3) (List.map enc_api_Attr l))), (5, .pv (.str t)), (6, .pv (.int .i64 i))], hp := [], nx := 0 }) ?_ ?_
        · rintro p20 h
          replace h : ref22_Print_K19 l i p20 = some x17 := h
          unfold ref22_Print_K19 at h
          obtain ⟨x21, hx21, h⟩ := bind_some h
          refine x_rg (RegTo.mk [(.n, .e), (.n, .e), (.n, (.pAt (enc_api_Attr x21))), (.n, .e), (.n, .e)] ({ tm := [(0, .pv (.sl (some 3) (List.map enc_api_Attr l))), (5, .pv (.str p20)), (6, .pv (.int .i64 i)), (26, .pv (.bool x21.Query))], hp := [], nx := 0 }) [(lsAt (List.map enc_api_Attr l) i = some (enc_api_Attr x21))] (by kernel_rfl) (.cons (lsAt_map hx21) .nil) (Sub.refl _)) ?_
          refine x_cond _ rfl (fun hc22 => ?_) (fun hc22 => ?_)
          · replace h := ite_t h hc22
            obtain ⟨x23, hx23, h⟩ := bind_some h
            obtain ⟨x24, hx24, h⟩ := bind_some h
            obtain ⟨x25, hx25, h⟩ := bind_some h
            refine x_rgt (RegTo.mk [(.n, .e), (.n, .e), (.n, .e), (.n, (.pAt (enc_api_Attr x23))), (.n, .e), (.n, .e), (.n, (.cat x24)), (.n, (.cat x25)), (.n, .e)] ({ tm := [(0, .pv (.sl (some 3) (List.map enc_api_Attr l))), (5, .pv (.str x25)), (6, .pv (.int .i64 i))], hp := [], nx := 0 }) [(lsAt (List.map enc_api_Attr l) i = some (enc_api_Attr x23)), (catS p20 x23.Name = some x24), (catS x24 [63] = some x25)] (by kernel_rfl) (.cons (lsAt_map hx23) (.cons hx24 (.cons hx25 .nil))) (Sub.refl _)) ?_
            refine x_bn ?_
            refine x_tn ?_
            refine x_rgt (RegTo.mk [(.n, .e), (.n, .e), (.n, .e)] ({ tm := [(0, .pv (.sl (some 3) (List.map enc_api_Attr l))), (5, .pv (.str x25)), (6, .pv (.int .i64 (IntKind.wrap .i64 (i + 1))))], hp := [], nx := 0 }) [] (by kernel_rfl) .nil (Sub.refl _)) ?_
            refine x_tn ?_
            exact ⟨_, (Option.some.inj h).symm, by kernel_rfl⟩
          · replace h := ite_f h hc22
            obtain ⟨x26, hx26, h⟩ := bind_some h
            obtain ⟨x27, hx27, h⟩ := bind_some h
            obtain ⟨x28, hx28, h⟩ := bind_some h
            obtain ⟨x29, hx29, h⟩ := bind_some h
            obtain ⟨x30, hx30, h⟩ := bind_some h
            obtain ⟨x31, hx31, h⟩ := bind_some h
            refine x_rgt (RegTo.mk [(.n, .e), (.n, .e), (.n, .e), (.n, (.pAt (enc_api_Attr x26))), (.n, .e), (.n, .e), (.n, (.cat x27)), (.n, (.cat x28)), (.n, .e), (.n, .e), (.n, (.pAt (enc_api_Attr x29))), (.n, .e), (.n, .e), (.n, (.call [] [.str x29.Value] (.str x30) true)), (.n, (.cat x31)), (.n, .e)] ({ tm := [(0, .pv (.sl (some 3) (List.map enc_api_Attr l))), (5, .pv (.str x31)), (6, .pv (.int .i64 i))], hp := [], nx := 0 }) [(lsAt (List.map enc_api_Attr l) i = some (enc_api_Attr x26)), (catS p20 x26.Name = some x27), (catS x27 [61] = some x28), (lsAt (List.map enc_api_Attr l) i = some (enc_api_Attr x29)), (LesA [.str x29.Value] [.str x29.Value]), (CallOK Tryd.prog 34 [.str x29.Value] (.str x30) true), (catS x28 x30 = some x31)] (by kernel_rfl) (.cons (lsAt_map hx26) (.cons hx27 (.cons hx28 (.cons (lsAt_map hx29) (.cons (LesA.rfl' _) (.cons (c34 hx30) (.cons hx31 .nil))))))) (Sub.refl _)) ?_
            refine x_bn ?_
            refine x_tn ?_
            refine x_rgt (RegTo.mk [(.n, .e), (.n, .e), (.n, .e)] ({ tm := [(0, .pv (.sl (some 3) (List.map enc_api_Attr l))), (5, .pv (.str x31)), (6, .pv (.int .i64 (IntKind.wrap .i64 (i + 1))))], hp := [], nx := 0 }) [] (by kernel_rfl) .nil (Sub.refl _)) ?_
            refine x_tn ?_
            exact ⟨_, (Option.some.inj h).symm, by kernel_rfl⟩
        · refine x_rg (RegTo.mk [(.n, .e), (.n, .e)] ({ tm := [(0, .pv (.sl (some 3) (List.map enc_api_Attr l))), (5, .pv (.str s_)), (6, .pv (.int .i64 i)), (19, .pv (.bool (decide (0 < i))))], hp := [], nx := 0 }) [] (by kernel_rfl) .nil (Sub.refl _)) ?_
          refine x_cond _ rfl (fun hc32 => ?_) (fun hc32 => ?_)
          · replace h := ite_t h hc32
            obtain ⟨x33, hx33, h⟩ := bind_some h
            refine x_rgt (RegTo.mk [(.n, .e), (.n, (.cat x33)), (.n, .e)] ({ tm := [(0, .pv (.sl (some 3) (List.map enc_api_Attr l))), (5, .pv (.str x33)), (6, .pv (.int .i64 i))], hp := [], nx := 0 }) [(catS s_ [32] = some x33)] (by kernel_rfl) (.cons hx33 .nil) (Sub.refl _)) ?_
            refine x_tn ?_
            exact ⟨x33, h, by kernel_rfl⟩
          · replace h := ite_f h hc32
            refine x_kw ({ tm := [(0, .pv (.sl (some 3) (List.map enc_api_Attr l))), (5, .pv (.str s_)), (6, .pv (.int .i64 i))], hp := [], nx := 0 }) (by kernel_rfl) (Sub.refl _) ?_
            refine x_skip ?_
            refine x_tn ?_
            exact ⟨s_, h, by kernel_rfl⟩
      · replace h := ite_f h hc18
        refine x_kw ({ tm := [(5, .pv (.str s_))], hp := [], nx := 0 }) (by kernel_rfl) (Sub.refl _) ?_
        refine x_exit ?_
        refine x_te ?_
        refine x_te ?_
        replace h := done_leaf h hx17
        refine x_bh ?_
        refine x_tn ?_
        refine x_rg (RegTo.mk [(.n, .e), (.n, .e), (.n, .e)] ({ tm := [(2, .pv (.str s_)), (3, .pv (.int .i64 0))], hp := [], nx := 0 }) [] (by kernel_rfl) .nil (Sub.refl _)) ?_
        refine x_toret ?_
        obtain rfl := Option.some.inj h
        exact x_ret (.tup [.str s_, .int .i64 0]) [] [] (by kernel_rfl) .nil (by decide) (.tup (.cons (.refl _) (.cons (.refl _) .nil))) (fun _ => rfl)

theorem c4 {l : (List api_Attr)} {r : Bool} (h : law22_AttrPrints l = some r) : CallOK Tryd.prog 4 [.sl (some 3) (List.map enc_api_Attr l)] (.bool r) true := by
  apply ok4
  unfold law22_AttrPrints at h
  refine x_rg (RegTo.mk [(.n, .e)] ({ tm := [(0, .pv (.sl (some 3) (List.map enc_api_Attr l)))], hp := [], nx := 0 }) [] (by kernel_rfl) .nil (Sub.refl _)) ?_
  refine x_seq ?_
  obtain ⟨x1, hx1, h⟩ := bind_some h
  refine x_rg (RegTo.mk [(.n, .e), (.n, (.call [] [.sl (some 3) (List.map enc_api_Attr l)] (.bool x1) true)), (.n, .e)] ({ tm := [(0, .pv (.sl (some 3) (List.map enc_api_Attr l))), (9, .pv (.bool (!x1)))], hp := [], nx := 0 }) [(LesA [.sl (some 3) (List.map enc_api_Attr l)] [.sl (some 3) (List.map enc_api_Attr l)]), (CallOK Tryd.prog 11 [.sl (some 3) (List.map enc_api_Attr l)] (.bool x1) true)] (by kernel_rfl) (.cons (LesA.rfl' _) (.cons (c11 hx1) .nil)) (Sub.refl _)) ?_
  refine x_cond _ rfl (fun hc2 => ?_) (fun hc2 => ?_)
  · replace h := ite_t h hc2
    obtain ⟨x3, hx3, h⟩ := bind_some h
    refine x_rg (RegTo.mk [(.n, (.call [] [] (.bool x3) true)), (.n, .e)] ({ tm := [(2, .pv (.bool x3))], hp := [], nx := 0 }) [(LesA [] []), (CallOK Tryd.prog 12 [] (.bool x3) true)] (by kernel_rfl) (.cons (LesA.rfl' _) (.cons (c12 hx3) .nil)) (Sub.refl _)) ?_
    refine x_toret ?_
    refine x_tr ?_
    obtain rfl := Option.some.inj h
    exact x_ret (.bool x3) [] [] (by kernel_rfl) .nil (by decide) (.refl _) (fun _ => rfl)
  · replace h := ite_f h hc2
    refine x_kw ({ tm := [(0, .pv (.sl (some 3) (List.map enc_api_Attr l)))], hp := [], nx := 0 }) (by kernel_rfl) (Sub.refl _) ?_
    refine x_skip ?_
    refine x_tn ?_
    obtain ⟨x4, hx4, h⟩ := bind_some h
    refine x_rg (RegTo.mk [(.n, .e), (.n, (.call [] [.sl (some 3) (List.map enc_api_Attr l)] (.tup [.str x4.1, .int .i64 x4.2]) true)), (.n, .e), (.n, .e), (.n, .e), (.n, .e), (.n, .e)] ({ tm := [(0, .pv (.sl (some 3) (List.map enc_api_Attr l))), (3, .pv (.str x4.1)), (4, .pv (.int .i64 x4.2))], hp := [], nx := 0 }) [(LesA [.sl (some 3) (List.map enc_api_Attr l)] [.sl (some 3) (List.map enc_api_Attr l)]), (CallOK Tryd.prog 15 [.sl (some 3) (List.map enc_api_Attr l)] (.tup [.str x4.1, .int .i64 x4.2]) true)] (by kernel_rfl) (.cons (LesA.rfl' _) (.cons (c15 hx4) .nil)) (Sub.refl _)) ?_
    obtain ⟨x5, hx5, h⟩ := bind_some h
    refine x_rg (RegTo.mk [(.n, .e), (.n, (.call [] [.sl (some 3) (List.map enc_api_Attr l)] (.tup [.str x5.1, .int .i64 x5.2]) true)), (.n, .e), (.n, .e), (.n, .e), (.n, .e), (.n, .e)] ({ tm := [(3, .pv (.str x4.1)), (4, .pv (.int .i64 x4.2)), (5, .pv (.str x5.1)), (6, .pv (.int .i64 x5.2))], hp := [], nx := 0 }) [(LesA [.sl (some 3) (List.map enc_api_Attr l)] [.sl (some 3) (List.map enc_api_Attr l)]), (CallOK Tryd.prog 16 [.sl (some 3) (List.map enc_api_Attr l)] (.tup [.str x5.1, .int .i64 x5.2]) true)] (by kernel_rfl) (.cons (LesA.rfl' _) (.cons (c16 hx5) .nil)) (Sub.refl _)) ?_
    obtain ⟨t9, ht, h⟩ := bind_some h
    refine x_rg (st2 := { tm := [(2, .pv (.bool t9))], hp := [], nx := 0 }) ?_ ?_
    · rcases Bool.eq_false_or_eq_true (decide (x4.1 = x5.1)) with hg6 | hg6
      · replace ht := ite_t ht hg6
        rcases Bool.eq_false_or_eq_true (decide (x4.2 = x5.2)) with hg7 | hg7
        · replace ht := ite_t ht hg7
          obtain ⟨x8, hx8, ht⟩ := bind_some ht
          have e := Option.some.inj ht
          subst e
          exact RegTo.mk [(.n, .e), (.n, .e), (.n, .e), (.n, .e), (.y, .e), (.y, .e), (.y, .e), (.n, (.pk true)), (.n, .e), (.y, (.call [] [] (.bool x8) true)), (.n, (.pk true)), (.n, .e)] ({ tm := [(2, .pv (.bool x8))], hp := [], nx := 0 }) [((decide (x4.1 = x5.1)) = true), ((decide (x4.1 = x5.1)) = true), ((decide (x4.1 = x5.1)) = true), ((decide (x4.1 = x5.1)) = true), ((decide (x4.2 = x5.2)) = true), (LesA [] []), (CallOK Tryd.prog 12 [] (.bool x8) true), ((decide (x4.2 = x5.2)) = true)] (by kernel_rfl) (.cons hg6 (.cons hg6 (.cons hg6 (.cons hg6 (.cons hg7 (.cons (LesA.rfl' _) (.cons (c12 hx8) (.cons hg7 .nil)))))))) (Sub.refl _)
        · replace ht := ite_f ht hg7
          have e := Option.some.inj ht
          subst e
          exact RegTo.mk [(.n, .e), (.n, .e), (.n, .e), (.n, .e), (.y, .e), (.y, .e), (.y, .e), (.n, (.pk true)), (.n, .e), (.s, .e), (.n, (.pk false)), (.n, .e)] ({ tm := [(2, .pv (.bool false))], hp := [], nx := 0 }) [((decide (x4.1 = x5.1)) = true), ((decide (x4.1 = x5.1)) = true), ((decide (x4.1 = x5.1)) = true), ((decide (x4.1 = x5.1)) = true), ((decide (x4.2 = x5.2)) = false), ((decide (x4.2 = x5.2)) = false)] (by kernel_rfl) (.cons hg6 (.cons hg6 (.cons hg6 (.cons hg6 (.cons hg7 (.cons hg7 .nil)))))) (Sub.refl _)
      · replace ht := ite_f ht hg6
        have e := Option.some.inj ht
        subst e
        exact RegTo.mk [(.n, .e), (.n, .e), (.n, .e), (.n, .e), (.s, .e), (.s, .e), (.s, .e), (.n, (.pk false)), (.n, .e), (.s, .e), (.n, .e), (.n, .e)] ({ tm := [(2, .pv (.bool false))], hp := [], nx := 0 }) [((decide (x4.1 = x5.1)) = false), ((decide (x4.1 = x5.1)) = false), ((decide (x4.1 = x5.1)) = false), ((decide (x4.1 = x5.1)) = false), (false = false)] (by kernel_rfl) (.cons hg6 (.cons hg6 (.cons hg6 (.cons hg6 (.cons rfl .nil))))) (Sub.refl _)
    · clear ht
      refine x_toret ?_
      obtain rfl := Option.some.inj h
      exact x_ret (.bool t9) [] [] (by kernel_rfl) .nil (by decide) (.refl _) (fun _ => rfl)

theorem c19 {a : (List api_Attr)} {b : (List api_Attr)} {r : Bool} (h : ref22_Same a b = some r) : CallOK Tryd.prog 19 [.sl (some 3) (List.map enc_api_Attr a), .sl (some 3) (List.map enc_api_Attr b)] (.bool r) true := by
  apply ok19
  unfold ref22_Same at h
  refine x_rg (RegTo.mk [(.n, .e)] ({ tm := [(0, .pv (.sl (some 3) (List.map enc_api_Attr a))), (1, .pv (.sl (some 3) (List.map enc_api_Attr b)))], hp := [], nx := 0 }) [] (by kernel_rfl) .nil (Sub.refl _)) ?_
  refine x_seq ?_
  refine x_rg (RegTo.mk [(.n, .e), (.n, (.len (List.length a : Int))), (.n, .e), (.n, (.len (List.length b : Int))), (.n, .e)] ({ tm := [(0, .pv (.sl (some 3) (List.map enc_api_Attr a))), (1, .pv (.sl (some 3) (List.map enc_api_Attr b))), (10, .pv (.bool (!decide ((List.length a : Int) = (List.length b : Int)))))], hp := [], nx := 0 }) [((List.length (List.map enc_api_Attr a) : Int) = (List.length a : Int)), ((List.length (List.map enc_api_Attr b) : Int) = (List.length b : Int))] (by kernel_rfl) (.cons (by rw [List.length_map]) (.cons (by rw [List.length_map]) .nil)) (Sub.refl _)) ?_
  refine x_cond _ rfl (fun hc1 => ?_) (fun hc1 => ?_)
  · replace h := ite_t h hc1
    refine x_rg (RegTo.mk [(.n, .e)] ({ tm := [(4, .pv (.bool false))], hp := [], nx := 0 }) [] (by kernel_rfl) .nil (Sub.refl _)) ?_
    refine x_toret ?_
    refine x_tr ?_
    obtain rfl := Option.some.inj h
    exact x_ret (.bool false) [] [] (by kernel_rfl) .nil (by decide) (.refl _) (fun _ => rfl)
  · replace h := ite_f h hc1
    refine x_kw ({ tm := [(0, .pv (.sl (some 3) (List.map enc_api_Attr a))), (1, .pv (.sl (some 3) (List.map enc_api_Attr b)))], hp := [], nx := 0 }) (by kernel_rfl) (Sub.refl _) ?_
    refine x_skip ?_
    refine x_tn ?_
    refine x_seq ?_
    refine x_rg (RegTo.mk [(.n, .e)] ({ tm := [(0, .pv (.sl (some 3) (List.map enc_api_Attr a))), (1, .pv (.sl (some 3) (List.map enc_api_Attr b))), (5, .pv (.int .i64 0))], hp := [], nx := 0 }) [] (by kernel_rfl) .nil (Sub.refl _)) ?_
    refine x_block ?_
    refine x_kw ({ tm := [(0, .pv (.sl (some 3) (List.map enc_api_Attr a))), (1, .pv (.sl (some 3) (List.map enc_api_Attr b))), (5, .pv (.int .i64 0))], hp := [], nx := 0 }) (by kernel_rfl) (Sub.refl _) ?_
    refine x_loop (σ := Int) h (fun s => { tm := [(0, .pv (.sl (some 3) (List.map enc_api_Attr a))), (1, .pv (.sl (some 3) (List.map enc_api_Attr b))), (5, .pv (.int .i64 s))], hp := [], nx := 0 }) (by kernel_rfl) ?_ ?_
    · rintro i
      kernel_rfl
    · rintro i x7 h hx7
      replace h : ref22_Same_L7 a b i = some x7 := h
      unfold ref22_Same_L7 at h
      refine x_seq ?_
      refine x_rg (RegTo.mk [(.n, .e), (.n, .e), (.n, (.len (List.length a : Int))), (.n, .e)] ({ tm := [(0, .pv (.sl (some 3) (List.map enc_api_Attr a))), (1, .pv (.sl (some 3) (List.map enc_api_Attr b))), (5, .pv (.int .i64 i)), (14, .pv (.bool (decide (i < (List.length a : Int)))))], hp := [], nx := 0 }) [((List.length (List.map enc_api_Attr a) : Int) = (List.length a : Int))] (by kernel_rfl) (.cons (by rw [List.length_map]) .nil) (Sub.refl _)) ?_
      refine x_cond _ rfl (fun hc8 => ?_) (fun hc8 => ?_)
      · replace h := ite_t h hc8
        refine x_kw ({ tm := [(0, .pv (.sl (some 3) (List.map enc_api_Attr a))), (1, .pv (.sl (some 3) (List.map enc_api_Attr b))), (5, .pv (.int .i64 i))], hp := [], nx := 0 }) (by kernel_rfl) (Sub.refl _) ?_
        refine x_skip ?_
        refine x_tn ?_
        refine x_seq ?_
        refine x_block ?_
        obtain ⟨x9, hx9, h⟩ := bind_some h
        obtain ⟨x10, hx10, h⟩ := bind_some h
        refine x_rg (RegTo.mk [(.n, .e), (.n, .e), (.n, (.pAt (enc_api_Attr x9))), (.n, .e), (.n, .e), (.n, .e), (.n, (.pAt (enc_api_Attr x10))), (.n, .e), (.n, .e)] ({ tm := [(0, .pv (.sl (some 3) (List.map enc_api_Attr a))), (1, .pv (.sl (some 3) (List.map enc_api_Attr b))), (5, .pv (.int .i64 i)), (25, .pv (.bool (!(decide (x9.Name = x10.Name) && (decide (x9.Value = x10.Value) && (decide (x9.Query = x10.Query) && true))))))], hp := [], nx := 0 }) [(lsAt (List.map enc_api_Attr a) i = some (enc_api_Attr x9)), (lsAt (List.map enc_api_Attr b) i = some (enc_api_Attr x10))] (by kernel_rfl) (.cons (lsAt_map hx9) (.cons (lsAt_map hx10) .nil)) (Sub.refl _)) ?_
        refine x_cond _ rfl (fun hc11 => ?_) (fun hc11 => ?_)
        · replace h := ite_t h hc11
          refine x_rg (RegTo.mk [(.n, .e)] ({ tm := [(4, .pv (.bool false))], hp := [], nx := 0 }) [] (by kernel_rfl) .nil (Sub.refl _)) ?_
          refine x_toret ?_
          refine x_br ?_
          refine x_tr ?_
          refine x_tr ?_
          replace h := done_leaf h hx7
          refine x_br ?_
          refine x_tr ?_
          obtain rfl := Option.some.inj h
          exact x_ret (.bool false) [] [] (by kernel_rfl) .nil (by decide) (.refl _) (fun _ => rfl)
        · replace h := ite_f h hc11
          refine x_kw ({ tm := [(0, .pv (.sl (some 3) (List.map enc_api_Attr a))), (1, .pv (.sl (some 3) (List.map enc_api_Attr b))), (5, .pv (.int .i64 i))], hp := [], nx := 0 }) (by kernel_rfl) (Sub.refl _) ?_
          refine x_skip ?_
          refine x_bn ?_
          refine x_tn ?_
          refine x_rgt (RegTo.mk [(.n, .e), (.n, .e), (.n, .e)] ({ tm := [(0, .pv (.sl (some 3) (List.map enc_api_Attr a))), (1, .pv (.sl (some 3) (List.map enc_api_Attr b))), (5, .pv (.int .i64 (IntKind.wrap .i64 (i + 1))))], hp := [], nx := 0 }) [] (by kernel_rfl) .nil (Sub.refl _)) ?_
          refine x_tn ?_
          exact ⟨_, (Option.some.inj h).symm, by kernel_rfl⟩
      · replace h := ite_f h hc8
        refine x_kw ({ tm := [], hp := [], nx := 0 }) (by kernel_rfl) (Sub.refl _) ?_
        refine x_exit ?_
        refine x_te ?_
        refine x_te ?_
        replace h := done_leaf h hx7
        refine x_bh ?_
        refine x_tn ?_
        refine x_rg (RegTo.mk [(.n, .e)] ({ tm := [(4, .pv (.bool true))], hp := [], nx := 0 }) [] (by kernel_rfl) .nil (Sub.refl _)) ?_
        refine x_toret ?_
        obtain rfl := Option.some.inj h
        exact x_ret (.bool true) [] [] (by kernel_rfl) .nil (by decide) (.refl _) (fun _ => rfl)

theorem c25 {l : (List api_Attr)} {name : Str} {r : (Str × Bool)} (h : ref22_Find l name = some r) : CallOK Tryd.prog 25 [.sl (some 3) (List.map enc_api_Attr l), .str name] (.tup [.str r.1, .bool r.2]) true := by
  apply ok25
  unfold ref22_Find at h
  refine x_rg (RegTo.mk [(.n, .e), (.n, .e)] ({ tm := [(0, .pv (.sl (some 3) (List.map enc_api_Attr l))), (1, .pv (.str name))], hp := [], nx := 0 }) [] (by kernel_rfl) .nil (Sub.refl _)) ?_
  refine x_seq ?_
  refine x_rg (RegTo.mk [(.n, .e)] ({ tm := [(0, .pv (.sl (some 3) (List.map enc_api_Attr l))), (1, .pv (.str name)), (6, .pv (.int .i64 0))], hp := [], nx := 0 }) [] (by kernel_rfl) .nil (Sub.refl _)) ?_
  refine x_block ?_
  refine x_kw ({ tm := [(0, .pv (.sl (some 3) (List.map enc_api_Attr l))), (1, .pv (.str name)), (6, .pv (.int .i64 0))], hp := [], nx := 0 }) (by kernel_rfl) (Sub.refl _) ?_
  refine x_loop (σ := Int) h (fun s => { tm := [(0, .pv (.sl (some 3) (List.map enc_api_Attr l))), (1, .pv (.str name)), (6, .pv (.int .i64 s))], hp := [], nx := 0 }) (by kernel_rfl) ?_ ?_
  · rintro i
    kernel_rfl
  · rintro i x9 h hx9
    replace h : ref22_Find_L9 l name i = some x9 := h
    unfold ref22_Find_L9 at h
    refine x_seq ?_
    refine x_rg (RegTo.mk [(.n, .e), (.n, .e), (.n, (.len (List.length l : Int))), (.n, .e)] ({ tm := [(0, .pv (.sl (some 3) (List.map enc_api_Attr l))), (1, .pv (.str name)), (6, .pv (.int .i64 i)), (10, .pv (.bool (decide (i < (List.length l : Int)))))], hp := [], nx := 0 }) [((List.length (List.map enc_api_Attr l) : Int) = (List.length l : Int))] (by kernel_rfl) (.cons (by rw [List.length_map]) .nil) (Sub.refl _)) ?_
    refine x_cond _ rfl (fun hc10 => ?_) (fun hc10 => ?_)
    · replace h := ite_t h hc10
      refine x_kw ({ tm := [(0, .pv (.sl (some 3) (List.map enc_api_Attr l))), (1, .pv (.str name)), (6, .pv (.int .i64 i))], hp := [], nx := 0 }) (by kernel_rfl) (Sub.refl _) ?_
      refine x_skip ?_
      refine x_tn ?_
      refine x_seq ?_
      refine x_block ?_
      obtain ⟨x11, hx11, h⟩ := bind_some h
      obtain ⟨t14, ht, h⟩ := bind_some h
      refine x_rg (st2 := { tm := [(0, .pv (.sl (some 3) (List.map enc_api_Attr l))), (1, .pv (.str name)), (6, .pv (.int .i64 i)), (27, .pv (.bool t14))], hp := [], nx := 0 }) ?_ ?_
      · rcases Bool.eq_false_or_eq_true (decide (x11.Name = name)) with hg12 | hg12
        · replace ht := ite_t ht hg12
          obtain ⟨x13, hx13, ht⟩ := bind_some ht
          have e := Option.some.inj ht
          subst e
          exact RegTo.mk [(.n, .e), (.n, .e), (.n, (.pAt (enc_api_Attr x11))), (.n, .e), (.n, .e), (.n, .e), (.n, .e), (.n, .e), (.y, .e), (.y, .e), (.y, (.pAt (enc_api_Attr x13))), (.y, .e), (.y, .e), (.y, .e), (.n, (.pk true))] ({ tm := [(0, .pv (.sl (some 3) (List.map enc_api_Attr l))), (1, .pv (.str name)), (6, .pv (.int .i64 i)), (27, .pv (.bool (!x13.Query)))], hp := [], nx := 0 }) [(lsAt (List.map enc_api_Attr l) i = some (enc_api_Attr x11)), ((decide (x11.Name = name)) = true), ((decide (x11.Name = name)) = true), ((decide (x11.Name = name)) = true), (lsAt (List.map enc_api_Attr l) i = some (enc_api_Attr x13)), ((decide (x11.Name = name)) = true), ((decide (x11.Name = name)) = true), ((decide (x11.Name = name)) = true), ((decide (x11.Name = name)) = true)] (by kernel_rfl) (.cons (lsAt_map hx11) (.cons hg12 (.cons hg12 (.cons hg12 (.cons (lsAt_map hx13) (.cons hg12 (.cons hg12 (.cons hg12 (.cons hg12 .nil))))))))) (Sub.refl _)
        · replace ht := ite_f ht hg12
          have e := Option.some.inj ht
          subst e
          exact RegTo.mk [(.n, .e), (.n, .e), (.n, (.pAt (enc_api_Attr x11))), (.n, .e), (.n, .e), (.n, .e), (.n, .e), (.n, .e), (.s, .e), (.s, .e), (.s, .e), (.s, .e), (.s, .e), (.s, .e), (.n, (.pk false))] ({ tm := [(0, .pv (.sl (some 3) (List.map enc_api_Attr l))), (1, .pv (.str name)), (6, .pv (.int .i64 i)), (27, .pv (.bool false))], hp := [], nx := 0 }) [(lsAt (List.map enc_api_Attr l) i = some (enc_api_Attr x11)), ((decide (x11.Name = name)) = false), ((decide (x11.Name = name)) = false), ((decide (x11.Name = name)) = false), ((decide (x11.Name = name)) = false), ((decide (x11.Name = name)) = false), ((decide (x11.Name = name)) = false), ((decide (x11.Name = name)) = false)] (by kernel_rfl) (.cons (lsAt_map hx11) (.cons hg12 (.cons hg12 (.cons hg12 (.cons hg12 (.cons hg12 (.cons hg12 (.cons hg12 .nil)))))))) (Sub.refl _)
      · clear ht
        refine x_cond _ rfl (fun hc15 => ?_) (fun hc15 => ?_)
        · replace h := ite_t h hc15
          obtain ⟨x16, hx16, h⟩ := bind_some h
          refine x_rg (RegTo.mk [(.n, .e), (.n, .e), (.n, (.pAt (enc_api_Attr x16))), (.n, .e), (.n, .e), (.n, .e), (.n, .e)] ({ tm := [(4, .pv (.str x16.Value)), (5, .pv (.bool true))], hp := [], nx := 0 }) [(lsAt (List.map enc_api_Attr l) i = some (enc_api_Attr x16))] (by kernel_rfl) (.cons (lsAt_map hx16) .nil) (Sub.refl _)) ?_
          refine x_toret ?_
          refine x_br ?_
          refine x_tr ?_
          refine x_tr ?_
          replace h := done_leaf h hx9
          refine x_br ?_
          refine x_tr ?_
          obtain rfl := Option.some.inj h
          exact x_ret (.tup [.str x16.Value, .bool true]) [] [] (by kernel_rfl) .nil (by decide) (.tup (.cons (.refl _) (.cons (.refl _) .nil))) (fun _ => rfl)
        · replace h := ite_f h hc15
          refine x_kw ({ tm := [(0, .pv (.sl (some 3) (List.map enc_api_Attr l))), (1, .pv (.str name)), (6, .pv (.int .i64 i))], hp := [], nx := 0 }) (by kernel_rfl) (Sub.refl _) ?_
          refine x_skip ?_
          refine x_bn ?_
          refine x_tn ?_
          refine x_rgt (RegTo.mk [(.n, .e), (.n, .e), (.n, .e)] ({ tm := [(0, .pv (.sl (some 3) (List.map enc_api_Attr l))), (1, .pv (.str name)), (6, .pv (.int .i64 (IntKind.wrap .i64 (i + 1))))], hp := [], nx := 0 }) [] (by kernel_rfl) .nil (Sub.refl _)) ?_
          refine x_tn ?_
          exact ⟨_, (Option.some.inj h).symm, by kernel_rfl⟩
    · replace h := ite_f h hc10
      refine x_kw ({ tm := [], hp := [], nx := 0 }) (by kernel_rfl) (Sub.refl _) ?_
      refine x_exit ?_
      refine x_te ?_
      refine x_te ?_
      replace h := done_leaf h hx9
      refine x_bh ?_
      refine x_tn ?_
      refine x_rg (RegTo.mk [(.n, .e), (.n, .e)] ({ tm := [(4, .pv (.str [])), (5, .pv (.bool false))], hp := [], nx := 0 }) [] (by kernel_rfl) .nil (Sub.refl _)) ?_
      refine x_toret ?_
      obtain rfl := Option.some.inj h
      exact x_ret (.tup [.str [], .bool false]) [] [] (by kernel_rfl) .nil (by decide) (.tup (.cons (.refl _) (.cons (.refl _) .nil))) (fun _ => rfl)

theorem c21 {l : (List api_Attr)} {pattern : (List api_Attr)} {r : Bool} (h : ref22_Matches l pattern = some r) : CallOK Tryd.prog 21 [.sl (some 3) (List.map enc_api_Attr l), .sl (some 3) (List.map enc_api_Attr pattern)] (.bool r) true := by
  apply ok21
  unfold ref22_Matches at h
  refine x_rg (RegTo.mk [(.n, .e)] ({ tm := [(0, .pv (.sl (some 3) (List.map enc_api_Attr l))), (1, .pv (.sl (some 3) (List.map enc_api_Attr pattern)))], hp := [], nx := 0 }) [] (by kernel_rfl) .nil (Sub.refl _)) ?_
  refine x_seq ?_
  refine x_rg (RegTo.mk [(.n, .e)] ({ tm := [(0, .pv (.sl (some 3) (List.map enc_api_Attr l))), (1, .pv (.sl (some 3) (List.map enc_api_Attr pattern))), (5, .pv (.int .i64 0))], hp := [], nx := 0 }) [] (by kernel_rfl) .nil (Sub.refl _)) ?_
  refine x_block ?_
  refine x_kw ({ tm := [(0, .pv (.sl (some 3) (List.map enc_api_Attr l))), (1, .pv (.sl (some 3) (List.map enc_api_Attr pattern))), (5, .pv (.int .i64 0))], hp := [], nx := 0 }) (by kernel_rfl) (Sub.refl _) ?_
  refine x_loop (σ := Int) h (fun s => { tm := [(0, .pv (.sl (some 3) (List.map enc_api_Attr l))), (1, .pv (.sl (some 3) (List.map enc_api_Attr pattern))), (5, .pv (.int .i64 s))], hp := [], nx := 0 }) (by kernel_rfl) ?_ ?_
  · rintro i
    kernel_rfl
  · rintro i x11 h hx11
    replace h : ref22_Matches_L11 l pattern i = some x11 := h
    unfold ref22_Matches_L11 at h
    refine x_seq ?_
    refine x_rg (RegTo.mk [(.n, .e), (.n, .e), (.n, (.len (List.length pattern : Int))), (.n, .e)] ({ tm := [(0, .pv (.sl (some 3) (List.map enc_api_Attr l))), (1, .pv (.sl (some 3) (List.map enc_api_Attr pattern))), (5, .pv (.int .i64 i)), (11, .pv (.bool (decide (i < (List.length pattern : Int)))))], hp := [], nx := 0 }) [((List.length (List.map enc_api_Attr pattern) : Int) = (List.length pattern : Int))] (by kernel_rfl) (.cons (by rw [List.length_map]) .nil) (Sub.refl _)) ?_
    refine x_cond _ rfl (fun hc12 => ?_) (fun hc12 => ?_)
    · replace h := ite_t h hc12
      refine x_kw ({ tm := [(0, .pv (.sl (some 3) (List.map enc_api_Attr l))), (1, .pv (.sl (some 3) (List.map enc_api_Attr pattern))), (5, .pv (.int .i64 i))], hp := [], nx := 0 }) (by kernel_rfl) (Sub.refl _) ?_
      refine x_skip ?_
      refine x_tn ?_
      refine x_seq ?_
      refine x_block ?_
      obtain ⟨x13, hx13, h⟩ := bind_some h
      obtain ⟨x14, hx14, h⟩ := bind_some h
      refine x_rg (RegTo.mk [(.n, .e), (.n, .e), (.n, .e), (.n, (.pAt (enc_api_Attr x13))), (.n, .e), (.n, .e), (.n, (.call [] [.sl (some 3) (List.map enc_api_Attr l), .str x13.Name] (.tup [.str x14.1, .bool x14.2]) true)), (.n, .e), (.n, .e), (.n, .e), (.n, .e), (.n, .e)] ({ tm := [(0, .pv (.sl (some 3) (List.map enc_api_Attr l))), (1, .pv (.sl (some 3) (List.map enc_api_Attr pattern))), (5, .pv (.int .i64 i)), (6, .pv (.str x14.1)), (7, .pv (.bool x14.2))], hp := [], nx := 0 }) [(lsAt (List.map enc_api_Attr pattern) i = some (enc_api_Attr x13)), (LesA [.sl (some 3) (List.map enc_api_Attr l), .str x13.Name] [.sl (some 3) (List.map enc_api_Attr l), .str x13.Name]), (CallOK Tryd.prog 25 [.sl (some 3) (List.map enc_api_Attr l), .str x13.Name] (.tup [.str x14.1, .bool x14.2]) true)] (by kernel_rfl) (.cons (lsAt_map hx13) (.cons (LesA.rfl' _) (.cons (c25 hx14) .nil))) (Sub.refl _)) ?_
      obtain ⟨t19, ht, h⟩ := bind_some h
      refine x_rg (st2 := { tm := [(0, .pv (.sl (some 3) (List.map enc_api_Attr l))), (1, .pv (.sl (some 3) (List.map enc_api_Attr pattern))), (5, .pv (.int .i64 i)), (42, .pv (.bool t19))], hp := [], nx := 0 }) ?_ ?_
      · rcases Bool.eq_false_or_eq_true (!x14.2) with hg15 | hg15
        · replace ht := ite_t ht hg15
          have e := Option.some.inj ht
          subst e
          exact RegTo.mk [(.n, .e), (.n, .e), (.n, .e), (.s, .e), (.s, .e), (.s, .e), (.s, .e), (.s, .e), (.s, .e), (.s, .e), (.u, .e), (.u, .e), (.u, .e), (.u, .e), (.u, .e), (.u, .e), (.u, .e), (.s, .e), (.n, (.pk true))] ({ tm := [(0, .pv (.sl (some 3) (List.map enc_api_Attr l))), (1, .pv (.sl (some 3) (List.map enc_api_Attr pattern))), (5, .pv (.int .i64 i)), (42, .pv (.bool true))], hp := [], nx := 0 }) [((!x14.2) = true), ((!x14.2) = true), ((!x14.2) = true), ((!x14.2) = true), ((!x14.2) = true), ((!x14.2) = true), ((!x14.2) = true), ((!x14.2) = true), ((!x14.2) = true)] (by kernel_rfl) (.cons hg15 (.cons hg15 (.cons hg15 (.cons hg15 (.cons hg15 (.cons hg15 (.cons hg15 (.cons hg15 (.cons hg15 .nil))))))))) (Sub.refl _)
        · replace ht := ite_f ht hg15
          obtain ⟨x16, hx16, ht⟩ := bind_some ht
          rcases Bool.eq_false_or_eq_true (!x16.Query) with hg17 | hg17
          · replace ht := ite_t ht hg17
            obtain ⟨x18, hx18, ht⟩ := bind_some ht
            have e := Option.some.inj ht
            subst e
            exact RegTo.mk [(.n, .e), (.n, .e), (.n, .e), (.y, .e), (.y, .e), (.y, (.pAt (enc_api_Attr x16))), (.y, .e), (.y, .e), (.y, .e), (.y, .e), (.y, .e), (.y, .e), (.y, .e), (.y, (.pAt (enc_api_Attr x18))), (.y, .e), (.y, .e), (.y, .e), (.y, (.pk true)), (.n, (.pk false))] ({ tm := [(0, .pv (.sl (some 3) (List.map enc_api_Attr l))), (1, .pv (.sl (some 3) (List.map enc_api_Attr pattern))), (5, .pv (.int .i64 i)), (42, .pv (.bool (!decide (x14.1 = x18.Value))))], hp := [], nx := 0 }) [((!x14.2) = false), ((!x14.2) = false), ((!x14.2) = false), (lsAt (List.map enc_api_Attr pattern) i = some (enc_api_Attr x16)), ((!x14.2) = false), ((!x14.2) = false), ((!x14.2) = false), ((!x14.2) = false), ((!x16.Query) = true), ((!x16.Query) = true), ((!x16.Query) = true), ((!x16.Query) = true), (lsAt (List.map enc_api_Attr pattern) i = some (enc_api_Attr x18)), ((!x16.Query) = true), ((!x16.Query) = true), ((!x16.Query) = true), ((!x14.2) = false), ((!x16.Query) = true), ((!x14.2) = false)] (by kernel_rfl) (.cons hg15 (.cons hg15 (.cons hg15 (.cons (lsAt_map hx16) (.cons hg15 (.cons hg15 (.cons hg15 (.cons hg15 (.cons hg17 (.cons hg17 (.cons hg17 (.cons hg17 (.cons (lsAt_map hx18) (.cons hg17 (.cons hg17 (.cons hg17 (.cons hg15 (.cons hg17 (.cons hg15 .nil))))))))))))))))))) (Sub.refl _)
          · replace ht := ite_f ht hg17
            have e := Option.some.inj ht
            subst e
            exact RegTo.mk [(.n, .e), (.n, .e), (.n, .e), (.y, .e), (.y, .e), (.y, (.pAt (enc_api_Attr x16))), (.y, .e), (.y, .e), (.y, .e), (.y, .e), (.s, .e), (.s, .e), (.s, .e), (.s, .e), (.s, .e), (.s, .e), (.s, .e), (.y, (.pk false)), (.n, (.pk false))] ({ tm := [(0, .pv (.sl (some 3) (List.map enc_api_Attr l))), (1, .pv (.sl (some 3) (List.map enc_api_Attr pattern))), (5, .pv (.int .i64 i)), (42, .pv (.bool false))], hp := [], nx := 0 }) [((!x14.2) = false), ((!x14.2) = false), ((!x14.2) = false), (lsAt (List.map enc_api_Attr pattern) i = some (enc_api_Attr x16)), ((!x14.2) = false), ((!x14.2) = false), ((!x14.2) = false), ((!x14.2) = false), ((!x16.Query) = false), ((!x16.Query) = false), ((!x16.Query) = false), ((!x16.Query) = false), ((!x16.Query) = false), ((!x16.Query) = false), ((!x16.Query) = false), ((!x14.2) = false), ((!x16.Query) = false), ((!x14.2) = false)] (by kernel_rfl) (.cons hg15 (.cons hg15 (.cons hg15 (.cons (lsAt_map hx16) (.cons hg15 (.cons hg15 (.cons hg15 (.cons hg15 (.cons hg17 (.cons hg17 (.cons hg17 (.cons hg17 (.cons hg17 (.cons hg17 (.cons hg17 (.cons hg15 (.cons hg17 (.cons hg15 .nil)))))))))))))))))) (Sub.refl _)
      · clear ht
        refine x_cond _ rfl (fun hc20 => ?_) (fun hc20 => ?_)
        · replace h := ite_t h hc20
          refine x_rg (RegTo.mk [(.n, .e)] ({ tm := [(4, .pv (.bool false))], hp := [], nx := 0 }) [] (by kernel_rfl) .nil (Sub.refl _)) ?_
          refine x_toret ?_
          refine x_br ?_
          refine x_tr ?_
          refine x_tr ?_
          replace h := done_leaf h hx11
          refine x_br ?_
          refine x_tr ?_
          obtain rfl := Option.some.inj h
          exact x_ret (.bool false) [] [] (by kernel_rfl) .nil (by decide) (.refl _) (fun _ => rfl)
        · replace h := ite_f h hc20
          refine x_kw ({ tm := [(0, .pv (.sl (some 3) (List.map enc_api_Attr l))), (1, .pv (.sl (some 3) (List.map enc_api_Attr pattern))), (5, .pv (.int .i64 i))], hp := [], nx := 0 }) (by kernel_rfl) (Sub.refl _) ?_
          refine x_skip ?_
          refine x_bn ?_
          refine x_tn ?_
          refine x_rgt (RegTo.mk [(.n, .e), (.n, .e), (.n, .e)] ({ tm := [(0, .pv (.sl (some 3) (List.map enc_api_Attr l))), (1, .pv (.sl (some 3) (List.map enc_api_Attr pattern))), (5, .pv (.int .i64 (IntKind.wrap .i64 (i + 1))))], hp := [], nx := 0 }) [] (by kernel_rfl) .nil (Sub.refl _)) ?_
          refine x_tn ?_
          exact ⟨_, (Option.some.inj h).symm, by kernel_rfl⟩
    · replace h := ite_f h hc12
      refine x_kw ({ tm := [], hp := [], nx := 0 }) (by kernel_rfl) (Sub.refl _) ?_
      refine x_exit ?_
      refine x_te ?_
      refine x_te ?_
      replace h := done_leaf h hx11
      refine x_bh ?_
      refine x_tn ?_
      refine x_rg (RegTo.mk [(.n, .e)] ({ tm := [(4, .pv (.bool true))], hp := [], nx := 0 }) [] (by kernel_rfl) .nil (Sub.refl _)) ?_
      refine x_toret ?_
      obtain rfl := Option.some.inj h
      exact x_ret (.bool true) [] [] (by kernel_rfl) .nil (by decide) (.refl _) (fun _ => rfl)

theorem c23 {l : (List api_Attr)} {r : (List api_Attr)} (h : ref22_Public l = some r) : CallOK Tryd.prog 23 [.sl (some 3) (List.map enc_api_Attr l)] (.usl (some 3) (List.map enc_api_Attr r)) true := by
  apply ok23
  unfold ref22_Public at h
  refine x_rg (RegTo.mk [(.n, .e)] ({ tm := [(0, .pv (.sl (some 3) (List.map enc_api_Attr l)))], hp := [], nx := 0 }) [] (by kernel_rfl) .nil (Sub.refl _)) ?_
  refine x_rg (st2 := { tm := [(0, .pv (.sl (some 3) (List.map enc_api_Attr l))), (3, .osl 0 0 (List.map enc_api_Attr ([] : List api_Attr)).length)], hp := [(0, some (.p (some 3) (List.map enc_api_Attr ([] : List api_Attr))))], nx := 1 }) (RegTo.mk [(.n, .e)] ({ tm := [(0, .pv (.sl (some 3) (List.map enc_api_Attr l))), (3, .pv (.nilsl))], hp := [], nx := 0 }) [] (by kernel_rfl) .nil ((Sub.keep (ks := [0, 3]) (st := ownSt 3 (some 3) ({ tm := [(0, .pv (.sl (some 3) (List.map enc_api_Attr l))), (3, .pv (.nilsl))], hp := [], nx := 0 })) (st' := { tm := [(0, .pv (.sl (some 3) (List.map enc_api_Attr l))), (3, .osl 0 0 (List.map enc_api_Attr ([] : List api_Attr)).length)], hp := [(0, some (.p (some 3) (List.map enc_api_Attr ([] : List api_Attr))))], nx := 1 }) (by kernel_rfl)).trans (own_sound 3 (some 3) ({ tm := [(0, .pv (.sl (some 3) (List.map enc_api_Attr l))), (3, .pv (.nilsl))], hp := [], nx := 0 })))) ?_
  refine x_seq ?_
  refine x_rg (RegTo.mk [(.n, .e)] ({ tm := [(0, .pv (.sl (some 3) (List.map enc_api_Attr l))), (3, .osl 0 0 (List.map enc_api_Attr ([] : List api_Attr)).length), (4, .pv (.int .i64 0))], hp := [(0, some (.p (some 3) (List.map enc_api_Attr ([] : List api_Attr))))], nx := 1 }) [] (by kernel_rfl) .nil (Sub.refl _)) ?_
  refine x_block ?_
  refine x_kw ({ tm := [(0, .pv (.sl (some 3) (List.map enc_api_Attr l))), (3, .osl 0 0 (List.map enc_api_Attr ([] : List api_Attr)).length), (4, .pv (.int .i64 0))], hp := [(0, some (.p (some 3) (List.map enc_api_Attr ([] : List api_Attr))))], nx := 1 }) (by kernel_rfl) (Sub.refl _) ?_
  refine x_loop (σ := (Int × (List api_Attr))) h (fun s => { tm := [(0, .pv (.sl (some 3) (List.map enc_api_Attr l))), (3, .osl 0 0 (List.map enc_api_Attr s.2).length), (4, .pv (.int .i64 s.1))], hp := [(0, some (.p (some 3) (List.map enc_api_Attr s.2)))], nx := 1 }) (by kernel_rfl) ?_ ?_
  · rintro ⟨i, out⟩
    kernel_rfl
  · rintro ⟨i, out⟩ x9 h hx9
    replace h : ref22_Public_L9 l i out = some x9 := h
    unfold ref22_Public_L9 at h
    refine x_seq ?_
    refine x_rg (RegTo.mk [(.n, .e), (.n, .e), (.n, (.len (List.length l : Int))), (.n, .e)] ({ tm := [(0, .pv (.sl (some 3) (List.map enc_api_Attr l))), (3, .osl 0 0 (List.map enc_api_Attr out).length), (4, .pv (.int .i64 i)), (8, .pv (.bool (decide (i < (List.length l : Int)))))], hp := [(0, some (.p (some 3) (List.map enc_api_Attr out)))], nx := 1 }) [((List.length (List.map enc_api_Attr l) : Int) = (List.length l : Int))] (by kernel_rfl) (.cons (by rw [List.length_map]) .nil) (Sub.refl _)) ?_
    refine x_cond _ rfl (fun hc10 => ?_) (fun hc10 => ?_)
    · replace h := ite_t h hc10
      refine x_kw ({ tm := [(0, .pv (.sl (some 3) (List.map enc_api_Attr l))), (3, .osl 0 0 (List.map enc_api_Attr out).length), (4, .pv (.int .i64 i))], hp := [(0, some (.p (some 3) (List.map enc_api_Attr out)))], nx := 1 }) (by kernel_rfl) (Sub.refl _) ?_
      refine x_skip ?_
      refine x_tn ?_
      refine x_seq ?_
      refine x_block ?_
      obtain ⟨x11, hx11, h⟩ := bind_some h
      obtain ⟨x12, hx12, h⟩ := bind_some h
      refine x_rg (RegTo.mk [(.n, .e), (.n, .e), (.n, (.pAt (enc_api_Attr x11))), (.n, .e), (.n, .e), (.n, (.call [] [.str x11.Name] (.bool x12) true)), (.n, .e)] ({ tm := [(0, .pv (.sl (some 3) (List.map enc_api_Attr l))), (3, .osl 0 0 (List.map enc_api_Attr out).length), (4, .pv (.int .i64 i)), (17, .pv (.bool (!x12)))], hp := [(0, some (.p (some 3) (List.map enc_api_Attr out)))], nx := 1 }) [(lsAt (List.map enc_api_Attr l) i = some (enc_api_Attr x11)), (LesA [.str x11.Name] [.str x11.Name]), (CallOK Tryd.prog 43 [.str x11.Name] (.bool x12) true)] (by kernel_rfl) (.cons (lsAt_map hx11) (.cons (LesA.rfl' _) (.cons (c43 hx12) .nil))) (Sub.refl _)) ?_
      refine x_cond _ rfl (fun hc13 => ?_) (fun hc13 => ?_)
      · replace h := ite_t h hc13
        obtain ⟨x14, hx14, h⟩ := bind_some h
        obtain ⟨x15, hx15, h⟩ := bind_some h
        refine x_rgt (RegTo.mk [(.n, .e), (.n, .e), (.n, .e), (.n, (.pAt (enc_api_Attr x14))), (.n, .e), (.n, .e), (.n, (.app (List.map enc_api_Attr x15))), (.n, .e)] ({ tm := [(0, .pv (.sl (some 3) (List.map enc_api_Attr l))), (3, .osl 0 0 (List.map enc_api_Attr x15).length), (4, .pv (.int .i64 i))], hp := [(0, some (.p (some 3) (List.map enc_api_Attr x15)))], nx := 1 }) [(lsAt (List.map enc_api_Attr l) i = some (enc_api_Attr x14)), (List.take (List.map enc_api_Attr out).length (List.map enc_api_Attr out) ++ List.take 1 (List.drop 0 ([enc_api_Attr x14] : List PV)) = (List.map enc_api_Attr x15)), (List.length (List.map enc_api_Attr x15) * 40 ≤ 140737488355328), (List.length (List.map enc_api_Attr x15) ≤ 9223372036854775807), ((List.map enc_api_Attr out).length ≤ List.length (List.map enc_api_Attr out)), (0 + 1 ≤ List.length ([enc_api_Attr x14] : List PV))] (by kernel_rfl) (.cons (lsAt_map hx14) (.cons (app_ob hx15 (.all _) (.rfl _)) (.cons (by rw [List.length_map]; exact (appL_ok hx15).2.1) (.cons (by rw [List.length_map]; exact (appL_ok hx15).2.2) (.cons (Nat.le_refl _) (.cons (by simp) .nil)))))) (Sub.refl _)) ?_
        refine x_bn ?_
        refine x_tn ?_
        refine x_rgt (RegTo.mk [(.n, .e), (.n, .e), (.n, .e)] ({ tm := [(0, .pv (.sl (some 3) (List.map enc_api_Attr l))), (3, .osl 0 0 (List.map enc_api_Attr x15).length), (4, .pv (.int .i64 (IntKind.wrap .i64 (i + 1))))], hp := [(0, some (.p (some 3) (List.map enc_api_Attr x15)))], nx := 1 }) [] (by kernel_rfl) .nil (Sub.refl _)) ?_
        refine x_tn ?_
        exact ⟨_, (Option.some.inj h).symm, by kernel_rfl⟩
      · replace h := ite_f h hc13
        refine x_kw ({ tm := [(0, .pv (.sl (some 3) (List.map enc_api_Attr l))), (3, .osl 0 0 (List.map enc_api_Attr out).length), (4, .pv (.int .i64 i))], hp := [(0, some (.p (some 3) (List.map enc_api_Attr out)))], nx := 1 }) (by kernel_rfl) (Sub.refl _) ?_
        refine x_skip ?_
        refine x_bn ?_
        refine x_tn ?_
        refine x_rgt (RegTo.mk [(.n, .e), (.n, .e), (.n, .e)] ({ tm := [(0, .pv (.sl (some 3) (List.map enc_api_Attr l))), (3, .osl 0 0 (List.map enc_api_Attr out).length), (4, .pv (.int .i64 (IntKind.wrap .i64 (i + 1))))], hp := [(0, some (.p (some 3) (List.map enc_api_Attr out)))], nx := 1 }) [] (by kernel_rfl) .nil (Sub.refl _)) ?_
        refine x_tn ?_
        exact ⟨_, (Option.some.inj h).symm, by kernel_rfl⟩
    · replace h := ite_f h hc10
      refine x_kw ({ tm := [(3, .osl 0 0 (List.map enc_api_Attr out).length)], hp := [(0, some (.p (some 3) (List.map enc_api_Attr out)))], nx := 1 }) (by kernel_rfl) (Sub.refl _) ?_
      refine x_exit ?_
      refine x_te ?_
      refine x_te ?_
      replace h := done_leaf h hx9
      refine x_bh ?_
      refine x_tn ?_
      refine x_rg (RegTo.mk [(.n, .e), (.n, .e)] ({ tm := [(2, .osl 0 0 (List.map enc_api_Attr out).length)], hp := [(0, some (.p (some 3) (List.map enc_api_Attr out)))], nx := 1 }) [] (by kernel_rfl) .nil (Sub.refl _)) ?_
      refine x_toret ?_
      obtain rfl := Option.some.inj h
      exact x_ret (.usl (some 3) (List.take (List.map enc_api_Attr out).length (List.map enc_api_Attr out))) [0] [(List.map enc_api_Attr out).length ≤ List.length (List.map enc_api_Attr out)] (by kernel_rfl) (.cons (Nat.le_refl _) .nil) (by decide) (.of_eq (by rw [List.take_length])) (fun _ => (usl_ns (sh := (some 3)) (fun _ => rfl)))

theorem c6 {l : (List api_Attr)} {pattern : (List api_Attr)} {r : Bool} (h : law22_AttrMatches l pattern = some r) : CallOK Tryd.prog 6 [.sl (some 3) (List.map enc_api_Attr l), .sl (some 3) (List.map enc_api_Attr pattern)] (.bool r) true := by
  apply ok6
  unfold law22_AttrMatches at h
  refine x_rg (RegTo.mk [(.n, .e)] ({ tm := [(0, .pv (.sl (some 3) (List.map enc_api_Attr l))), (1, .pv (.sl (some 3) (List.map enc_api_Attr pattern)))], hp := [], nx := 0 }) [] (by kernel_rfl) .nil (Sub.refl _)) ?_
  refine x_seq ?_
  obtain ⟨x1, hx1, h⟩ := bind_some h
  obtain ⟨t4, ht, h⟩ := bind_some h
  refine x_rg (st2 := { tm := [(0, .pv (.sl (some 3) (List.map enc_api_Attr l))), (1, .pv (.sl (some 3) (List.map enc_api_Attr pattern))), (12, .pv (.bool t4))], hp := [], nx := 0 }) ?_ ?_
  · rcases Bool.eq_false_or_eq_true (!x1) with hg2 | hg2
    · replace ht := ite_t ht hg2
      have e := Option.some.inj ht
      subst e
      exact RegTo.mk [(.n, .e), (.n, (.call [] [.sl (some 3) (List.map enc_api_Attr l)] (.bool x1) true)), (.n, .e), (.n, .e), (.s, .e), (.s, .e), (.s, .e), (.n, (.pk true))] ({ tm := [(0, .pv (.sl (some 3) (List.map enc_api_Attr l))), (1, .pv (.sl (some 3) (List.map enc_api_Attr pattern))), (12, .pv (.bool true))], hp := [], nx := 0 }) [(LesA [.sl (some 3) (List.map enc_api_Attr l)] [.sl (some 3) (List.map enc_api_Attr l)]), (CallOK Tryd.prog 11 [.sl (some 3) (List.map enc_api_Attr l)] (.bool x1) true), ((!x1) = true), ((!x1) = true), ((!x1) = true), ((!x1) = true)] (by kernel_rfl) (.cons (LesA.rfl' _) (.cons (c11 hx1) (.cons hg2 (.cons hg2 (.cons hg2 (.cons hg2 .nil)))))) (Sub.refl _)
    · replace ht := ite_f ht hg2
      obtain ⟨x3, hx3, ht⟩ := bind_some ht
      have e := Option.some.inj ht
      subst e
      exact RegTo.mk [(.n, .e), (.n, (.call [] [.sl (some 3) (List.map enc_api_Attr l)] (.bool x1) true)), (.n, .e), (.n, .e), (.y, .e), (.y, (.call [] [.sl (some 3) (List.map enc_api_Attr pattern)] (.bool x3) true)), (.y, .e), (.n, (.pk false))] ({ tm := [(0, .pv (.sl (some 3) (List.map enc_api_Attr l))), (1, .pv (.sl (some 3) (List.map enc_api_Attr pattern))), (12, .pv (.bool (!x3)))], hp := [], nx := 0 }) [(LesA [.sl (some 3) (List.map enc_api_Attr l)] [.sl (some 3) (List.map enc_api_Attr l)]), (CallOK Tryd.prog 11 [.sl (some 3) (List.map enc_api_Attr l)] (.bool x1) true), ((!x1) = false), ((!x1) = false), (LesA [.sl (some 3) (List.map enc_api_Attr pattern)] [.sl (some 3) (List.map enc_api_Attr pattern)]), (CallOK Tryd.prog 11 [.sl (some 3) (List.map enc_api_Attr pattern)] (.bool x3) true), ((!x1) = false), ((!x1) = false)] (by kernel_rfl) (.cons (LesA.rfl' _) (.cons (c11 hx1) (.cons hg2 (.cons hg2 (.cons (LesA.rfl' _) (.cons (c11 hx3) (.cons hg2 (.cons hg2 .nil)))))))) (Sub.refl _)
  · clear ht
    refine x_cond _ rfl (fun hc5 => ?_) (fun hc5 => ?_)
    · replace h := ite_t h hc5
      obtain ⟨x6, hx6, h⟩ := bind_some h
      refine x_rg (RegTo.mk [(.n, (.call [] [] (.bool x6) true)), (.n, .e)] ({ tm := [(4, .pv (.bool x6))], hp := [], nx := 0 }) [(LesA [] []), (CallOK Tryd.prog 12 [] (.bool x6) true)] (by kernel_rfl) (.cons (LesA.rfl' _) (.cons (c12 hx6) .nil)) (Sub.refl _)) ?_
      refine x_toret ?_
      refine x_tr ?_
      obtain rfl := Option.some.inj h
      exact x_ret (.bool x6) [] [] (by kernel_rfl) .nil (by decide) (.refl _) (fun _ => rfl)
    · replace h := ite_f h hc5
      refine x_kw ({ tm := [(0, .pv (.sl (some 3) (List.map enc_api_Attr l))), (1, .pv (.sl (some 3) (List.map enc_api_Attr pattern)))], hp := [], nx := 0 }) (by kernel_rfl) (Sub.refl _) ?_
      refine x_skip ?_
      refine x_tn ?_
      obtain ⟨x7, hx7, h⟩ := bind_some h
      obtain ⟨x8, hx8, h⟩ := bind_some h
      obtain ⟨t15, ht, h⟩ := bind_some h
      refine x_rg (st2 := { tm := [(4, .pv (.bool t15))], hp := [], nx := 0 }) ?_ ?_
      · rcases Bool.eq_false_or_eq_true (decide (x7 = x8)) with hg9 | hg9
        · replace ht := ite_t ht hg9
          obtain ⟨x10, hx10, ht⟩ := bind_some ht
          obtain ⟨x11, hx11, ht⟩ := bind_some ht
          obtain ⟨x12, hx12, ht⟩ := bind_some ht
          rcases Bool.eq_false_or_eq_true x12 with hg13 | hg13
          · replace ht := ite_t ht hg13
            obtain ⟨x14, hx14, ht⟩ := bind_some ht
            have e := Option.some.inj ht
            subst e
            exact RegTo.mk [(.n, .e), (.n, .e), (.n, (.call [] [.sl (some 3) (List.map enc_api_Attr l), .sl (some 3) (List.map enc_api_Attr pattern)] (.bool x7) true)), (.n, .e), (.n, .e), (.n, (.call [] [.sl (some 3) (List.map enc_api_Attr l), .sl (some 3) (List.map enc_api_Attr pattern)] (.bool x8) true)), (.n, .e), (.n, .e), (.y, .e), (.y, (.call [] [.sl (some 3) (List.map enc_api_Attr l)] (.usl (some 3) (List.map enc_api_Attr x10)) true)), (.y, .e), (.y, (.call [] [.sl (some 3) (List.map enc_api_Attr l)] (.usl (some 3) (List.map enc_api_Attr x11)) true)), (.y, (.call [] [.sl (some 3) (List.map enc_api_Attr x10), .sl (some 3) (List.map enc_api_Attr x11)] (.bool x12) true)), (.n, (.pk true)), (.n, .e), (.y, (.call [] [] (.bool x14) true)), (.n, (.pk true)), (.n, .e)] ({ tm := [(4, .pv (.bool x14))], hp := [], nx := 0 }) [(LesA [.sl (some 3) (List.map enc_api_Attr l), .sl (some 3) (List.map enc_api_Attr pattern)] [.sl (some 3) (List.map enc_api_Attr l), .sl (some 3) (List.map enc_api_Attr pattern)]), (CallOK Tryd.prog 20 [.sl (some 3) (List.map enc_api_Attr l), .sl (some 3) (List.map enc_api_Attr pattern)] (.bool x7) true), (LesA [.sl (some 3) (List.map enc_api_Attr l), .sl (some 3) (List.map enc_api_Attr pattern)] [.sl (some 3) (List.map enc_api_Attr l), .sl (some 3) (List.map enc_api_Attr pattern)]), (CallOK Tryd.prog 21 [.sl (some 3) (List.map enc_api_Attr l), .sl (some 3) (List.map enc_api_Attr pattern)] (.bool x8) true), ((decide (x7 = x8)) = true), ((decide (x7 = x8)) = true), (LesA [.sl (some 3) (List.map enc_api_Attr l)] [.sl (some 3) (List.map enc_api_Attr l)]), (CallOK Tryd.prog 22 [.sl (some 3) (List.map enc_api_Attr l)] (.usl (some 3) (List.map enc_api_Attr x10)) true), ((decide (x7 = x8)) = true), ((decide (x7 = x8)) = true), (LesA [.sl (some 3) (List.map enc_api_Attr l)] [.sl (some 3) (List.map enc_api_Attr l)]), (CallOK Tryd.prog 23 [.sl (some 3) (List.map enc_api_Attr l)] (.usl (some 3) (List.map enc_api_Attr x11)) true), ((decide (x7 = x8)) = true), (LesA [.sl (some 3) (List.take (List.map enc_api_Attr x10).length (List.drop 0 (List.map enc_api_Attr x10))), .sl (some 3) (List.take (List.map enc_api_Attr x11).length (List.drop 0 (List.map enc_api_Attr x11)))] [.sl (some 3) (List.map enc_api_Attr x10), .sl (some 3) (List.map enc_api_Attr x11)]), (CallOK Tryd.prog 19 [.sl (some 3) (List.map enc_api_Attr x10), .sl (some 3) (List.map enc_api_Attr x11)] (.bool x12) true), (0 + (List.map enc_api_Attr x10).length ≤ List.length (List.map enc_api_Attr x10)), (0 + (List.map enc_api_Attr x11).length ≤ List.length (List.map enc_api_Attr x11)), ((decide (x7 = x8)) = true), (x12 = true), (LesA [] []), (CallOK Tryd.prog 12 [] (.bool x14) true), (x12 = true)] (by kernel_rfl) (.cons (LesA.rfl' _) (.cons (c20 hx7) (.cons (LesA.rfl' _) (.cons (c21 hx8) (.cons hg9 (.cons hg9 (.cons (LesA.rfl' _) (.cons (c22 hx10) (.cons hg9 (.cons hg9 (.cons (LesA.rfl' _) (.cons (c23 hx11) (.cons hg9 (.cons (.cons (.of_eq (by rw [List.drop_zero, List.take_length])) (.cons (.of_eq (by rw [List.drop_zero, List.take_length])) .nil)) (.cons (c19 hx12) (.cons (by simp) (.cons (by simp) (.cons hg9 (.cons hg13 (.cons (LesA.rfl' _) (.cons (c12 hx14) (.cons hg13 .nil)))))))))))))))))))))) (Sub.refl _)
          · replace ht := ite_f ht hg13
            have e := Option.some.inj ht
            subst e
            exact RegTo.mk [(.n, .e), (.n, .e), (.n, (.call [] [.sl (some 3) (List.map enc_api_Attr l), .sl (some 3) (List.map enc_api_Attr pattern)] (.bool x7) true)), (.n, .e), (.n, .e), (.n, (.call [] [.sl (some 3) (List.map enc_api_Attr l), .sl (some 3) (List.map enc_api_Attr pattern)] (.bool x8) true)), (.n, .e), (.n, .e), (.y, .e), (.y, (.call [] [.sl (some 3) (List.map enc_api_Attr l)] (.usl (some 3) (List.map enc_api_Attr x10)) true)), (.y, .e), (.y, (.call [] [.sl (some 3) (List.map enc_api_Attr l)] (.usl (some 3) (List.map enc_api_Attr x11)) true)), (.y, (.call [] [.sl (some 3) (List.map enc_api_Attr x10), .sl (some 3) (List.map enc_api_Attr x11)] (.bool x12) true)), (.n, (.pk true)), (.n, .e), (.s, .e), (.n, (.pk false)), (.n, .e)] ({ tm := [(4, .pv (.bool false))], hp := [], nx := 0 }) [(LesA [.sl (some 3) (List.map enc_api_Attr l), .sl (some 3) (List.map enc_api_Attr pattern)] [.sl (some 3) (List.map enc_api_Attr l), .sl (some 3) (List.map enc_api_Attr pattern)]), (CallOK Tryd.prog 20 [.sl (some 3) (List.map enc_api_Attr l), .sl (some 3) (List.map enc_api_Attr pattern)] (.bool x7) true), (LesA [.sl (some 3) (List.map enc_api_Attr l), .sl (some 3) (List.map enc_api_Attr pattern)] [.sl (some 3) (List.map enc_api_Attr l), .sl (some 3) (List.map enc_api_Attr pattern)]), (CallOK Tryd.prog 21 [.sl (some 3) (List.map enc_api_Attr l), .sl (some 3) (List.map enc_api_Attr pattern)] (.bool x8) true), ((decide (x7 = x8)) = true), ((decide (x7 = x8)) = true), (LesA [.sl (some 3) (List.map enc_api_Attr l)] [.sl (some 3) (List.map enc_api_Attr l)]), (CallOK Tryd.prog 22 [.sl (some 3) (List.map enc_api_Attr l)] (.usl (some 3) (List.map enc_api_Attr x10)) true), ((decide (x7 = x8)) = true), ((decide (x7 = x8)) = true), (LesA [.sl (some 3) (List.map enc_api_Attr l)] [.sl (some 3) (List.map enc_api_Attr l)]), (CallOK Tryd.prog 23 [.sl (some 3) (List.map enc_api_Attr l)] (.usl (some 3) (List.map enc_api_Attr x11)) true), ((decide (x7 = x8)) = true), (LesA [.sl (some 3) (List.take (List.map enc_api_Attr x10).length (List.drop 0 (List.map enc_api_Attr x10))), .sl (some 3) (List.take (List.map enc_api_Attr x11).length (List.drop 0 (List.map enc_api_Attr x11)))] [.sl (some 3) (List.map enc_api_Attr x10), .sl (some 3) (List.map enc_api_Attr x11)]), (CallOK Tryd.prog 19 [.sl (some 3) (List.map enc_api_Attr x10), .sl (some 3) (List.map enc_api_Attr x11)] (.bool x12) true), (0 + (List.map enc_api_Attr x10).length ≤ List.length (List.map enc_api_Attr x10)), (0 + (List.map enc_api_Attr x11).length ≤ List.length (List.map enc_api_Attr x11)), ((decide (x7 = x8)) = true), (x12 = false), (x12 = false)] (by kernel_rfl) (.cons (LesA.rfl' _) (.cons (c20 hx7) (.cons (LesA.rfl' _) (.cons (c21 hx8) (.cons hg9 (.cons hg9 (.cons (LesA.rfl' _) (.cons (c22 hx10) (.cons hg9 (.cons hg9 (.cons (LesA.rfl' _) (.cons (c23 hx11) (.cons hg9 (.cons (.cons (.of_eq (by rw [List.drop_zero, List.take_length])) (.cons (.of_eq (by rw [List.drop_zero, List.take_length])) .nil)) (.cons (c19 hx12) (.cons (by simp) (.cons (by simp) (.cons hg9 (.cons hg13 (.cons hg13 .nil)))))))))))))))))))) (Sub.refl _)
        · replace ht := ite_f ht hg9
          have e := Option.some.inj ht
          subst e
          exact RegTo.mk [(.n, .e), (.n, .e), (.n, (.call [] [.sl (some 3) (List.map enc_api_Attr l), .sl (some 3) (List.map enc_api_Attr pattern)] (.bool x7) true)), (.n, .e), (.n, .e), (.n, (.call [] [.sl (some 3) (List.map enc_api_Attr l), .sl (some 3) (List.map enc_api_Attr pattern)] (.bool x8) true)), (.n, .e), (.n, .e), (.s, .e), (.s, .e), (.s, .e), (.s, .e), (.s, .e), (.n, (.pk false)), (.n, .e), (.s, .e), (.n, .e), (.n, .e)] ({ tm := [(4, .pv (.bool false))], hp := [], nx := 0 }) [(LesA [.sl (some 3) (List.map enc_api_Attr l), .sl (some 3) (List.map enc_api_Attr pattern)] [.sl (some 3) (List.map enc_api_Attr l), .sl (some 3) (List.map enc_api_Attr pattern)]), (CallOK Tryd.prog 20 [.sl (some 3) (List.map enc_api_Attr l), .sl (some 3) (List.map enc_api_Attr pattern)] (.bool x7) true), (LesA [.sl (some 3) (List.map enc_api_Attr l), .sl (some 3) (List.map enc_api_Attr pattern)] [.sl (some 3) (List.map enc_api_Attr l), .sl (some 3) (List.map enc_api_Attr pattern)]), (CallOK Tryd.prog 21 [.sl (some 3) (List.map enc_api_Attr l), .sl (some 3) (List.map enc_api_Attr pattern)] (.bool x8) true), ((decide (x7 = x8)) = false), ((decide (x7 = x8)) = false), ((decide (x7 = x8)) = false), ((decide (x7 = x8)) = false), ((decide (x7 = x8)) = false), ((decide (x7 = x8)) = false), (false = false)] (by kernel_rfl) (.cons (LesA.rfl' _) (.cons (c20 hx7) (.cons (LesA.rfl' _) (.cons (c21 hx8) (.cons hg9 (.cons hg9 (.cons hg9 (.cons hg9 (.cons hg9 (.cons hg9 (.cons rfl .nil))))))))))) (Sub.refl _)
      · clear ht
        refine x_toret ?_
        obtain rfl := Option.some.inj h
        exact x_ret (.bool t15) [] [] (by kernel_rfl) .nil (by decide) (.refl _) (fun _ => rfl)

theorem c7 {l : (List api_Attr)} {r : Bool} (h : law22_AttrReturns l = some r) : CallOK Tryd.prog 7 [.sl (some 3) (List.map enc_api_Attr l)] (.bool r) true := by
  apply ok7
  unfold law22_AttrReturns at h
  refine x_rg (RegTo.mk [(.n, .e)] ({ tm := [(0, .pv (.sl (some 3) (List.map enc_api_Attr l)))], hp := [], nx := 0 }) [] (by kernel_rfl) .nil (Sub.refl _)) ?_
  refine x_seq ?_
  obtain ⟨x1, hx1, h⟩ := bind_some h
  obtain ⟨t4, ht, h⟩ := bind_some h
  refine x_rg (st2 := { tm := [(0, .pv (.sl (some 3) (List.map enc_api_Attr l))), (15, .pv (.bool t4))], hp := [], nx := 0 }) ?_ ?_
  · rcases Bool.eq_false_or_eq_true (!x1) with hg2 | hg2
    · replace ht := ite_t ht hg2
      have e := Option.some.inj ht
      subst e
      exact RegTo.mk [(.n, .e), (.n, (.call [] [.sl (some 3) (List.map enc_api_Attr l)] (.bool x1) true)), (.n, .e), (.n, .e), (.s, .e), (.s, .e), (.s, .e), (.n, (.pk true))] ({ tm := [(0, .pv (.sl (some 3) (List.map enc_api_Attr l))), (15, .pv (.bool true))], hp := [], nx := 0 }) [(LesA [.sl (some 3) (List.map enc_api_Attr l)] [.sl (some 3) (List.map enc_api_Attr l)]), (CallOK Tryd.prog 11 [.sl (some 3) (List.map enc_api_Attr l)] (.bool x1) true), ((!x1) = true), ((!x1) = true), ((!x1) = true), ((!x1) = true)] (by kernel_rfl) (.cons (LesA.rfl' _) (.cons (c11 hx1) (.cons hg2 (.cons hg2 (.cons hg2 (.cons hg2 .nil)))))) (Sub.refl _)
    · replace ht := ite_f ht hg2
      obtain ⟨x3, hx3, ht⟩ := bind_some ht
      have e := Option.some.inj ht
      subst e
      exact RegTo.mk [(.n, .e), (.n, (.call [] [.sl (some 3) (List.map enc_api_Attr l)] (.bool x1) true)), (.n, .e), (.n, .e), (.y, .e), (.y, (.call [] [.sl (some 3) (List.map enc_api_Attr l)] (.int .i64 x3) true)), (.y, .e), (.n, (.pk false))] ({ tm := [(0, .pv (.sl (some 3) (List.map enc_api_Attr l))), (15, .pv (.bool (!decide (x3 = 0))))], hp := [], nx := 0 }) [(LesA [.sl (some 3) (List.map enc_api_Attr l)] [.sl (some 3) (List.map enc_api_Attr l)]), (CallOK Tryd.prog 11 [.sl (some 3) (List.map enc_api_Attr l)] (.bool x1) true), ((!x1) = false), ((!x1) = false), (LesA [.sl (some 3) (List.map enc_api_Attr l)] [.sl (some 3) (List.map enc_api_Attr l)]), (CallOK Tryd.prog 14 [.sl (some 3) (List.map enc_api_Attr l)] (.int .i64 x3) true), ((!x1) = false), ((!x1) = false)] (by kernel_rfl) (.cons (LesA.rfl' _) (.cons (c11 hx1) (.cons hg2 (.cons hg2 (.cons (LesA.rfl' _) (.cons (c14 hx3) (.cons hg2 (.cons hg2 .nil)))))))) (Sub.refl _)
  · clear ht
    refine x_cond _ rfl (fun hc5 => ?_) (fun hc5 => ?_)
    · replace h := ite_t h hc5
      obtain ⟨x6, hx6, h⟩ := bind_some h
      refine x_rg (RegTo.mk [(.n, (.call [] [] (.bool x6) true)), (.n, .e)] ({ tm := [(2, .pv (.bool x6))], hp := [], nx := 0 }) [(LesA [] []), (CallOK Tryd.prog 12 [] (.bool x6) true)] (by kernel_rfl) (.cons (LesA.rfl' _) (.cons (c12 hx6) .nil)) (Sub.refl _)) ?_
      refine x_toret ?_
      refine x_tr ?_
      obtain rfl := Option.some.inj h
      exact x_ret (.bool x6) [] [] (by kernel_rfl) .nil (by decide) (.refl _) (fun _ => rfl)
    · replace h := ite_f h hc5
      refine x_kw ({ tm := [(0, .pv (.sl (some 3) (List.map enc_api_Attr l)))], hp := [], nx := 0 }) (by kernel_rfl) (Sub.refl _) ?_
      refine x_skip ?_
      refine x_tn ?_
      obtain ⟨x7, hx7, h⟩ := bind_some h
      refine x_rg (RegTo.mk [(.n, .e), (.n, (.call [] [.sl (some 3) (List.map enc_api_Attr l)] (.tup [.str x7.1, .int .i64 x7.2]) true)), (.n, .e), (.n, .e), (.n, .e), (.n, .e), (.n, .e)] ({ tm := [(0, .pv (.sl (some 3) (List.map enc_api_Attr l))), (3, .pv (.str x7.1)), (4, .pv (.int .i64 x7.2))], hp := [], nx := 0 }) [(LesA [.sl (some 3) (List.map enc_api_Attr l)] [.sl (some 3) (List.map enc_api_Attr l)]), (CallOK Tryd.prog 15 [.sl (some 3) (List.map enc_api_Attr l)] (.tup [.str x7.1, .int .i64 x7.2]) true)] (by kernel_rfl) (.cons (LesA.rfl' _) (.cons (c15 hx7) .nil)) (Sub.refl _)) ?_
      obtain ⟨x8, hx8, h⟩ := bind_some h
      refine x_rg (RegTo.mk [(.n, .e), (.n, (.call [] [.str x7.1] (.tup [.usl (some 3) (List.map enc_api_Attr x8.1), .int .i64 x8.2.1, .int .i64 x8.2.2]) true)), (.n, .e), (.n, .e), (.n, .e), (.n, .e), (.n, .e), (.n, .e), (.n, .e)] ({ tm := [(0, .pv (.sl (some 3) (List.map enc_api_Attr l))), (4, .pv (.int .i64 x7.2)), (5, .osl 0 0 (List.map enc_api_Attr x8.1).length), (6, .pv (.int .i64 x8.2.1)), (7, .pv (.int .i64 x8.2.2))], hp := [(0, some (.p (some 3) (List.map enc_api_Attr x8.1)))], nx := 1 }) [(LesA [.str x7.1] [.str x7.1]), (CallOK Tryd.prog 17 [.str x7.1] (.tup [.usl (some 3) (List.map enc_api_Attr x8.1), .int .i64 x8.2.1, .int .i64 x8.2.2]) true)] (by kernel_rfl) (.cons (LesA.rfl' _) (.cons (c17 hx8) .nil)) (Sub.refl _)) ?_
      obtain ⟨t15, ht, h⟩ := bind_some h
      refine x_rg (st2 := { tm := [(2, .pv (.bool t15))], hp := [], nx := 0 }) ?_ ?_
      · rcases Bool.eq_false_or_eq_true (decide (x7.2 = 0)) with hg9 | hg9
        · replace ht := ite_t ht hg9
          rcases Bool.eq_false_or_eq_true (decide (x8.2.2 = 0)) with hg10 | hg10
          · replace ht := ite_t ht hg10
            rcases Bool.eq_false_or_eq_true (decide (x8.2.1 = 0)) with hg11 | hg11
            · replace ht := ite_t ht hg11
              obtain ⟨x12, hx12, ht⟩ := bind_some ht
              rcases Bool.eq_false_or_eq_true x12 with hg13 | hg13
              · replace ht := ite_t ht hg13
                obtain ⟨x14, hx14, ht⟩ := bind_some ht
                have e := Option.some.inj ht
                subst e
                exact RegTo.mk [(.n, .e), (.n, .e), (.n, .e), (.y, .e), (.y, .e), (.n, (.pk true)), (.n, .e), (.y, .e), (.y, .e), (.n, (.pk true)), (.n, .e), (.y, .e), (.y, .e), (.y, (.call [] [.sl (some 3) (List.map enc_api_Attr l), .sl (some 3) (List.map enc_api_Attr x8.1)] (.bool x12) true)), (.n, (.pk true)), (.n, .e), (.y, (.call [] [] (.bool x14) true)), (.n, (.pk true)), (.n, .e)] ({ tm := [(2, .pv (.bool x14))], hp := [], nx := 0 }) [((decide (x7.2 = 0)) = true), ((decide (x7.2 = 0)) = true), ((decide (x7.2 = 0)) = true), ((decide (x8.2.2 = 0)) = true), ((decide (x8.2.2 = 0)) = true), ((decide (x8.2.2 = 0)) = true), ((decide (x8.2.1 = 0)) = true), ((decide (x8.2.1 = 0)) = true), ((decide (x8.2.1 = 0)) = true), (LesA [.sl (some 3) (List.map enc_api_Attr l), .sl (some 3) (List.take (List.map enc_api_Attr x8.1).length (List.drop 0 (List.map enc_api_Attr x8.1)))] [.sl (some 3) (List.map enc_api_Attr l), .sl (some 3) (List.map enc_api_Attr x8.1)]), (CallOK Tryd.prog 19 [.sl (some 3) (List.map enc_api_Attr l), .sl (some 3) (List.map enc_api_Attr x8.1)] (.bool x12) true), (0 + (List.map enc_api_Attr x8.1).length ≤ List.length (List.map enc_api_Attr x8.1)), ((decide (x8.2.1 = 0)) = true), (x12 = true), (LesA [] []), (CallOK Tryd.prog 12 [] (.bool x14) true), (x12 = true)] (by kernel_rfl) (.cons hg9 (.cons hg9 (.cons hg9 (.cons hg10 (.cons hg10 (.cons hg10 (.cons hg11 (.cons hg11 (.cons hg11 (.cons (.cons (.refl _) (.cons (.of_eq (by rw [List.drop_zero, List.take_length])) .nil)) (.cons (c19 hx12) (.cons (by simp) (.cons hg11 (.cons hg13 (.cons (LesA.rfl' _) (.cons (c12 hx14) (.cons hg13 .nil))))))))))))))))) (Sub.refl _)
              · replace ht := ite_f ht hg13
                have e := Option.some.inj ht
                subst e
                exact RegTo.mk [(.n, .e), (.n, .e), (.n, .e), (.y, .e), (.y, .e), (.n, (.pk true)), (.n, .e), (.y, .e), (.y, .e), (.n, (.pk true)), (.n, .e), (.y, .e), (.y, .e), (.y, (.call [] [.sl (some 3) (List.map enc_api_Attr l), .sl (some 3) (List.map enc_api_Attr x8.1)] (.bool x12) true)), (.n, (.pk true)), (.n, .e), (.s, .e), (.n, (.pk false)), (.n, .e)] ({ tm := [(2, .pv (.bool false))], hp := [], nx := 0 }) [((decide (x7.2 = 0)) = true), ((decide (x7.2 = 0)) = true), ((decide (x7.2 = 0)) = true), ((decide (x8.2.2 = 0)) = true), ((decide (x8.2.2 = 0)) = true), ((decide (x8.2.2 = 0)) = true), ((decide (x8.2.1 = 0)) = true), ((decide (x8.2.1 = 0)) = true), ((decide (x8.2.1 = 0)) = true), (LesA [.sl (some 3) (List.map enc_api_Attr l), .sl (some 3) (List.take (List.map enc_api_Attr x8.1).length (List.drop 0 (List.map enc_api_Attr x8.1)))] [.sl (some 3) (List.map enc_api_Attr l), .sl (some 3) (List.map enc_api_Attr x8.1)]), (CallOK Tryd.prog 19 [.sl (some 3) (List.map enc_api_Attr l), .sl (some 3) (List.map enc_api_Attr x8.1)] (.bool x12) true), (0 + (List.map enc_api_Attr x8.1).length ≤ List.length (List.map enc_api_Attr x8.1)), ((decide (x8.2.1 = 0)) = true), (x12 = false), (x12 = false)] (by kernel_rfl) (.cons hg9 (.cons hg9 (.cons hg9 (.cons hg10 (.cons hg10 (.cons hg10 (.cons hg11 (.cons hg11 (.cons hg11 (.cons (.cons (.refl _) (.cons (.of_eq (by rw [List.drop_zero, List.take_length])) .nil)) (.cons (c19 hx12) (.cons (by simp) (.cons hg11 (.cons hg13 (.cons hg13 .nil))))))))))))))) (Sub.refl _)
            · replace ht := ite_f ht hg11
              have e := Option.some.inj ht
              subst e
              exact RegTo.mk [(.n, .e), (.n, .e), (.n, .e), (.y, .e), (.y, .e), (.n, (.pk true)), (.n, .e), (.y, .e), (.y, .e), (.n, (.pk true)), (.n, .e), (.s, .e), (.s, .e), (.s, .e), (.n, (.pk false)), (.n, .e), (.s, .e), (.n, .e), (.n, .e)] ({ tm := [(2, .pv (.bool false))], hp := [], nx := 0 }) [((decide (x7.2 = 0)) = true), ((decide (x7.2 = 0)) = true), ((decide (x7.2 = 0)) = true), ((decide (x8.2.2 = 0)) = true), ((decide (x8.2.2 = 0)) = true), ((decide (x8.2.2 = 0)) = true), ((decide (x8.2.1 = 0)) = false), ((decide (x8.2.1 = 0)) = false), ((decide (x8.2.1 = 0)) = false), ((decide (x8.2.1 = 0)) = false), (false = false)] (by kernel_rfl) (.cons hg9 (.cons hg9 (.cons hg9 (.cons hg10 (.cons hg10 (.cons hg10 (.cons hg11 (.cons hg11 (.cons hg11 (.cons hg11 (.cons rfl .nil))))))))))) (Sub.refl _)
          · replace ht := ite_f ht hg10
            have e := Option.some.inj ht
            subst e
            exact RegTo.mk [(.n, .e), (.n, .e), (.n, .e), (.y, .e), (.y, .e), (.n, (.pk true)), (.n, .e), (.s, .e), (.s, .e), (.n, (.pk false)), (.n, .e), (.s, .e), (.s, .e), (.s, .e), (.n, .e), (.n, .e), (.s, .e), (.n, .e), (.n, .e)] ({ tm := [(2, .pv (.bool false))], hp := [], nx := 0 }) [((decide (x7.2 = 0)) = true), ((decide (x7.2 = 0)) = true), ((decide (x7.2 = 0)) = true), ((decide (x8.2.2 = 0)) = false), ((decide (x8.2.2 = 0)) = false), ((decide (x8.2.2 = 0)) = false), (false = false), (false = false), (false = false), (false = false)] (by kernel_rfl) (.cons hg9 (.cons hg9 (.cons hg9 (.cons hg10 (.cons hg10 (.cons hg10 (.cons rfl (.cons rfl (.cons rfl (.cons rfl .nil)))))))))) (Sub.refl _)
        · replace ht := ite_f ht hg9
          have e := Option.some.inj ht
          subst e
          exact RegTo.mk [(.n, .e), (.n, .e), (.n, .e), (.s, .e), (.s, .e), (.n, (.pk false)), (.n, .e), (.s, .e), (.s, .e), (.n, .e), (.n, .e), (.s, .e), (.s, .e), (.s, .e), (.n, .e), (.n, .e), (.s, .e), (.n, .e), (.n, .e)] ({ tm := [(2, .pv (.bool false))], hp := [], nx := 0 }) [((decide (x7.2 = 0)) = false), ((decide (x7.2 = 0)) = false), ((decide (x7.2 = 0)) = false), (false = false), (false = false), (false = false), (false = false), (false = false), (false = false)] (by kernel_rfl) (.cons hg9 (.cons hg9 (.cons hg9 (.cons rfl (.cons rfl (.cons rfl (.cons rfl (.cons rfl (.cons rfl .nil))))))))) (Sub.refl _)
      · clear ht
        refine x_toret ?_
        obtain rfl := Option.some.inj h
        exact x_ret (.bool t15) [] [] (by kernel_rfl) .nil (by decide) (.refl _) (fun _ => rfl)

theorem c8 {l : (List api_Attr)} {from_ : Int} {to : Int} {r : Bool} (h : law22_AttrSelects l from_ to = some r) : CallOK Tryd.prog 8 [.sl (some 3) (List.map enc_api_Attr l), .int .u8 from_, .int .u8 to] (.bool r) true := by
  apply ok8
  unfold law22_AttrSelects at h
  refine x_rg (RegTo.mk [(.n, .e)] ({ tm := [(0, .pv (.sl (some 3) (List.map enc_api_Attr l))), (1, .pv (.int .u8 from_)), (2, .pv (.int .u8 to))], hp := [], nx := 0 }) [] (by kernel_rfl) .nil (Sub.refl _)) ?_
  refine x_seq ?_
  obtain ⟨x1, hx1, h⟩ := bind_some h
  refine x_rg (RegTo.mk [(.n, .e), (.n, (.call [] [.sl (some 3) (List.map enc_api_Attr l)] (.bool x1) true)), (.n, .e)] ({ tm := [(0, .pv (.sl (some 3) (List.map enc_api_Attr l))), (1, .pv (.int .u8 from_)), (2, .pv (.int .u8 to)), (12, .pv (.bool (!x1)))], hp := [], nx := 0 }) [(LesA [.sl (some 3) (List.map enc_api_Attr l)] [.sl (some 3) (List.map enc_api_Attr l)]), (CallOK Tryd.prog 11 [.sl (some 3) (List.map enc_api_Attr l)] (.bool x1) true)] (by kernel_rfl) (.cons (LesA.rfl' _) (.cons (c11 hx1) .nil)) (Sub.refl _)) ?_
  refine x_cond _ rfl (fun hc2 => ?_) (fun hc2 => ?_)
  · replace h := ite_t h hc2
    obtain ⟨x3, hx3, h⟩ := bind_some h
    refine x_rg (RegTo.mk [(.n, (.call [] [] (.bool x3) true)), (.n, .e)] ({ tm := [(6, .pv (.bool x3))], hp := [], nx := 0 }) [(LesA [] []), (CallOK Tryd.prog 12 [] (.bool x3) true)] (by kernel_rfl) (.cons (LesA.rfl' _) (.cons (c12 hx3) .nil)) (Sub.refl _)) ?_
    refine x_toret ?_
    refine x_tr ?_
    obtain rfl := Option.some.inj h
    exact x_ret (.bool x3) [] [] (by kernel_rfl) .nil (by decide) (.refl _) (fun _ => rfl)
  · replace h := ite_f h hc2
    refine x_kw ({ tm := [(0, .pv (.sl (some 3) (List.map enc_api_Attr l))), (1, .pv (.int .u8 from_)), (2, .pv (.int .u8 to))], hp := [], nx := 0 }) (by kernel_rfl) (Sub.refl _) ?_
    refine x_skip ?_
    refine x_tn ?_
    refine x_seq ?_
    obtain ⟨x4, hx4, h⟩ := bind_some h
    refine x_rg (RegTo.mk [(.n, .e), (.n, (.call [] [.sl (some 3) (List.map enc_api_Attr l), .sl (some 3) (List.map enc_api_Attr [])] (.bool x4) true)), (.n, .e)] ({ tm := [(0, .pv (.sl (some 3) (List.map enc_api_Attr l))), (1, .pv (.int .u8 from_)), (2, .pv (.int .u8 to)), (16, .pv (.bool (!x4)))], hp := [], nx := 0 }) [(LesA [.sl (some 3) (List.map enc_api_Attr l), .nilsl] [.sl (some 3) (List.map enc_api_Attr l), .sl (some 3) (List.map enc_api_Attr [])]), (CallOK Tryd.prog 20 [.sl (some 3) (List.map enc_api_Attr l), .sl (some 3) (List.map enc_api_Attr [])] (.bool x4) true)] (by kernel_rfl) (.cons (.cons (.refl _) (.cons (.nilSl _) .nil)) (.cons (c20 hx4) .nil)) (Sub.refl _)) ?_
    refine x_cond _ rfl (fun hc5 => ?_) (fun hc5 => ?_)
    · replace h := ite_t h hc5
      refine x_rg (RegTo.mk [(.n, .e)] ({ tm := [(6, .pv (.bool false))], hp := [], nx := 0 }) [] (by kernel_rfl) .nil (Sub.refl _)) ?_
      refine x_toret ?_
      refine x_tr ?_
      obtain rfl := Option.some.inj h
      exact x_ret (.bool false) [] [] (by kernel_rfl) .nil (by decide) (.refl _) (fun _ => rfl)
    · replace h := ite_f h hc5
      refine x_kw ({ tm := [(0, .pv (.sl (some 3) (List.map enc_api_Attr l))), (1, .pv (.int .u8 from_)), (2, .pv (.int .u8 to))], hp := [], nx := 0 }) (by kernel_rfl) (Sub.refl _) ?_
      refine x_skip ?_
      refine x_tn ?_
      refine x_seq ?_
      refine x_rg (RegTo.mk [(.n, .e), (.n, (.len (List.length l : Int))), (.n, .e)] ({ tm := [(0, .pv (.sl (some 3) (List.map enc_api_Attr l))), (1, .pv (.int .u8 from_)), (2, .pv (.int .u8 to)), (18, .pv (.int .i64 (List.length l : Int))), (19, .pv (.int .i64 0))], hp := [], nx := 0 }) [((List.length (List.map enc_api_Attr l) : Int) = (List.length l : Int))] (by kernel_rfl) (.cons (by rw [List.length_map]) .nil) (Sub.refl _)) ?_
      refine x_block ?_
      refine x_kw ({ tm := [(0, .pv (.sl (some 3) (List.map enc_api_Attr l))), (1, .pv (.int .u8 from_)), (2, .pv (.int .u8 to)), (18, .pv (.int .i64 (List.length l : Int))), (19, .pv (.int .i64 0))], hp := [], nx := 0 }) (by kernel_rfl) (Sub.refl _) ?_
      refine x_loop (σ := Int) h (fun s => { tm := [(0, .pv (.sl (some 3) (List.map enc_api_Attr l))), (1, .pv (.int .u8 from_)), (2, .pv (.int .u8 to)), (18, .pv (.int .i64 (List.length l : Int))), (19, .pv (.int .i64 s))], hp := [], nx := 0 }) (by kernel_rfl) ?_ ?_
      · rintro v10
        kernel_rfl
      · rintro v10 x11 h hx11
        replace h : law22_AttrSelects_L11 l from_ to v10 = some x11 := h
        unfold law22_AttrSelects_L11 at h
        refine x_rg (RegTo.mk [(.n, .e)] ({ tm := [(0, .pv (.sl (some 3) (List.map enc_api_Attr l))), (1, .pv (.int .u8 from_)), (2, .pv (.int .u8 to)), (18, .pv (.int .i64 (List.length l : Int))), (19, .pv (.int .i64 v10)), (20, .pv (.bool (decide (v10 < (List.length l : Int)))))], hp := [], nx := 0 }) [] (by kernel_rfl) .nil (Sub.refl _)) ?_
        refine x_seq ?_
        refine x_cond _ rfl (fun hc12 => ?_) (fun hc12 => ?_)
        · replace h := ite_t h hc12
          refine x_kw ({ tm := [(0, .pv (.sl (some 3) (List.map enc_api_Attr l))), (1, .pv (.int .u8 from_)), (2, .pv (.int .u8 to)), (18, .pv (.int .i64 (List.length l : Int))), (19, .pv (.int .i64 v10))], hp := [], nx := 0 }) (by kernel_rfl) (Sub.refl _) ?_
          refine x_skip ?_
          refine x_tn ?_
          refine x_seq ?_
          refine x_block ?_
          refine x_rg (RegTo.mk [(.n, .e), (.n, .e)] ({ tm := [(0, .pv (.sl (some 3) (List.map enc_api_Attr l))), (1, .pv (.int .u8 from_)), (2, .pv (.int .u8 to)), (7, .pv (.int .i64 v10)), (18, .pv (.int .i64 (List.length l : Int))), (19, .pv (.int .i64 v10))], hp := [], nx := 0 }) [] (by kernel_rfl) .nil (Sub.refl _)) ?_
          obtain ⟨x13, hx13, h⟩ := bind_some h
          refine x_rg (RegTo.mk [(.n, .e), (.n, .e), (.n, (.pAt (enc_api_Attr x13))), (.n, .e), (.n, .e)] ({ tm := [(0, .pv (.sl (some 3) (List.map enc_api_Attr l))), (1, .pv (.int .u8 from_)), (2, .pv (.int .u8 to)), (18, .pv (.int .i64 (List.length l : Int))), (19, .pv (.int .i64 v10)), (26, .pv (.bool x13.Query))], hp := [], nx := 0 }) [(lsAt (List.map enc_api_Attr l) v10 = some (enc_api_Attr x13))] (by kernel_rfl) (.cons (lsAt_map hx13) .nil) (Sub.refl _)) ?_
          refine x_cond _ rfl (fun hc14 => ?_) (fun hc14 => ?_)
          · replace h := ite_t h hc14
            obtain ⟨x15, hx15, h⟩ := bind_some h
            refine x_rg (RegTo.mk [(.n, (.call [] [] (.bool x15) true)), (.n, .e)] ({ tm := [(6, .pv (.bool x15))], hp := [], nx := 0 }) [(LesA [] []), (CallOK Tryd.prog 12 [] (.bool x15) true)] (by kernel_rfl) (.cons (LesA.rfl' _) (.cons (c12 hx15) .nil)) (Sub.refl _)) ?_
            refine x_toret ?_
            refine x_br ?_
            refine x_tr ?_
            refine x_tr ?_
            replace h := done_leaf h hx11
            refine x_br ?_
            refine x_tr ?_
            obtain rfl := Option.some.inj h
            exact x_ret (.bool x15) [] [] (by kernel_rfl) .nil (by decide) (.refl _) (fun _ => rfl)
          · replace h := ite_f h hc14
            refine x_kw ({ tm := [(0, .pv (.sl (some 3) (List.map enc_api_Attr l))), (1, .pv (.int .u8 from_)), (2, .pv (.int .u8 to)), (18, .pv (.int .i64 (List.length l : Int))), (19, .pv (.int .i64 v10))], hp := [], nx := 0 }) (by kernel_rfl) (Sub.refl _) ?_
            refine x_skip ?_
            refine x_bn ?_
            refine x_tn ?_
            refine x_rgt (RegTo.mk [(.n, .e), (.n, .e)] ({ tm := [(0, .pv (.sl (some 3) (List.map enc_api_Attr l))), (1, .pv (.int .u8 from_)), (2, .pv (.int .u8 to)), (18, .pv (.int .i64 (List.length l : Int))), (19, .pv (.int .i64 (IntKind.wrap .i64 (v10 + 1))))], hp := [], nx := 0 }) [] (by kernel_rfl) .nil (Sub.refl _)) ?_
            refine x_tn ?_
            exact ⟨_, (Option.some.inj h).symm, by kernel_rfl⟩
        · replace h := ite_f h hc12
          refine x_kw ({ tm := [(0, .pv (.sl (some 3) (List.map enc_api_Attr l))), (1, .pv (.int .u8 from_)), (2, .pv (.int .u8 to))], hp := [], nx := 0 }) (by kernel_rfl) (Sub.refl _) ?_
          refine x_exit ?_
          refine x_te ?_
          refine x_te ?_
          replace h := done_map h hx11
          unfold law22_AttrSelects_A26 at h
          refine x_bh ?_
          refine x_tn ?_
          refine x_rg (RegTo.mk [(.n, .e), (.n, .e), (.n, .e), (.n, (.len (List.length l : Int))), (.n, .e), (.n, .e), (.n, .e), (.n, .e), (.n, (.len (List.length l : Int))), (.n, .e), (.n, .e), (.n, .e)] ({ tm := [(0, .pv (.sl (some 3) (List.map enc_api_Attr l))), (8, .pv (.int .i64 (min (IntKind.wrap .i64 from_) (List.length l : Int)))), (9, .pv (.int .i64 (min (IntKind.wrap .i64 to) (List.length l : Int))))], hp := [], nx := 0 }) [((List.length (List.map enc_api_Attr l) : Int) = (List.length l : Int)), ((List.length (List.map enc_api_Attr l) : Int) = (List.length l : Int))] (by kernel_rfl) (.cons (by rw [List.length_map]) (.cons (by rw [List.length_map]) .nil)) (Sub.refl _)) ?_
          refine x_seq ?_
          obtain ⟨x16, hx16, h⟩ := bind_some h
          refine x_rg (st2 := { tm := [(0, .pv (.sl (some 3) (List.map enc_api_Attr l))), (8, .pv (.int .i64 (min (IntKind.wrap .i64 from_) (List.length l : Int)))), (9, .pv (.int .i64 (min (IntKind.wrap .i64 to) (List.length l : Int)))), (46, .pv (.bool ((!decide (x16 = 0)) || (decide ((min (IntKind.wrap .i64 to) (List.length l : Int)) < (min (IntKind.wrap .i64 from_) (List.length l : Int)))))))], hp := [], nx := 0 }) ?_ ?_
          · rcases Bool.eq_false_or_eq_true (!decide (x16 = 0)) with hg17 | hg17
            · exact RegTo.mk [(.n, .e), (.n, (.call [] [.sl (some 3) (List.map enc_api_Attr l)] (.int .i64 x16) true)), (.n, .e), (.n, .e), (.s, .e), (.s, .e), (.s, .e), (.n, (.pk true))] ({ tm := [(0, .pv (.sl (some 3) (List.map enc_api_Attr l))), (8, .pv (.int .i64 (min (IntKind.wrap .i64 from_) (List.length l : Int)))), (9, .pv (.int .i64 (min (IntKind.wrap .i64 to) (List.length l : Int)))), (46, .pv (.bool true))], hp := [], nx := 0 }) [(LesA [.sl (some 3) (List.map enc_api_Attr l)] [.sl (some 3) (List.map enc_api_Attr l)]), (CallOK Tryd.prog 14 [.sl (some 3) (List.map enc_api_Attr l)] (.int .i64 x16) true), ((!decide (x16 = 0)) = true), ((!decide (x16 = 0)) = true), ((!decide (x16 = 0)) = true), ((!decide (x16 = 0)) = true)] (by kernel_rfl) (.cons (LesA.rfl' _) (.cons (c14 hx16) (.cons hg17 (.cons hg17 (.cons hg17 (.cons hg17 .nil)))))) (.of_eq (by simp only [hg17, Bool.true_or, Bool.false_or, Bool.true_and, Bool.false_and, Bool.or_true, Bool.or_false, Bool.and_true, Bool.and_false, Bool.false_eq_true, if_true, if_false, reduceIte]))
            · exact RegTo.mk [(.n, .e), (.n, (.call [] [.sl (some 3) (List.map enc_api_Attr l)] (.int .i64 x16) true)), (.n, .e), (.n, .e), (.y, .e), (.y, .e), (.y, .e), (.n, (.pk false))] ({ tm := [(0, .pv (.sl (some 3) (List.map enc_api_Attr l))), (8, .pv (.int .i64 (min (IntKind.wrap .i64 from_) (List.length l : Int)))), (9, .pv (.int .i64 (min (IntKind.wrap .i64 to) (List.length l : Int)))), (46, .pv (.bool (decide ((min (IntKind.wrap .i64 to) (List.length l : Int)) < (min (IntKind.wrap .i64 from_) (List.length l : Int))))))], hp := [], nx := 0 }) [(LesA [.sl (some 3) (List.map enc_api_Attr l)] [.sl (some 3) (List.map enc_api_Attr l)]), (CallOK Tryd.prog 14 [.sl (some 3) (List.map enc_api_Attr l)] (.int .i64 x16) true), ((!decide (x16 = 0)) = false), ((!decide (x16 = 0)) = false), ((!decide (x16 = 0)) = false), ((!decide (x16 = 0)) = false)] (by kernel_rfl) (.cons (LesA.rfl' _) (.cons (c14 hx16) (.cons hg17 (.cons hg17 (.cons hg17 (.cons hg17 .nil)))))) (.of_eq (by simp only [hg17, Bool.true_or, Bool.false_or, Bool.true_and, Bool.false_and, Bool.or_true, Bool.or_false, Bool.and_true, Bool.and_false, Bool.false_eq_true, if_true, if_false, reduceIte]))
          · refine x_cond _ rfl (fun hc19 => ?_) (fun hc19 => ?_)
            · replace h := ite_t h hc19
              obtain ⟨x20, hx20, h⟩ := bind_some h
              refine x_rg (RegTo.mk [(.n, (.call [] [] (.bool x20) true)), (.n, .e)] ({ tm := [(6, .pv (.bool x20))], hp := [], nx := 0 }) [(LesA [] []), (CallOK Tryd.prog 12 [] (.bool x20) true)] (by kernel_rfl) (.cons (LesA.rfl' _) (.cons (c12 hx20) .nil)) (Sub.refl _)) ?_
              refine x_toret ?_
              refine x_tr ?_
              obtain rfl := Option.some.inj h
              exact x_ret (.bool x20) [] [] (by kernel_rfl) .nil (by decide) (.refl _) (fun _ => rfl)
            · replace h := ite_f h hc19
              refine x_kw ({ tm := [(0, .pv (.sl (some 3) (List.map enc_api_Attr l))), (8, .pv (.int .i64 (min (IntKind.wrap .i64 from_) (List.length l : Int)))), (9, .pv (.int .i64 (min (IntKind.wrap .i64 to) (List.length l : Int))))], hp := [], nx := 0 }) (by kernel_rfl) (Sub.refl _) ?_
              refine x_skip ?_
              refine x_tn ?_
              obtain ⟨x21, hx21, h⟩ := bind_some h
              obtain ⟨x22, hx22, h⟩ := bind_some h
              obtain ⟨t25, ht, h⟩ := bind_some h
              refine x_rg (st2 := { tm := [(6, .pv (.bool t25))], hp := [], nx := 0 }) ?_ ?_
              · rcases Bool.eq_false_or_eq_true x22 with hg23 | hg23
                · replace ht := ite_t ht hg23
                  obtain ⟨x24, hx24, ht⟩ := bind_some ht
                  have e := Option.some.inj ht
                  subst e
                  exact RegTo.mk [(.n, .e), (.n, .e), (.n, .e), (.n, .e), (.n, (.cutP (List.map enc_api_Attr x21))), (.n, (.call [] [.sl (some 3) (List.map enc_api_Attr l), .sl (some 3) (List.map enc_api_Attr x21)] (.bool x22) true)), (.n, .e), (.y, (.call [] [] (.bool x24) true)), (.n, (.pk true)), (.n, .e)] ({ tm := [(6, .pv (.bool x24))], hp := [], nx := 0 }) [(cut (List.map enc_api_Attr l) (min (IntKind.wrap .i64 from_) (List.length l : Int)) (min (IntKind.wrap .i64 to) (List.length l : Int)) = some (List.map enc_api_Attr x21)), (LesA [.sl (some 3) (List.map enc_api_Attr l), .sl (some 3) (List.map enc_api_Attr x21)] [.sl (some 3) (List.map enc_api_Attr l), .sl (some 3) (List.map enc_api_Attr x21)]), (CallOK Tryd.prog 20 [.sl (some 3) (List.map enc_api_Attr l), .sl (some 3) (List.map enc_api_Attr x21)] (.bool x22) true), (x22 = true), (LesA [] []), (CallOK Tryd.prog 12 [] (.bool x24) true), (x22 = true)] (by kernel_rfl) (.cons (cut_map hx21) (.cons (LesA.rfl' _) (.cons (c20 hx22) (.cons hg23 (.cons (LesA.rfl' _) (.cons (c12 hx24) (.cons hg23 .nil))))))) (Sub.refl _)
                · replace ht := ite_f ht hg23
                  have e := Option.some.inj ht
                  subst e
                  exact RegTo.mk [(.n, .e), (.n, .e), (.n, .e), (.n, .e), (.n, (.cutP (List.map enc_api_Attr x21))), (.n, (.call [] [.sl (some 3) (List.map enc_api_Attr l), .sl (some 3) (List.map enc_api_Attr x21)] (.bool x22) true)), (.n, .e), (.s, .e), (.n, (.pk false)), (.n, .e)] ({ tm := [(6, .pv (.bool false))], hp := [], nx := 0 }) [(cut (List.map enc_api_Attr l) (min (IntKind.wrap .i64 from_) (List.length l : Int)) (min (IntKind.wrap .i64 to) (List.length l : Int)) = some (List.map enc_api_Attr x21)), (LesA [.sl (some 3) (List.map enc_api_Attr l), .sl (some 3) (List.map enc_api_Attr x21)] [.sl (some 3) (List.map enc_api_Attr l), .sl (some 3) (List.map enc_api_Attr x21)]), (CallOK Tryd.prog 20 [.sl (some 3) (List.map enc_api_Attr l), .sl (some 3) (List.map enc_api_Attr x21)] (.bool x22) true), (x22 = false), (x22 = false)] (by kernel_rfl) (.cons (cut_map hx21) (.cons (LesA.rfl' _) (.cons (c20 hx22) (.cons hg23 (.cons hg23 .nil))))) (Sub.refl _)
              · clear ht
                refine x_toret ?_
                obtain rfl := Option.some.inj h
                exact x_ret (.bool t25) [] [] (by kernel_rfl) .nil (by decide) (.refl _) (fun _ => rfl)

theorem c26 {l : (List api_Attr)} {name : Str} {value : Str} {r : (List api_Attr)} (h : attr_Set l name value = some r) : CallOK Tryd.prog 26 [.sl (some 3) (List.map enc_api_Attr l), .str name, .str value] (.usl (some 3) (List.map enc_api_Attr r)) true := by
  apply ok26
  unfold attr_Set at h
  refine x_rg (RegTo.mk [(.n, .e)] ({ tm := [(0, .pv (.sl (some 3) (List.map enc_api_Attr l))), (1, .pv (.str name)), (2, .pv (.str value))], hp := [], nx := 0 }) [] (by kernel_rfl) .nil (Sub.refl _)) ?_
  obtain ⟨x1, hx1, h⟩ := bind_some h
  refine x_rg (RegTo.mk [(.n, .e), (.n, (.call [] [.sl (some 3) (List.map enc_api_Attr l)] (.usl (some 3) (List.map enc_api_Attr x1)) true)), (.n, .e)] ({ tm := [(1, .pv (.str name)), (2, .pv (.str value)), (7, .osl 0 0 (List.map enc_api_Attr x1).length)], hp := [(0, some (.p (some 3) (List.map enc_api_Attr x1)))], nx := 1 }) [(LesA [.sl (some 3) (List.map enc_api_Attr l)] [.sl (some 3) (List.map enc_api_Attr l)]), (CallOK Tryd.prog 40 [.sl (some 3) (List.map enc_api_Attr l)] (.usl (some 3) (List.map enc_api_Attr x1)) true)] (by kernel_rfl) (.cons (LesA.rfl' _) (.cons (c40 hx1) .nil)) (Sub.refl _)) ?_
  refine x_seq ?_
  obtain ⟨x2, hx2, h⟩ := bind_some h
  refine x_rg (RegTo.mk [(.n, .e), (.n, .e), (.n, (.call [] [.sl (some 3) (List.map enc_api_Attr x1), .str name] (.int .i64 x2) true)), (.n, .e)] ({ tm := [(1, .pv (.str name)), (2, .pv (.str value)), (7, .osl 0 0 (List.map enc_api_Attr x1).length), (8, .pv (.int .i64 x2))], hp := [(0, some (.p (some 3) (List.map enc_api_Attr x1)))], nx := 1 }) [(LesA [.sl (some 3) (List.take (List.map enc_api_Attr x1).length (List.drop 0 (List.map enc_api_Attr x1))), .str name] [.sl (some 3) (List.map enc_api_Attr x1), .str name]), (CallOK Tryd.prog 44 [.sl (some 3) (List.map enc_api_Attr x1), .str name] (.int .i64 x2) true), (0 + (List.map enc_api_Attr x1).length ≤ List.length (List.map enc_api_Attr x1))] (by kernel_rfl) (.cons (.cons (.of_eq (by rw [List.drop_zero, List.take_length])) (.cons (.refl _) .nil)) (.cons (c44 hx2) (.cons (by simp) .nil))) (Sub.refl _)) ?_
  refine x_rg (RegTo.mk [(.n, .e), (.n, .e)] ({ tm := [(1, .pv (.str name)), (2, .pv (.str value)), (7, .osl 0 0 (List.map enc_api_Attr x1).length), (8, .pv (.int .i64 x2)), (15, .pv (.bool (decide (0 ≤ x2))))], hp := [(0, some (.p (some 3) (List.map enc_api_Attr x1)))], nx := 1 }) [] (by kernel_rfl) .nil (Sub.refl _)) ?_
  refine x_cond _ rfl (fun hc3 => ?_) (fun hc3 => ?_)
  · replace h := ite_t h hc3
    obtain ⟨x4, hx4, h⟩ := bind_some h
    refine x_rg (st2 := { tm := [(7, .osl 0 0 (List.map enc_api_Attr (List.set x1 (Int.toNat x2) (api_Attr.mk x4.Name value x4.Query))).length)], hp := [(0, some (.p (some 3) (List.map enc_api_Attr (List.set x1 (Int.toNat x2) (api_Attr.mk x4.Name value x4.Query)))))], nx := 1 }) (RegTo.mk [(.n, .e), (.n, .e), (.n, .e), (.n, .rAt), (.n, .e), (.n, (.set (enc_api_Attr x4) (List.map enc_api_Attr (List.set x1 (Int.toNat x2) (api_Attr.mk x4.Name value x4.Query)))))] ({ tm := [(7, .osl 0 0 (List.map enc_api_Attr x1).length)], hp := [(0, some (.p (some 3) (List.map enc_api_Attr (List.set x1 (Int.toNat x2) (api_Attr.mk x4.Name value x4.Query)))))], nx := 1 }) [(0 ≤ (x2 : Int) ∧ Int.toNat x2 < (List.map enc_api_Attr x1).length), ((List.map enc_api_Attr x1)[(0 + Int.toNat x2)]? = some (enc_api_Attr x4)), (List.set (List.map enc_api_Attr x1) (0 + Int.toNat x2) (.agg [.str x4.Name, .str value, .bool x4.Query]) = (List.map enc_api_Attr (List.set x1 (Int.toNat x2) (api_Attr.mk x4.Name value x4.Query))))] (by kernel_rfl) (.cons (rAt_ob hx4 (by simp)) (.cons (ownAt hx4) (.cons (by rw [Nat.zero_add, List.map_set]; try rfl) .nil))) (Sub.of_eq (by simp only [List.length_map, List.length_set]))) ?_
    refine x_rg (RegTo.mk [(.n, .e), (.n, .e)] ({ tm := [(6, .osl 0 0 (List.map enc_api_Attr (List.set x1 (Int.toNat x2) (api_Attr.mk x4.Name value x4.Query))).length)], hp := [(0, some (.p (some 3) (List.map enc_api_Attr (List.set x1 (Int.toNat x2) (api_Attr.mk x4.Name value x4.Query)))))], nx := 1 }) [] (by kernel_rfl) .nil (Sub.refl _)) ?_
    refine x_toret ?_
    refine x_tr ?_
    obtain rfl := Option.some.inj h
    exact x_ret (.usl (some 3) (List.take (List.map enc_api_Attr (List.set x1 (Int.toNat x2) (api_Attr.mk x4.Name value x4.Query))).length (List.map enc_api_Attr (List.set x1 (Int.toNat x2) (api_Attr.mk x4.Name value x4.Query))))) [0] [(List.map enc_api_Attr (List.set x1 (Int.toNat x2) (api_Attr.mk x4.Name value x4.Query))).length ≤ List.length (List.map enc_api_Attr (List.set x1 (Int.toNat x2) (api_Attr.mk x4.Name value x4.Query)))] (by kernel_rfl) (.cons (Nat.le_refl _) .nil) (by decide) (.of_eq (by rw [List.take_length])) (fun _ => (usl_ns (sh := (some 3)) (fun _ => rfl)))
  · replace h := ite_f h hc3
    refine x_kw ({ tm := [(1, .pv (.str name)), (2, .pv (.str value)), (7, .osl 0 0 (List.map enc_api_Attr x1).length)], hp := [(0, some (.p (some 3) (List.map enc_api_Attr x1)))], nx := 1 }) (by kernel_rfl) (Sub.refl _) ?_
    refine x_skip ?_
    refine x_tn ?_
    obtain ⟨x5, hx5, h⟩ := bind_some h
    refine x_rg (RegTo.mk [(.n, .e), (.n, .e), (.n, .e), (.n, .e), (.n, .e), (.n, (.app (List.map enc_api_Attr x5))), (.n, .e)] ({ tm := [(6, .osl 0 0 (List.map enc_api_Attr x5).length)], hp := [(0, some (.p (some 3) (List.map enc_api_Attr x5)))], nx := 1 }) [(List.take (List.map enc_api_Attr x1).length (List.map enc_api_Attr x1) ++ List.take 1 (List.drop 0 ([.agg [.str name, .str value, .bool false]] : List PV)) = (List.map enc_api_Attr x5)), (List.length (List.map enc_api_Attr x5) * 40 ≤ 140737488355328), (List.length (List.map enc_api_Attr x5) ≤ 9223372036854775807), ((List.map enc_api_Attr x1).length ≤ List.length (List.map enc_api_Attr x1)), (0 + 1 ≤ List.length ([.agg [.str name, .str value, .bool false]] : List PV))] (by kernel_rfl) (.cons (app_ob hx5 (.all _) (.rfl _)) (.cons (by rw [List.length_map]; exact (appL_ok hx5).2.1) (.cons (by rw [List.length_map]; exact (appL_ok hx5).2.2) (.cons (Nat.le_refl _) (.cons (by simp) .nil))))) (Sub.refl _)) ?_
    refine x_toret ?_
    obtain rfl := Option.some.inj h
    exact x_ret (.usl (some 3) (List.take (List.map enc_api_Attr x5).length (List.map enc_api_Attr x5))) [0] [(List.map enc_api_Attr x5).length ≤ List.length (List.map enc_api_Attr x5)] (by kernel_rfl) (.cons (Nat.le_refl _) .nil) (by decide) (.of_eq (by rw [List.take_length])) (fun _ => (usl_ns (sh := (some 3)) (fun _ => rfl)))

theorem c27 {l : (List api_Attr)} {name : Str} {value : Str} {r : (List api_Attr)} (h : ref22_Set l name value = some r) : CallOK Tryd.prog 27 [.sl (some 3) (List.map enc_api_Attr l), .str name, .str value] (.usl (some 3) (List.map enc_api_Attr r)) true := by
  apply ok27
  unfold ref22_Set at h
  refine x_rg (RegTo.mk [(.n, .e)] ({ tm := [(0, .pv (.sl (some 3) (List.map enc_api_Attr l))), (1, .pv (.str name)), (2, .pv (.str value))], hp := [], nx := 0 }) [] (by kernel_rfl) .nil (Sub.refl _)) ?_
  refine x_rg (st2 := { tm := [(0, .pv (.sl (some 3) (List.map enc_api_Attr l))), (1, .pv (.str name)), (2, .pv (.str value)), (7, .osl 0 0 (List.map enc_api_Attr ([] : List api_Attr)).length)], hp := [(0, some (.p (some 3) (List.map enc_api_Attr ([] : List api_Attr))))], nx := 1 }) (RegTo.mk [(.n, .e)] ({ tm := [(0, .pv (.sl (some 3) (List.map enc_api_Attr l))), (1, .pv (.str name)), (2, .pv (.str value)), (7, .pv (.nilsl))], hp := [], nx := 0 }) [] (by kernel_rfl) .nil ((Sub.keep (ks := [0, 1, 2, 7]) (st := ownSt 7 (some 3) ({ tm := [(0, .pv (.sl (some 3) (List.map enc_api_Attr l))), (1, .pv (.str name)), (2, .pv (.str value)), (7, .pv (.nilsl))], hp := [], nx := 0 })) (st' := { tm := [(0, .pv (.sl (some 3) (List.map enc_api_Attr l))), (1, .pv (.str name)), (2, .pv (.str value)), (7, .osl 0 0 (List.map enc_api_Attr ([] : List api_Attr)).length)], hp := [(0, some (.p (some 3) (List.map enc_api_Attr ([] : List api_Attr))))], nx := 1 }) (by kernel_rfl)).trans (own_sound 7 (some 3) ({ tm := [(0, .pv (.sl (some 3) (List.map enc_api_Attr l))), (1, .pv (.str name)), (2, .pv (.str value)), (7, .pv (.nilsl))], hp := [], nx := 0 })))) ?_
  refine x_rg (RegTo.mk [(.n, .e)] ({ tm := [(0, .pv (.sl (some 3) (List.map enc_api_Attr l))), (1, .pv (.str name)), (2, .pv (.str value)), (7, .osl 0 0 (List.map enc_api_Attr ([] : List api_Attr)).length), (8, .pv (.bool false))], hp := [(0, some (.p (some 3) (List.map enc_api_Attr ([] : List api_Attr))))], nx := 1 }) [] (by kernel_rfl) .nil (Sub.refl _)) ?_
  refine x_seq ?_
  refine x_rg (RegTo.mk [(.n, .e)] ({ tm := [(0, .pv (.sl (some 3) (List.map enc_api_Attr l))), (1, .pv (.str name)), (2, .pv (.str value)), (7, .osl 0 0 (List.map enc_api_Attr ([] : List api_Attr)).length), (8, .pv (.bool false)), (9, .pv (.int .i64 0))], hp := [(0, some (.p (some 3) (List.map enc_api_Attr ([] : List api_Attr))))], nx := 1 }) [] (by kernel_rfl) .nil (Sub.refl _)) ?_
  refine x_block ?_
  refine x_kw ({ tm := [(0, .pv (.sl (some 3) (List.map enc_api_Attr l))), (1, .pv (.str name)), (2, .pv (.str value)), (7, .osl 0 0 (List.map enc_api_Attr ([] : List api_Attr)).length), (8, .pv (.bool false)), (9, .pv (.int .i64 0))], hp := [(0, some (.p (some 3) (List.map enc_api_Attr ([] : List api_Attr))))], nx := 1 }) (by kernel_rfl) (Sub.refl _) ?_
  refine x_loop (σ := (Bool × Int × (List api_Attr))) h (fun s => { tm := [(0, .pv (.sl (some 3) (List.map enc_api_Attr l))), (1, .pv (.str name)), (2, .pv (.str value)), (7, .osl 0 0 (List.map enc_api_Attr s.2.2).length), (8, .pv (.bool s.1)), (9, .pv (.int .i64 s.2.1))], hp := [(0, some (.p (some 3) (List.map enc_api_Attr s.2.2)))], nx := 1 }) (by kernel_rfl) ?_ ?_
  · rintro ⟨done, i, out⟩
    kernel_rfl
  · rintro ⟨done, i, out⟩ x13 h hx13
    replace h : ref22_Set_L13 l name value done i out = some x13 := h
    unfold ref22_Set_L13 at h
    refine x_seq ?_
    refine x_rg (RegTo.mk [(.n, .e), (.n, .e), (.n, (.len (List.length l : Int))), (.n, .e)] ({ tm := [(0, .pv (.sl (some 3) (List.map enc_api_Attr l))), (1, .pv (.str name)), (2, .pv (.str value)), (7, .osl 0 0 (List.map enc_api_Attr out).length), (8, .pv (.bool done)), (9, .pv (.int .i64 i)), (14, .pv (.bool (decide (i < (List.length l : Int)))))], hp := [(0, some (.p (some 3) (List.map enc_api_Attr out)))], nx := 1 }) [((List.length (List.map enc_api_Attr l) : Int) = (List.length l : Int))] (by kernel_rfl) (.cons (by rw [List.length_map]) .nil) (Sub.refl _)) ?_
    refine x_cond _ rfl (fun hc14 => ?_) (fun hc14 => ?_)
    · replace h := ite_t h hc14
      refine x_kw ({ tm := [(0, .pv (.sl (some 3) (List.map enc_api_Attr l))), (1, .pv (.str name)), (2, .pv (.str value)), (7, .osl 0 0 (List.map enc_api_Attr out).length), (8, .pv (.bool done)), (9, .pv (.int .i64 i))], hp := [(0, some (.p (some 3) (List.map enc_api_Attr out)))], nx := 1 }) (by kernel_rfl) (Sub.refl _) ?_
      refine x_skip ?_
      refine x_tn ?_
      refine x_seq ?_
      refine x_block ?_
      obtain ⟨x15, hx15, h⟩ := bind_some h
      refine x_rg (RegTo.mk [(.n, .e), (.n, .e), (.n, (.pAt (enc_api_Attr x15))), (.n, .e), (.n, .e), (.n, .e)] ({ tm := [(0, .pv (.sl (some 3) (List.map enc_api_Attr l))), (1, .pv (.str name)), (2, .pv (.str value)), (7, .osl 0 0 (List.map enc_api_Attr out).length), (8, .pv (.bool done)), (9, .pv (.int .i64 i)), (10, .optr 1 0 0)], hp := [(0, some (.p (some 3) (List.map enc_api_Attr out))), (1, some (.p (some 3) [enc_api_Attr x15]))], nx := 2 }) [(lsAt (List.map enc_api_Attr l) i = some (enc_api_Attr x15))] (by kernel_rfl) (.cons (lsAt_map hx15) .nil) (Sub.refl _)) ?_
      refine x_join (τ := (Bool × api_Attr)) (fun t => ref22_Set_K16 i out t.1 t.2 = some x13) (fun t => { tm := [(0, .pv (.sl (some 3) (List.map enc_api_Attr l))), (1, .pv (.str name)), (2, .pv (.str value)), (7, .osl 0 0 (List.map enc_api_Attr out).length), (8, .pv (.bool t.1)), (9, .pv (.int .i64 i)), (10, .optr 1 0 0)], hp := [(0, some (.p (some 3) (List.map enc_api_Attr out))), (1, some (.p (some 3) [enc_api_Attr t.2]))], nx := 2 }) ?_ ?_
      · rintro ⟨p17, p18⟩ h
        replace h : ref22_Set_K16 i out p17 p18 = some x13 := h
        unfold ref22_Set_K16 at h
        obtain ⟨x19, hx19, h⟩ := bind_some h
        refine x_rgt (RegTo.mk [(.n, .e), (.n, .e), (.n, .e), (.n, (.app (List.map enc_api_Attr x19))), (.n, .e)] ({ tm := [(0, .pv (.sl (some 3) (List.map enc_api_Attr l))), (1, .pv (.str name)), (2, .pv (.str value)), (7, .osl 0 0 (List.map enc_api_Attr x19).length), (8, .pv (.bool p17)), (9, .pv (.int .i64 i))], hp := [(0, some (.p (some 3) (List.map enc_api_Attr x19)))], nx := 1 }) [(List.take (List.map enc_api_Attr out).length (List.map enc_api_Attr out) ++ List.take 1 (List.drop 0 ([enc_api_Attr p18] : List PV)) = (List.map enc_api_Attr x19)), (List.length (List.map enc_api_Attr x19) * 40 ≤ 140737488355328), (List.length (List.map enc_api_Attr x19) ≤ 9223372036854775807), ((List.map enc_api_Attr out).length ≤ List.length (List.map enc_api_Attr out)), (0 + 1 ≤ List.length ([enc_api_Attr p18] : List PV))] (by kernel_rfl) (.cons (app_ob hx19 (.all _) (.rfl _)) (.cons (by rw [List.length_map]; exact (appL_ok hx19).2.1) (.cons (by rw [List.length_map]; exact (appL_ok hx19).2.2) (.cons (Nat.le_refl _) (.cons (by simp) .nil))))) (Sub.refl _)) ?_
        refine x_bn ?_
        refine x_tn ?_
        refine x_rgt (RegTo.mk [(.n, .e), (.n, .e), (.n, .e)] ({ tm := [(0, .pv (.sl (some 3) (List.map enc_api_Attr l))), (1, .pv (.str name)), (2, .pv (.str value)), (7, .osl 0 0 (List.map enc_api_Attr x19).length), (8, .pv (.bool p17)), (9, .pv (.int .i64 (IntKind.wrap .i64 (i + 1))))], hp := [(0, some (.p (some 3) (List.map enc_api_Attr x19)))], nx := 1 }) [] (by kernel_rfl) .nil (Sub.refl _)) ?_
        refine x_tn ?_
        exact ⟨_, (Option.some.inj h).symm, by kernel_rfl⟩
      · refine x_rg (st2 := { tm := [(0, .pv (.sl (some 3) (List.map enc_api_Attr l))), (1, .pv (.str name)), (2, .pv (.str value)), (7, .osl 0 0 (List.map enc_api_Attr out).length), (8, .pv (.bool done)), (9, .pv (.int .i64 i)), (10, .optr 1 0 0), (33, .pv (.bool ((!done) && ((decide (x15.Name = name)) && (!x15.Query)))))], hp := [(0, some (.p (some 3) (List.map enc_api_Attr out))), (1, some (.p (some 3) [enc_api_Attr x15]))], nx := 2 }) ?_ ?_
        · rcases Bool.eq_false_or_eq_true (!done) with hg20 | hg20
          · rcases Bool.eq_false_or_eq_true (decide (x15.Name = name)) with hg21 | hg21
            · exact RegTo.mk [(.n, .e), (.n, .e), (.n, .e), (.y, .e), (.y, .e), (.y, .e), (.y, .e), (.n, (.pk true)), (.n, .e), (.y, .e), (.y, .e), (.y, .e), (.n, (.pk true))] ({ tm := [(0, .pv (.sl (some 3) (List.map enc_api_Attr l))), (1, .pv (.str name)), (2, .pv (.str value)), (7, .osl 0 0 (List.map enc_api_Attr out).length), (8, .pv (.bool done)), (9, .pv (.int .i64 i)), (10, .optr 1 0 0), (33, .pv (.bool (!x15.Query)))], hp := [(0, some (.p (some 3) (List.map enc_api_Attr out))), (1, some (.p (some 3) [enc_api_Attr x15]))], nx := 2 }) [((!done) = true), ((!done) = true), ((!done) = true), ((!done) = true), ((!done) = true), ((decide (x15.Name = name)) = true), ((decide (x15.Name = name)) = true), ((decide (x15.Name = name)) = true), ((decide (x15.Name = name)) = true)] (by kernel_rfl) (.cons hg20 (.cons hg20 (.cons hg20 (.cons hg20 (.cons hg20 (.cons hg21 (.cons hg21 (.cons hg21 (.cons hg21 .nil))))))))) (.of_eq (by simp only [hg20, hg21, Bool.true_or, Bool.false_or, Bool.true_and, Bool.false_and, Bool.or_true, Bool.or_false, Bool.and_true, Bool.and_false, Bool.false_eq_true, if_true, if_false, reduceIte]))
            · exact RegTo.mk [(.n, .e), (.n, .e), (.n, .e), (.y, .e), (.y, .e), (.y, .e), (.y, .e), (.n, (.pk true)), (.n, .e), (.s, .e), (.s, .e), (.s, .e), (.n, (.pk false))] ({ tm := [(0, .pv (.sl (some 3) (List.map enc_api_Attr l))), (1, .pv (.str name)), (2, .pv (.str value)), (7, .osl 0 0 (List.map enc_api_Attr out).length), (8, .pv (.bool done)), (9, .pv (.int .i64 i)), (10, .optr 1 0 0), (33, .pv (.bool false))], hp := [(0, some (.p (some 3) (List.map enc_api_Attr out))), (1, some (.p (some 3) [enc_api_Attr x15]))], nx := 2 }) [((!done) = true), ((!done) = true), ((!done) = true), ((!done) = true), ((!done) = true), ((decide (x15.Name = name)) = false), ((decide (x15.Name = name)) = false), ((decide (x15.Name = name)) = false), ((decide (x15.Name = name)) = false)] (by kernel_rfl) (.cons hg20 (.cons hg20 (.cons hg20 (.cons hg20 (.cons hg20 (.cons hg21 (.cons hg21 (.cons hg21 (.cons hg21 .nil))))))))) (.of_eq (by simp only [hg20, hg21, Bool.true_or, Bool.false_or, Bool.true_and, Bool.false_and, Bool.or_true, Bool.or_false, Bool.and_true, Bool.and_false, Bool.false_eq_true, if_true, if_false, reduceIte]))
          · exact RegTo.mk [(.n, .e), (.n, .e), (.n, .e), (.s, .e), (.s, .e), (.s, .e), (.s, .e), (.n, (.pk false)), (.n, .e), (.s, .e), (.s, .e), (.s, .e), (.n, .e)] ({ tm := [(0, .pv (.sl (some 3) (List.map enc_api_Attr l))), (1, .pv (.str name)), (2, .pv (.str value)), (7, .osl 0 0 (List.map enc_api_Attr out).length), (8, .pv (.bool done)), (9, .pv (.int .i64 i)), (10, .optr 1 0 0), (33, .pv (.bool false))], hp := [(0, some (.p (some 3) (List.map enc_api_Attr out))), (1, some (.p (some 3) [enc_api_Attr x15]))], nx := 2 }) [((!done) = false), ((!done) = false), ((!done) = false), ((!done) = false), ((!done) = false), (false = false), (false = false), (false = false)] (by kernel_rfl) (.cons hg20 (.cons hg20 (.cons hg20 (.cons hg20 (.cons hg20 (.cons rfl (.cons rfl (.cons rfl .nil)))))))) (.of_eq (by simp only [hg20, Bool.true_or, Bool.false_or, Bool.true_and, Bool.false_and, Bool.or_true, Bool.or_false, Bool.and_true, Bool.and_false, Bool.false_eq_true, if_true, if_false, reduceIte]))
        · refine x_cond _ rfl (fun hc23 => ?_) (fun hc23 => ?_)
          · replace h := ite_t h hc23
            refine x_rg (RegTo.mk [(.n, .e), (.n, .e), (.n, .e)] ({ tm := [(0, .pv (.sl (some 3) (List.map enc_api_Attr l))), (1, .pv (.str name)), (2, .pv (.str value)), (7, .osl 0 0 (List.map enc_api_Attr out).length), (9, .pv (.int .i64 i)), (10, .optr 1 0 0)], hp := [(0, some (.p (some 3) (List.map enc_api_Attr out))), (1, some (.p (some 3) [.agg [.str x15.Name, .str value, .bool x15.Query]]))], nx := 2 }) [] (by kernel_rfl) .nil (Sub.refl _)) ?_
            refine x_rgt (RegTo.mk [(.n, .e)] ({ tm := [(0, .pv (.sl (some 3) (List.map enc_api_Attr l))), (1, .pv (.str name)), (2, .pv (.str value)), (7, .osl 0 0 (List.map enc_api_Attr out).length), (8, .pv (.bool true)), (9, .pv (.int .i64 i)), (10, .optr 1 0 0)], hp := [(0, some (.p (some 3) (List.map enc_api_Attr out))), (1, some (.p (some 3) [.agg [.str x15.Name, .str value, .bool x15.Query]]))], nx := 2 }) [] (by kernel_rfl) .nil (Sub.refl _)) ?_
            refine x_tn ?_
            exact ⟨(true, (api_Attr.mk x15.Name value x15.Query)), h, by kernel_rfl⟩
          · replace h := ite_f h hc23
            refine x_kw ({ tm := [(0, .pv (.sl (some 3) (List.map enc_api_Attr l))), (1, .pv (.str name)), (2, .pv (.str value)), (7, .osl 0 0 (List.map enc_api_Attr out).length), (8, .pv (.bool done)), (9, .pv (.int .i64 i)), (10, .optr 1 0 0)], hp := [(0, some (.p (some 3) (List.map enc_api_Attr out))), (1, some (.p (some 3) [enc_api_Attr x15]))], nx := 2 }) (by kernel_rfl) (Sub.refl _) ?_
            refine x_skip ?_
            refine x_tn ?_
            exact ⟨(done, x15), h, by kernel_rfl⟩
    · replace h := ite_f h hc14
      refine x_kw ({ tm := [(1, .pv (.str name)), (2, .pv (.str value)), (7, .osl 0 0 (List.map enc_api_Attr out).length), (8, .pv (.bool done))], hp := [(0, some (.p (some 3) (List.map enc_api_Attr out)))], nx := 1 }) (by kernel_rfl) (Sub.refl _) ?_
      refine x_exit ?_
      refine x_te ?_
      refine x_te ?_
      replace h := done_map h hx13
      unfold ref22_Set_A26 at h
      refine x_bh ?_
      refine x_tn ?_
      refine x_seq ?_
      refine x_rg (RegTo.mk [(.n, .e), (.n, .e)] ({ tm := [(1, .pv (.str name)), (2, .pv (.str value)), (7, .osl 0 0 (List.map enc_api_Attr out).length), (41, .pv (.bool (!done)))], hp := [(0, some (.p (some 3) (List.map enc_api_Attr out)))], nx := 1 }) [] (by kernel_rfl) .nil (Sub.refl _)) ?_
      refine x_cond _ rfl (fun hc24 => ?_) (fun hc24 => ?_)
      · replace h := ite_t h hc24
        obtain ⟨x25, hx25, h⟩ := bind_some h
        refine x_rgt (RegTo.mk [(.n, .e), (.n, .e), (.n, .e), (.n, .e), (.n, .e), (.n, (.app (List.map enc_api_Attr x25))), (.n, .e)] ({ tm := [(7, .osl 0 0 (List.map enc_api_Attr x25).length)], hp := [(0, some (.p (some 3) (List.map enc_api_Attr x25)))], nx := 1 }) [(List.take (List.map enc_api_Attr out).length (List.map enc_api_Attr out) ++ List.take 1 (List.drop 0 ([.agg [.str name, .str value, .bool false]] : List PV)) = (List.map enc_api_Attr x25)), (List.length (List.map enc_api_Attr x25) * 40 ≤ 140737488355328), (List.length (List.map enc_api_Attr x25) ≤ 9223372036854775807), ((List.map enc_api_Attr out).length ≤ List.length (List.map enc_api_Attr out)), (0 + 1 ≤ List.length ([.agg [.str name, .str value, .bool false]] : List PV))] (by kernel_rfl) (.cons (app_ob hx25 (.all _) (.rfl _)) (.cons (by rw [List.length_map]; exact (appL_ok hx25).2.1) (.cons (by rw [List.length_map]; exact (appL_ok hx25).2.2) (.cons (Nat.le_refl _) (.cons (by simp) .nil))))) (Sub.refl _)) ?_
        refine x_tn ?_
        refine x_rg (RegTo.mk [(.n, .e), (.n, .e)] ({ tm := [(6, .osl 0 0 (List.map enc_api_Attr x25).length)], hp := [(0, some (.p (some 3) (List.map enc_api_Attr x25)))], nx := 1 }) [] (by kernel_rfl) .nil (Sub.refl _)) ?_
        refine x_toret ?_
        obtain rfl := Option.some.inj h
        exact x_ret (.usl (some 3) (List.take (List.map enc_api_Attr x25).length (List.map enc_api_Attr x25))) [0] [(List.map enc_api_Attr x25).length ≤ List.length (List.map enc_api_Attr x25)] (by kernel_rfl) (.cons (Nat.le_refl _) .nil) (by decide) (.of_eq (by rw [List.take_length])) (fun _ => (usl_ns (sh := (some 3)) (fun _ => rfl)))
      · replace h := ite_f h hc24
        refine x_kw ({ tm := [(7, .osl 0 0 (List.map enc_api_Attr out).length)], hp := [(0, some (.p (some 3) (List.map enc_api_Attr out)))], nx := 1 }) (by kernel_rfl) (Sub.refl _) ?_
        refine x_skip ?_
        refine x_tn ?_
        refine x_rg (RegTo.mk [(.n, .e), (.n, .e)] ({ tm := [(6, .osl 0 0 (List.map enc_api_Attr out).length)], hp := [(0, some (.p (some 3) (List.map enc_api_Attr out)))], nx := 1 }) [] (by kernel_rfl) .nil (Sub.refl _)) ?_
        refine x_toret ?_
        obtain rfl := Option.some.inj h
        exact x_ret (.usl (some 3) (List.take (List.map enc_api_Attr out).length (List.map enc_api_Attr out))) [0] [(List.map enc_api_Attr out).length ≤ List.length (List.map enc_api_Attr out)] (by kernel_rfl) (.cons (Nat.le_refl _) .nil) (by decide) (.of_eq (by rw [List.take_length])) (fun _ => (usl_ns (sh := (some 3)) (fun _ => rfl)))

theorem c45 {a : api_Attr} {a1 : Str} {r : Bool} (h : attr_Without_1 a a1 = some r) : CallOK Tryd.prog 45 [enc_api_Attr a, .rptr none (.str a1) 0] (.bool r) true := by
  apply ok45
  unfold attr_Without_1 at h
  refine x_rg (RegTo.mk [(.n, .e), (.n, .e)] ({ tm := [(1, .pv (.rptr none (.str a1) 0)), (2, .optr 0 0 0)], hp := [(0, some (.p (some 3) [enc_api_Attr a]))], nx := 1 }) [] (by kernel_rfl) .nil (Sub.refl _)) ?_
  refine x_rg (RegTo.mk [(.n, .e), (.n, .e), (.n, .e), (.n, .e), (.n, .e)] ({ tm := [(3, .pv (.bool (decide (a.Name = a1))))], hp := [], nx := 0 }) [] (by kernel_rfl) .nil (Sub.refl _)) ?_
  refine x_toret ?_
  obtain rfl := Option.some.inj h
  exact x_ret (.bool (decide (a.Name = a1))) [] [] (by kernel_rfl) .nil (by decide) (.refl _) (fun _ => rfl)

theorem c60_f45 {s_ : (List api_Attr)} {f : Str} {r : Int} (h : slices_IndexFunc_api_Attr_api_Attr_f45 s_ f = some r) : CallOK Tryd.prog 60 [.sl (some 3) (List.map enc_api_Attr s_), .fn 45 [.rptr none (.str f) 0]] (.int .i64 r) true := by
  apply ok60
  unfold slices_IndexFunc_api_Attr_api_Attr_f45 at h
  refine x_rg (RegTo.mk [(.n, .e)] ({ tm := [(0, .pv (.sl (some 3) (List.map enc_api_Attr s_))), (1, .pv (.fn 45 [.rptr none (.str f) 0]))], hp := [], nx := 0 }) [] (by kernel_rfl) .nil (Sub.refl _)) ?_
  refine x_seq ?_
  refine x_rg (RegTo.mk [(.n, .e), (.n, (.len (List.length s_ : Int))), (.n, .e)] ({ tm := [(0, .pv (.sl (some 3) (List.map enc_api_Attr s_))), (1, .pv (.fn 45 [.rptr none (.str f) 0])), (7, .pv (.int .i64 (List.length s_ : Int))), (8, .pv (.int .i64 0))], hp := [], nx := 0 }) [((List.length (List.map enc_api_Attr s_) : Int) = (List.length s_ : Int))] (by kernel_rfl) (.cons (by rw [List.length_map]) .nil) (Sub.refl _)) ?_
  refine x_block ?_
  refine x_kw ({ tm := [(0, .pv (.sl (some 3) (List.map enc_api_Attr s_))), (1, .pv (.fn 45 [.rptr none (.str f) 0])), (7, .pv (.int .i64 (List.length s_ : Int))), (8, .pv (.int .i64 0))], hp := [], nx := 0 }) (by kernel_rfl) (Sub.refl _) ?_
  refine x_loop (σ := Int) h (fun s => { tm := [(0, .pv (.sl (some 3) (List.map enc_api_Attr s_))), (1, .pv (.fn 45 [.rptr none (.str f) 0])), (7, .pv (.int .i64 (List.length s_ : Int))), (8, .pv (.int .i64 s))], hp := [], nx := 0 }) (by kernel_rfl) ?_ ?_
  · rintro v5
    kernel_rfl
  · rintro v5 x6 h hx6
    replace h : slices_IndexFunc_api_Attr_api_Attr_f45_L6 s_ f v5 = some x6 := h
    unfold slices_IndexFunc_api_Attr_api_Attr_f45_L6 at h
    refine x_rg (RegTo.mk [(.n, .e)] ({ tm := [(0, .pv (.sl (some 3) (List.map enc_api_Attr s_))), (1, .pv (.fn 45 [.rptr none (.str f) 0])), (7, .pv (.int .i64 (List.length s_ : Int))), (8, .pv (.int .i64 v5)), (9, .pv (.bool (decide (v5 < (List.length s_ : Int)))))], hp := [], nx := 0 }) [] (by kernel_rfl) .nil (Sub.refl _)) ?_
    refine x_seq ?_
    refine x_cond _ rfl (fun hc7 => ?_) (fun hc7 => ?_)
    · replace h := ite_t h hc7
      refine x_kw ({ tm := [(0, .pv (.sl (some 3) (List.map enc_api_Attr s_))), (1, .pv (.fn 45 [.rptr none (.str f) 0])), (7, .pv (.int .i64 (List.length s_ : Int))), (8, .pv (.int .i64 v5))], hp := [], nx := 0 }) (by kernel_rfl) (Sub.refl _) ?_
      refine x_skip ?_
      refine x_tn ?_
      refine x_seq ?_
      refine x_block ?_
      refine x_rg (RegTo.mk [(.n, .e), (.n, .e)] ({ tm := [(0, .pv (.sl (some 3) (List.map enc_api_Attr s_))), (1, .pv (.fn 45 [.rptr none (.str f) 0])), (5, .pv (.int .i64 v5)), (7, .pv (.int .i64 (List.length s_ : Int))), (8, .pv (.int .i64 v5))], hp := [], nx := 0 }) [] (by kernel_rfl) .nil (Sub.refl _)) ?_
      obtain ⟨x8, hx8, h⟩ := bind_some h
      obtain ⟨x9, hx9, h⟩ := bind_some h
      refine x_rg (RegTo.mk [(.n, .e), (.n, .e), (.n, .e), (.n, (.pAt (enc_api_Attr x8))), (.n, .e), (.n, (.call [] [enc_api_Attr x8, .rptr none (.str f) 0] (.bool x9) true))] ({ tm := [(0, .pv (.sl (some 3) (List.map enc_api_Attr s_))), (1, .pv (.fn 45 [.rptr none (.str f) 0])), (5, .pv (.int .i64 v5)), (7, .pv (.int .i64 (List.length s_ : Int))), (8, .pv (.int .i64 v5)), (16, .pv (.bool x9))], hp := [], nx := 0 }) [(lsAt (List.map enc_api_Attr s_) v5 = some (enc_api_Attr x8)), (LesA [enc_api_Attr x8, .rptr none (.str f) 0] [enc_api_Attr x8, .rptr none (.str f) 0]), (CallOK Tryd.prog 45 [enc_api_Attr x8, .rptr none (.str f) 0] (.bool x9) true)] (by kernel_rfl) (.cons (lsAt_map hx8) (.cons (LesA.rfl' _) (.cons (c45 hx9) .nil))) (Sub.refl _)) ?_
      refine x_cond _ rfl (fun hc10 => ?_) (fun hc10 => ?_)
      · replace h := ite_t h hc10
        refine x_rg (RegTo.mk [(.n, .e), (.n, .e)] ({ tm := [(4, .pv (.int .i64 v5))], hp := [], nx := 0 }) [] (by kernel_rfl) .nil (Sub.refl _)) ?_
        refine x_toret ?_
        refine x_br ?_
        refine x_tr ?_
        refine x_tr ?_
        replace h := done_leaf h hx6
        refine x_br ?_
        refine x_tr ?_
        obtain rfl := Option.some.inj h
        exact x_ret (.int .i64 v5) [] [] (by kernel_rfl) .nil (by decide) (.refl _) (fun _ => rfl)
      · replace h := ite_f h hc10
        refine x_kw ({ tm := [(0, .pv (.sl (some 3) (List.map enc_api_Attr s_))), (1, .pv (.fn 45 [.rptr none (.str f) 0])), (7, .pv (.int .i64 (List.length s_ : Int))), (8, .pv (.int .i64 v5))], hp := [], nx := 0 }) (by kernel_rfl) (Sub.refl _) ?_
        refine x_skip ?_
        refine x_bn ?_
        refine x_tn ?_
        refine x_rgt (RegTo.mk [(.n, .e), (.n, .e)] ({ tm := [(0, .pv (.sl (some 3) (List.map enc_api_Attr s_))), (1, .pv (.fn 45 [.rptr none (.str f) 0])), (7, .pv (.int .i64 (List.length s_ : Int))), (8, .pv (.int .i64 (IntKind.wrap .i64 (v5 + 1))))], hp := [], nx := 0 }) [] (by kernel_rfl) .nil (Sub.refl _)) ?_
        refine x_tn ?_
        exact ⟨_, (Option.some.inj h).symm, by kernel_rfl⟩
    · replace h := ite_f h hc7
      refine x_kw ({ tm := [], hp := [], nx := 0 }) (by kernel_rfl) (Sub.refl _) ?_
      refine x_exit ?_
      refine x_te ?_
      refine x_te ?_
      replace h := done_leaf h hx6
      refine x_bh ?_
      refine x_tn ?_
      refine x_rg (RegTo.mk [(.n, .e)] ({ tm := [(4, .pv (.int .i64 (-1)))], hp := [], nx := 0 }) [] (by kernel_rfl) .nil (Sub.refl _)) ?_
      refine x_toret ?_
      obtain rfl := Option.some.inj h
      exact x_ret (.int .i64 (-1)) [] [] (by kernel_rfl) .nil (by decide) (.refl _) (fun _ => rfl)

theorem c39_o_f45 {s_ : (List api_Attr)} {del : Str} {r : (List api_Attr)} (h : slices_DeleteFunc_api_Attr_api_Attr_o_f45 s_ del = some r) : CallOK Tryd.prog 39 [.usl (some 3) (List.map enc_api_Attr s_), .fn 45 [.rptr none (.str del) 0]] (.usl (some 3) (List.map enc_api_Attr r)) true := by
  apply ok39
  unfold slices_DeleteFunc_api_Attr_api_Attr_o_f45 at h
  refine x_rg (RegTo.mk [(.n, .e)] ({ tm := [(0, .osl 0 0 (List.map enc_api_Attr s_).length), (1, .pv (.fn 45 [.rptr none (.str del) 0]))], hp := [(0, some (.p (some 3) (List.map enc_api_Attr s_)))], nx := 1 }) [] (by kernel_rfl) .nil (Sub.refl _)) ?_
  obtain ⟨x1, hx1, h⟩ := bind_some h
  refine x_rg (RegTo.mk [(.n, .e), (.n, .e), (.n, (.call [] [.sl (some 3) (List.map enc_api_Attr s_), .fn 45 [.rptr none (.str del) 0]] (.int .i64 x1) true)), (.n, .e)] ({ tm := [(0, .osl 0 0 (List.map enc_api_Attr s_).length), (1, .pv (.fn 45 [.rptr none (.str del) 0])), (5, .pv (.int .i64 x1))], hp := [(0, some (.p (some 3) (List.map enc_api_Attr s_)))], nx := 1 }) [(LesA [.sl (some 3) (List.take (List.map enc_api_Attr s_).length (List.drop 0 (List.map enc_api_Attr s_))), .fn 45 [.rptr none (.str del) 0]] [.sl (some 3) (List.map enc_api_Attr s_), .fn 45 [.rptr none (.str del) 0]]), (CallOK Tryd.prog 60 [.sl (some 3) (List.map enc_api_Attr s_), .fn 45 [.rptr none (.str del) 0]] (.int .i64 x1) true), (0 + (List.map enc_api_Attr s_).length ≤ List.length (List.map enc_api_Attr s_))] (by kernel_rfl) (.cons (.cons (.of_eq (by rw [List.drop_zero, List.take_length])) (.cons (.refl _) .nil)) (.cons (c60_f45 hx1) (.cons (by simp) .nil))) (Sub.refl _)) ?_
  refine x_seq ?_
  refine x_rg (RegTo.mk [(.n, .e), (.n, .e)] ({ tm := [(0, .osl 0 0 (List.map enc_api_Attr s_).length), (1, .pv (.fn 45 [.rptr none (.str del) 0])), (5, .pv (.int .i64 x1)), (12, .pv (.bool (decide (x1 = (-1)))))], hp := [(0, some (.p (some 3) (List.map enc_api_Attr s_)))], nx := 1 }) [] (by kernel_rfl) .nil (Sub.refl _)) ?_
  refine x_cond _ rfl (fun hc2 => ?_) (fun hc2 => ?_)
  · replace h := ite_t h hc2
    refine x_rg (RegTo.mk [(.n, .e), (.n, .e)] ({ tm := [(4, .osl 0 0 (List.map enc_api_Attr s_).length)], hp := [(0, some (.p (some 3) (List.map enc_api_Attr s_)))], nx := 1 }) [] (by kernel_rfl) .nil (Sub.refl _)) ?_
    refine x_toret ?_
    refine x_tr ?_
    obtain rfl := Option.some.inj h
    exact x_ret (.usl (some 3) (List.take (List.map enc_api_Attr s_).length (List.map enc_api_Attr s_))) [0] [(List.map enc_api_Attr s_).length ≤ List.length (List.map enc_api_Attr s_)] (by kernel_rfl) (.cons (Nat.le_refl _) .nil) (by decide) (.of_eq (by rw [List.take_length])) (fun _ => (usl_ns (sh := (some 3)) (fun _ => rfl)))
  · replace h := ite_f h hc2
    refine x_kw ({ tm := [(0, .osl 0 0 (List.map enc_api_Attr s_).length), (1, .pv (.fn 45 [.rptr none (.str del) 0])), (5, .pv (.int .i64 x1))], hp := [(0, some (.p (some 3) (List.map enc_api_Attr s_)))], nx := 1 }) (by kernel_rfl) (Sub.refl _) ?_
    refine x_skip ?_
    refine x_tn ?_
    refine x_seq ?_
    refine x_rg (RegTo.mk [(.n, .e), (.n, .e), (.n, .e)] ({ tm := [(0, .osl 0 0 (List.map enc_api_Attr s_).length), (1, .pv (.fn 45 [.rptr none (.str del) 0])), (5, .pv (.int .i64 x1)), (6, .pv (.int .i64 (IntKind.wrap .i64 (x1 + 1))))], hp := [(0, some (.p (some 3) (List.map enc_api_Attr s_)))], nx := 1 }) [] (by kernel_rfl) .nil (Sub.refl _)) ?_
    refine x_block ?_
    refine x_kw ({ tm := [(0, .osl 0 0 (List.map enc_api_Attr s_).length), (1, .pv (.fn 45 [.rptr none (.str del) 0])), (5, .pv (.int .i64 x1)), (6, .pv (.int .i64 (IntKind.wrap .i64 (x1 + 1))))], hp := [(0, some (.p (some 3) (List.map enc_api_Attr s_)))], nx := 1 }) (by kernel_rfl) (Sub.refl _) ?_
    refine x_loop (σ := (Int × Int × (List api_Attr))) h (fun s => { tm := [(0, .osl 0 0 (List.map enc_api_Attr s.2.2).length), (1, .pv (.fn 45 [.rptr none (.str del) 0])), (5, .pv (.int .i64 s.1)), (6, .pv (.int .i64 s.2.1))], hp := [(0, some (.p (some 3) (List.map enc_api_Attr s.2.2)))], nx := 1 }) (by kernel_rfl) ?_ ?_
    · rintro ⟨i, j, s__1⟩
      kernel_rfl
    · rintro ⟨i, j, s__1⟩ x11 h hx11
      replace h : slices_DeleteFunc_api_Attr_api_Attr_o_f45_L11 del i j s__1 = some x11 := h
      unfold slices_DeleteFunc_api_Attr_api_Attr_o_f45_L11 at h
      refine x_seq ?_
      refine x_rg (RegTo.mk [(.n, .e), (.n, .e), (.n, (.len (List.length s__1 : Int))), (.n, .e)] ({ tm := [(0, .osl 0 0 (List.map enc_api_Attr s__1).length), (1, .pv (.fn 45 [.rptr none (.str del) 0])), (5, .pv (.int .i64 i)), (6, .pv (.int .i64 j)), (19, .pv (.bool (decide (j < (List.length s__1 : Int)))))], hp := [(0, some (.p (some 3) (List.map enc_api_Attr s__1)))], nx := 1 }) [((((List.map enc_api_Attr s__1).length : Nat) : Int) = (List.length s__1 : Int))] (by kernel_rfl) (.cons (by rw [List.length_map]) .nil) (Sub.refl _)) ?_
      refine x_cond _ rfl (fun hc12 => ?_) (fun hc12 => ?_)
      · replace h := ite_t h hc12
        refine x_kw ({ tm := [(0, .osl 0 0 (List.map enc_api_Attr s__1).length), (1, .pv (.fn 45 [.rptr none (.str del) 0])), (5, .pv (.int .i64 i)), (6, .pv (.int .i64 j))], hp := [(0, some (.p (some 3) (List.map enc_api_Attr s__1)))], nx := 1 }) (by kernel_rfl) (Sub.refl _) ?_
        refine x_skip ?_
        refine x_tn ?_
        refine x_seq ?_
        refine x_block ?_
        obtain ⟨x13, hx13, h⟩ := bind_some h
        refine x_rg (RegTo.mk [(.n, .e), (.n, .e), (.n, .rAt), (.n, (.ld (enc_api_Attr x13))), (.n, .e), (.n, .e)] ({ tm := [(0, .osl 0 0 (List.map enc_api_Attr s__1).length), (1, .pv (.fn 45 [.rptr none (.str del) 0])), (5, .pv (.int .i64 i)), (6, .pv (.int .i64 j)), (7, .optr 1 0 0)], hp := [(0, some (.p (some 3) (List.map enc_api_Attr s__1))), (1, some (.p (some 3) [enc_api_Attr x13]))], nx := 2 }) [(0 ≤ (j : Int) ∧ Int.toNat j < (List.map enc_api_Attr s__1).length), ((List.map enc_api_Attr s__1)[(0 + Int.toNat j)]? = some (enc_api_Attr x13))] (by kernel_rfl) (.cons (rAt_ob hx13 (by simp)) (.cons (ownAt hx13) .nil)) (Sub.refl _)) ?_
        obtain ⟨x14, hx14, h⟩ := bind_some h
        refine x_rg (RegTo.mk [(.n, .e), (.n, .e), (.n, (.call [] [enc_api_Attr x13, .rptr none (.str del) 0] (.bool x14) true)), (.n, .e)] ({ tm := [(0, .osl 0 0 (List.map enc_api_Attr s__1).length), (1, .pv (.fn 45 [.rptr none (.str del) 0])), (5, .pv (.int .i64 i)), (6, .pv (.int .i64 j)), (7, .optr 1 0 0), (29, .pv (.bool (!x14)))], hp := [(0, some (.p (some 3) (List.map enc_api_Attr s__1))), (1, some (.p (some 3) [enc_api_Attr x13]))], nx := 2 }) [(LesA [enc_api_Attr x13, .rptr none (.str del) 0] [enc_api_Attr x13, .rptr none (.str del) 0]), (CallOK Tryd.prog 45 [enc_api_Attr x13, .rptr none (.str del) 0] (.bool x14) true)] (by kernel_rfl) (.cons (LesA.rfl' _) (.cons (c45 hx14) .nil)) (Sub.refl _)) ?_
        refine x_cond _ rfl (fun hc15 => ?_) (fun hc15 => ?_)
        · replace h := ite_t h hc15
          obtain ⟨x16, hx16, h⟩ := bind_some h
          refine x_rg (st2 := { tm := [(0, .osl 0 0 (List.map enc_api_Attr (List.set s__1 (Int.toNat i) x13)).length), (1, .pv (.fn 45 [.rptr none (.str del) 0])), (5, .pv (.int .i64 i)), (6, .pv (.int .i64 j))], hp := [(0, some (.p (some 3) (List.map enc_api_Attr (List.set s__1 (Int.toNat i) x13))))], nx := 1 }) (RegTo.mk [(.n, .e), (.n, .e), (.n, .e), (.n, .rAt), (.n, (.set (enc_api_Attr x16) (List.map enc_api_Attr (List.set s__1 (Int.toNat i) x13))))] ({ tm := [(0, .osl 0 0 (List.map enc_api_Attr s__1).length), (1, .pv (.fn 45 [.rptr none (.str del) 0])), (5, .pv (.int .i64 i)), (6, .pv (.int .i64 j))], hp := [(0, some (.p (some 3) (List.map enc_api_Attr (List.set s__1 (Int.toNat i) x13))))], nx := 1 }) [(0 ≤ (i : Int) ∧ Int.toNat i < (List.map enc_api_Attr s__1).length), ((List.map enc_api_Attr s__1)[(0 + Int.toNat i)]? = some (enc_api_Attr x16)), (List.set (List.map enc_api_Attr s__1) (0 + Int.toNat i) (enc_api_Attr x13) = (List.map enc_api_Attr (List.set s__1 (Int.toNat i) x13)))] (by kernel_rfl) (.cons (rAt_ob hx16 (by simp)) (.cons (ownAt hx16) (.cons (by rw [Nat.zero_add, List.map_set]; try rfl) .nil))) (Sub.of_eq (by simp only [List.length_map, List.length_set]))) ?_
          refine x_rgt (RegTo.mk [(.n, .e), (.n, .e), (.n, .e)] ({ tm := [(0, .osl 0 0 (List.map enc_api_Attr (List.set s__1 (Int.toNat i) x13)).length), (1, .pv (.fn 45 [.rptr none (.str del) 0])), (5, .pv (.int .i64 (IntKind.wrap .i64 (i + 1)))), (6, .pv (.int .i64 j))], hp := [(0, some (.p (some 3) (List.map enc_api_Attr (List.set s__1 (Int.toNat i) x13))))], nx := 1 }) [] (by kernel_rfl) .nil (Sub.refl _)) ?_
          refine x_bn ?_
          refine x_tn ?_
          refine x_rgt (RegTo.mk [(.n, .e), (.n, .e), (.n, .e)] ({ tm := [(0, .osl 0 0 (List.map enc_api_Attr (List.set s__1 (Int.toNat i) x13)).length), (1, .pv (.fn 45 [.rptr none (.str del) 0])), (5, .pv (.int .i64 (IntKind.wrap .i64 (i + 1)))), (6, .pv (.int .i64 (IntKind.wrap .i64 (j + 1))))], hp := [(0, some (.p (some 3) (List.map enc_api_Attr (List.set s__1 (Int.toNat i) x13))))], nx := 1 }) [] (by kernel_rfl) .nil (Sub.refl _)) ?_
          refine x_tn ?_
          exact ⟨_, (Option.some.inj h).symm, by kernel_rfl⟩
        · replace h := ite_f h hc15
          refine x_kw ({ tm := [(0, .osl 0 0 (List.map enc_api_Attr s__1).length), (1, .pv (.fn 45 [.rptr none (.str del) 0])), (5, .pv (.int .i64 i)), (6, .pv (.int .i64 j))], hp := [(0, some (.p (some 3) (List.map enc_api_Attr s__1)))], nx := 1 }) (by kernel_rfl) (Sub.refl _) ?_
          refine x_skip ?_
          refine x_bn ?_
          refine x_tn ?_
          refine x_rgt (RegTo.mk [(.n, .e), (.n, .e), (.n, .e)] ({ tm := [(0, .osl 0 0 (List.map enc_api_Attr s__1).length), (1, .pv (.fn 45 [.rptr none (.str del) 0])), (5, .pv (.int .i64 i)), (6, .pv (.int .i64 (IntKind.wrap .i64 (j + 1))))], hp := [(0, some (.p (some 3) (List.map enc_api_Attr s__1)))], nx := 1 }) [] (by kernel_rfl) .nil (Sub.refl _)) ?_
          refine x_tn ?_
          exact ⟨_, (Option.some.inj h).symm, by kernel_rfl⟩
      · replace h := ite_f h hc12
        refine x_kw ({ tm := [(0, .osl 0 0 (List.map enc_api_Attr s__1).length), (5, .pv (.int .i64 i))], hp := [(0, some (.p (some 3) (List.map enc_api_Attr s__1)))], nx := 1 }) (by kernel_rfl) (Sub.refl _) ?_
        refine x_exit ?_
        refine x_te ?_
        refine x_te ?_
        replace h := done_map h hx11
        unfold slices_DeleteFunc_api_Attr_api_Attr_o_f45_A18 at h
        refine x_bh ?_
        refine x_tn ?_
        obtain ⟨x17, hx17, h⟩ := bind_some h
        refine x_rg (st2 := { tm := [(0, .osl 0 0 (List.map enc_api_Attr s__1).length), (5, .pv (.int .i64 i))], hp := [(0, some (.p (some 3) (List.map enc_api_Attr x17)))], nx := 1 }) (RegTo.mk [(.n, .e), (.n, .e), (.n, .cutR), (.n, .clr)] ({ tm := [(0, .osl 0 0 (List.map enc_api_Attr s__1).length), (5, .pv (.int .i64 i))], hp := [(0, some (.p (some 3) (List.take (0 + Int.toNat i) (List.map enc_api_Attr s__1))))], nx := 1 }) [(0 ≤ i ∧ i ≤ (((List.map enc_api_Attr s__1).length : Nat) : Int) ∧ (((List.map enc_api_Attr s__1).length : Nat) : Int) ≤ (((List.map enc_api_Attr s__1).length : Nat) : Int)), ((0 + Int.toNat i) ≤ List.length (List.map enc_api_Attr s__1))] (by kernel_rfl) (.cons (cutB_ob hx17 (by simp)) (.cons (clr_ob hx17) .nil)) (Sub.of_eq (show ({ tm := [(0, .osl 0 0 (List.map enc_api_Attr s__1).length), (5, .pv (.int .i64 i))], hp := [(0, some (.p (some 3) (List.map enc_api_Attr x17)))], nx := 1 } : VSt) = { tm := [(0, .osl 0 0 (List.map enc_api_Attr s__1).length), (5, .pv (.int .i64 i))], hp := [(0, some (.p (some 3) (List.take (0 + Int.toNat i) (List.map enc_api_Attr s__1))))], nx := 1 } from by rw [clr_row hx17]))) ?_
        refine x_rg (st2 := { tm := [(4, .osl 0 0 (List.map enc_api_Attr x17).length)], hp := [(0, some (.p (some 3) (List.map enc_api_Attr x17)))], nx := 1 }) (RegTo.mk [(.n, .e), (.n, .e), (.n, .cutR), (.n, .e)] ({ tm := [(4, .osl 0 (0 + Int.toNat 0) (Int.toNat i - Int.toNat 0))], hp := [(0, some (.p (some 3) (List.map enc_api_Attr x17)))], nx := 1 }) [(0 ≤ (0 : Int) ∧ (0 : Int) ≤ i ∧ i ≤ (((List.map enc_api_Attr s__1).length : Nat) : Int))] (by kernel_rfl) (.cons (cutR_ob hx17 (by simp)) .nil) (Sub.of_eq (show ({ tm := [(4, .osl 0 0 (List.map enc_api_Attr x17).length)], hp := [(0, some (.p (some 3) (List.map enc_api_Attr x17)))], nx := 1 } : VSt) = { tm := [(4, .osl 0 (0 + Int.toNat 0) (Int.toNat i - Int.toNat 0))], hp := [(0, some (.p (some 3) (List.map enc_api_Attr x17)))], nx := 1 } from by rw [clr_len hx17]; try rfl))) ?_
        refine x_toret ?_
        obtain rfl := Option.some.inj h
        exact x_ret (.usl (some 3) (List.take (List.map enc_api_Attr x17).length (List.map enc_api_Attr x17))) [0] [(List.map enc_api_Attr x17).length ≤ List.length (List.map enc_api_Attr x17)] (by kernel_rfl) (.cons (Nat.le_refl _) .nil) (by decide) (.of_eq (by rw [List.take_length])) (fun _ => (usl_ns (sh := (some 3)) (fun _ => rfl)))

theorem c28 {l : (List api_Attr)} {name : Str} {r : (List api_Attr)} (h : attr_Without l name = some r) : CallOK Tryd.prog 28 [.sl (some 3) (List.map enc_api_Attr l), .str name] (.usl (some 3) (List.map enc_api_Attr r)) true := by
  apply ok28
  unfold attr_Without at h
  refine x_rg (RegTo.mk [(.n, .e), (.n, .e)] ({ tm := [(0, .pv (.sl (some 3) (List.map enc_api_Attr l))), (3, .optr 0 0 0)], hp := [(0, some (.p none [.str name]))], nx := 1 }) [] (by kernel_rfl) .nil (Sub.refl _)) ?_
  obtain ⟨x1, hx1, h⟩ := bind_some h
  obtain ⟨x2, hx2, h⟩ := bind_some h
  refine x_rg (RegTo.mk [(.n, .e), (.n, (.call [] [.sl (some 3) (List.map enc_api_Attr l)] (.usl (some 3) (List.map enc_api_Attr x1)) true)), (.n, .e), (.n, (.call [5] [.usl (some 3) (List.map enc_api_Attr x1), .fn 45 [.rptr none (.str name) 0]] (.usl (some 3) (List.map enc_api_Attr x2)) true)), (.n, .e)] ({ tm := [(4, .osl 0 0 (List.map enc_api_Attr x2).length)], hp := [(0, some (.p (some 3) (List.map enc_api_Attr x2)))], nx := 1 }) [(LesA [.sl (some 3) (List.map enc_api_Attr l)] [.sl (some 3) (List.map enc_api_Attr l)]), (CallOK Tryd.prog 40 [.sl (some 3) (List.map enc_api_Attr l)] (.usl (some 3) (List.map enc_api_Attr x1)) true), (LesA [.usl (some 3) (List.take (List.map enc_api_Attr x1).length (List.map enc_api_Attr x1)), .fn 45 [.rptr none (.str name) 0]] [.usl (some 3) (List.map enc_api_Attr x1), .fn 45 [.rptr none (.str name) 0]]), (CallOK Tryd.prog 39 [.usl (some 3) (List.map enc_api_Attr x1), .fn 45 [.rptr none (.str name) 0]] (.usl (some 3) (List.map enc_api_Attr x2)) true), ((List.map enc_api_Attr x1).length ≤ List.length (List.map enc_api_Attr x1))] (by kernel_rfl) (.cons (LesA.rfl' _) (.cons (c40 hx1) (.cons (.cons (.of_eq (by rw [List.take_length])) (.cons (.refl _) .nil)) (.cons (c39_o_f45 hx2) (.cons (Nat.le_refl _) .nil))))) (Sub.refl _)) ?_
  refine x_toret ?_
  obtain rfl := Option.some.inj h
  exact x_ret (.usl (some 3) (List.take (List.map enc_api_Attr x2).length (List.map enc_api_Attr x2))) [0] [(List.map enc_api_Attr x2).length ≤ List.length (List.map enc_api_Attr x2)] (by kernel_rfl) (.cons (Nat.le_refl _) .nil) (by decide) (.of_eq (by rw [List.take_length])) (fun _ => (usl_ns (sh := (some 3)) (fun _ => rfl)))

theorem c29 {l : (List api_Attr)} {name : Str} {r : (List api_Attr)} (h : ref22_Without l name = some r) : CallOK Tryd.prog 29 [.sl (some 3) (List.map enc_api_Attr l), .str name] (.usl (some 3) (List.map enc_api_Attr r)) true := by
  apply ok29
  unfold ref22_Without at h
  refine x_rg (RegTo.mk [(.n, .e)] ({ tm := [(0, .pv (.sl (some 3) (List.map enc_api_Attr l))), (1, .pv (.str name))], hp := [], nx := 0 }) [] (by kernel_rfl) .nil (Sub.refl _)) ?_
  refine x_rg (st2 := { tm := [(0, .pv (.sl (some 3) (List.map enc_api_Attr l))), (1, .pv (.str name)), (5, .osl 0 0 (List.map enc_api_Attr ([] : List api_Attr)).length)], hp := [(0, some (.p (some 3) (List.map enc_api_Attr ([] : List api_Attr))))], nx := 1 }) (RegTo.mk [(.n, .e)] ({ tm := [(0, .pv (.sl (some 3) (List.map enc_api_Attr l))), (1, .pv (.str name)), (5, .pv (.nilsl))], hp := [], nx := 0 }) [] (by kernel_rfl) .nil ((Sub.keep (ks := [0, 1, 5]) (st := ownSt 5 (some 3) ({ tm := [(0, .pv (.sl (some 3) (List.map enc_api_Attr l))), (1, .pv (.str name)), (5, .pv (.nilsl))], hp := [], nx := 0 })) (st' := { tm := [(0, .pv (.sl (some 3) (List.map enc_api_Attr l))), (1, .pv (.str name)), (5, .osl 0 0 (List.map enc_api_Attr ([] : List api_Attr)).length)], hp := [(0, some (.p (some 3) (List.map enc_api_Attr ([] : List api_Attr))))], nx := 1 }) (by kernel_rfl)).trans (own_sound 5 (some 3) ({ tm := [(0, .pv (.sl (some 3) (List.map enc_api_Attr l))), (1, .pv (.str name)), (5, .pv (.nilsl))], hp := [], nx := 0 })))) ?_
  refine x_seq ?_
  refine x_rg (RegTo.mk [(.n, .e)] ({ tm := [(0, .pv (.sl (some 3) (List.map enc_api_Attr l))), (1, .pv (.str name)), (5, .osl 0 0 (List.map enc_api_Attr ([] : List api_Attr)).length), (6, .pv (.int .i64 0))], hp := [(0, some (.p (some 3) (List.map enc_api_Attr ([] : List api_Attr))))], nx := 1 }) [] (by kernel_rfl) .nil (Sub.refl _)) ?_
  refine x_block ?_
  refine x_kw ({ tm := [(0, .pv (.sl (some 3) (List.map enc_api_Attr l))), (1, .pv (.str name)), (5, .osl 0 0 (List.map enc_api_Attr ([] : List api_Attr)).length), (6, .pv (.int .i64 0))], hp := [(0, some (.p (some 3) (List.map enc_api_Attr ([] : List api_Attr))))], nx := 1 }) (by kernel_rfl) (Sub.refl _) ?_
  refine x_loop (σ := (Int × (List api_Attr))) h (fun s => { tm := [(0, .pv (.sl (some 3) (List.map enc_api_Attr l))), (1, .pv (.str name)), (5, .osl 0 0 (List.map enc_api_Attr s.2).length), (6, .pv (.int .i64 s.1))], hp := [(0, some (.p (some 3) (List.map enc_api_Attr s.2)))], nx := 1 }) (by kernel_rfl) ?_ ?_
  · rintro ⟨i, out⟩
    kernel_rfl
  · rintro ⟨i, out⟩ x8 h hx8
    replace h : ref22_Without_L8 l name i out = some x8 := h
    unfold ref22_Without_L8 at h
    refine x_seq ?_
    refine x_rg (RegTo.mk [(.n, .e), (.n, .e), (.n, (.len (List.length l : Int))), (.n, .e)] ({ tm := [(0, .pv (.sl (some 3) (List.map enc_api_Attr l))), (1, .pv (.str name)), (5, .osl 0 0 (List.map enc_api_Attr out).length), (6, .pv (.int .i64 i)), (10, .pv (.bool (decide (i < (List.length l : Int)))))], hp := [(0, some (.p (some 3) (List.map enc_api_Attr out)))], nx := 1 }) [((List.length (List.map enc_api_Attr l) : Int) = (List.length l : Int))] (by kernel_rfl) (.cons (by rw [List.length_map]) .nil) (Sub.refl _)) ?_
    refine x_cond _ rfl (fun hc9 => ?_) (fun hc9 => ?_)
    · replace h := ite_t h hc9
      refine x_kw ({ tm := [(0, .pv (.sl (some 3) (List.map enc_api_Attr l))), (1, .pv (.str name)), (5, .osl 0 0 (List.map enc_api_Attr out).length), (6, .pv (.int .i64 i))], hp := [(0, some (.p (some 3) (List.map enc_api_Attr out)))], nx := 1 }) (by kernel_rfl) (Sub.refl _) ?_
      refine x_skip ?_
      refine x_tn ?_
      refine x_seq ?_
      refine x_block ?_
      obtain ⟨x10, hx10, h⟩ := bind_some h
      refine x_rg (RegTo.mk [(.n, .e), (.n, .e), (.n, (.pAt (enc_api_Attr x10))), (.n, .e), (.n, .e), (.n, .e), (.n, .e)] ({ tm := [(0, .pv (.sl (some 3) (List.map enc_api_Attr l))), (1, .pv (.str name)), (5, .osl 0 0 (List.map enc_api_Attr out).length), (6, .pv (.int .i64 i)), (19, .pv (.bool (!decide (x10.Name = name))))], hp := [(0, some (.p (some 3) (List.map enc_api_Attr out)))], nx := 1 }) [(lsAt (List.map enc_api_Attr l) i = some (enc_api_Attr x10))] (by kernel_rfl) (.cons (lsAt_map hx10) .nil) (Sub.refl _)) ?_
      refine x_cond _ rfl (fun hc11 => ?_) (fun hc11 => ?_)
      · replace h := ite_t h hc11
        obtain ⟨x12, hx12, h⟩ := bind_some h
        obtain ⟨x13, hx13, h⟩ := bind_some h
        refine x_rgt (RegTo.mk [(.n, .e), (.n, .e), (.n, .e), (.n, (.pAt (enc_api_Attr x12))), (.n, .e), (.n, .e), (.n, (.app (List.map enc_api_Attr x13))), (.n, .e)] ({ tm := [(0, .pv (.sl (some 3) (List.map enc_api_Attr l))), (1, .pv (.str name)), (5, .osl 0 0 (List.map enc_api_Attr x13).length), (6, .pv (.int .i64 i))], hp := [(0, some (.p (some 3) (List.map enc_api_Attr x13)))], nx := 1 }) [(lsAt (List.map enc_api_Attr l) i = some (enc_api_Attr x12)), (List.take (List.map enc_api_Attr out).length (List.map enc_api_Attr out) ++ List.take 1 (List.drop 0 ([enc_api_Attr x12] : List PV)) = (List.map enc_api_Attr x13)), (List.length (List.map enc_api_Attr x13) * 40 ≤ 140737488355328), (List.length (List.map enc_api_Attr x13) ≤ 9223372036854775807), ((List.map enc_api_Attr out).length ≤ List.length (List.map enc_api_Attr out)), (0 + 1 ≤ List.length ([enc_api_Attr x12] : List PV))] (by kernel_rfl) (.cons (lsAt_map hx12) (.cons (app_ob hx13 (.all _) (.rfl _)) (.cons (by rw [List.length_map]; exact (appL_ok hx13).2.1) (.cons (by rw [List.length_map]; exact (appL_ok hx13).2.2) (.cons (Nat.le_refl _) (.cons (by simp) .nil)))))) (Sub.refl _)) ?_
        refine x_bn ?_
        refine x_tn ?_
        refine x_rgt (RegTo.mk [(.n, .e), (.n, .e), (.n, .e)] ({ tm := [(0, .pv (.sl (some 3) (List.map enc_api_Attr l))), (1, .pv (.str name)), (5, .osl 0 0 (List.map enc_api_Attr x13).length), (6, .pv (.int .i64 (IntKind.wrap .i64 (i + 1))))], hp := [(0, some (.p (some 3) (List.map enc_api_Attr x13)))], nx := 1 }) [] (by kernel_rfl) .nil (Sub.refl _)) ?_
        refine x_tn ?_
        exact ⟨_, (Option.some.inj h).symm, by kernel_rfl⟩
      · replace h := ite_f h hc11
        refine x_kw ({ tm := [(0, .pv (.sl (some 3) (List.map enc_api_Attr l))), (1, .pv (.str name)), (5, .osl 0 0 (List.map enc_api_Attr out).length), (6, .pv (.int .i64 i))], hp := [(0, some (.p (some 3) (List.map enc_api_Attr out)))], nx := 1 }) (by kernel_rfl) (Sub.refl _) ?_
        refine x_skip ?_
        refine x_bn ?_
        refine x_tn ?_
        refine x_rgt (RegTo.mk [(.n, .e), (.n, .e), (.n, .e)] ({ tm := [(0, .pv (.sl (some 3) (List.map enc_api_Attr l))), (1, .pv (.str name)), (5, .osl 0 0 (List.map enc_api_Attr out).length), (6, .pv (.int .i64 (IntKind.wrap .i64 (i + 1))))], hp := [(0, some (.p (some 3) (List.map enc_api_Attr out)))], nx := 1 }) [] (by kernel_rfl) .nil (Sub.refl _)) ?_
        refine x_tn ?_
        exact ⟨_, (Option.some.inj h).symm, by kernel_rfl⟩
    · replace h := ite_f h hc9
      refine x_kw ({ tm := [(5, .osl 0 0 (List.map enc_api_Attr out).length)], hp := [(0, some (.p (some 3) (List.map enc_api_Attr out)))], nx := 1 }) (by kernel_rfl) (Sub.refl _) ?_
      refine x_exit ?_
      refine x_te ?_
      refine x_te ?_
      replace h := done_leaf h hx8
      refine x_bh ?_
      refine x_tn ?_
      refine x_rg (RegTo.mk [(.n, .e), (.n, .e)] ({ tm := [(4, .osl 0 0 (List.map enc_api_Attr out).length)], hp := [(0, some (.p (some 3) (List.map enc_api_Attr out)))], nx := 1 }) [] (by kernel_rfl) .nil (Sub.refl _)) ?_
      refine x_toret ?_
      obtain rfl := Option.some.inj h
      exact x_ret (.usl (some 3) (List.take (List.map enc_api_Attr out).length (List.map enc_api_Attr out))) [0] [(List.map enc_api_Attr out).length ≤ List.length (List.map enc_api_Attr out)] (by kernel_rfl) (.cons (Nat.le_refl _) .nil) (by decide) (.of_eq (by rw [List.take_length])) (fun _ => (usl_ns (sh := (some 3)) (fun _ => rfl)))

theorem c9 {l : (List api_Attr)} {name : Str} {value : Str} {r : Bool} (h : law22_AttrSets l name value = some r) : CallOK Tryd.prog 9 [.sl (some 3) (List.map enc_api_Attr l), .str name, .str value] (.bool r) true := by
  apply ok9
  unfold law22_AttrSets at h
  refine x_rg (RegTo.mk [(.n, .e)] ({ tm := [(0, .pv (.sl (some 3) (List.map enc_api_Attr l))), (1, .pv (.str name)), (2, .pv (.str value))], hp := [], nx := 0 }) [] (by kernel_rfl) .nil (Sub.refl _)) ?_
  refine x_seq ?_
  obtain ⟨x1, hx1, h⟩ := bind_some h
  refine x_rg (st2 := { tm := [(0, .pv (.sl (some 3) (List.map enc_api_Attr l))), (1, .pv (.str name)), (2, .pv (.str value)), (23, .pv (.bool ((!x1) || ((decide (1100 < (List.length name : Int))) || (decide (1100 < (List.length value : Int)))))))], hp := [], nx := 0 }) ?_ ?_
  · rcases Bool.eq_false_or_eq_true (!x1) with hg2 | hg2
    · exact RegTo.mk [(.n, .e), (.n, (.call [] [.sl (some 3) (List.map enc_api_Attr l)] (.bool x1) true)), (.n, .e), (.n, .e), (.s, .e), (.s, .e), (.s, .e), (.n, (.pk true)), (.n, .e), (.s, .e), (.s, .e), (.s, .e), (.n, .e)] ({ tm := [(0, .pv (.sl (some 3) (List.map enc_api_Attr l))), (1, .pv (.str name)), (2, .pv (.str value)), (23, .pv (.bool true))], hp := [], nx := 0 }) [(LesA [.sl (some 3) (List.map enc_api_Attr l)] [.sl (some 3) (List.map enc_api_Attr l)]), (CallOK Tryd.prog 11 [.sl (some 3) (List.map enc_api_Attr l)] (.bool x1) true), ((!x1) = true), ((!x1) = true), ((!x1) = true), ((!x1) = true), (true = true), (true = true), (true = true)] (by kernel_rfl) (.cons (LesA.rfl' _) (.cons (c11 hx1) (.cons hg2 (.cons hg2 (.cons hg2 (.cons hg2 (.cons rfl (.cons rfl (.cons rfl .nil))))))))) (.of_eq (by simp only [hg2, Bool.true_or, Bool.false_or, Bool.true_and, Bool.false_and, Bool.or_true, Bool.or_false, Bool.and_true, Bool.and_false, Bool.false_eq_true, if_true, if_false, reduceIte]))
    · rcases Bool.eq_false_or_eq_true (decide (1100 < (List.length name : Int))) with hg3 | hg3
      · exact RegTo.mk [(.n, .e), (.n, (.call [] [.sl (some 3) (List.map enc_api_Attr l)] (.bool x1) true)), (.n, .e), (.n, .e), (.y, .e), (.y, .e), (.y, .e), (.n, (.pk false)), (.n, .e), (.s, .e), (.s, .e), (.s, .e), (.n, (.pk true))] ({ tm := [(0, .pv (.sl (some 3) (List.map enc_api_Attr l))), (1, .pv (.str name)), (2, .pv (.str value)), (23, .pv (.bool true))], hp := [], nx := 0 }) [(LesA [.sl (some 3) (List.map enc_api_Attr l)] [.sl (some 3) (List.map enc_api_Attr l)]), (CallOK Tryd.prog 11 [.sl (some 3) (List.map enc_api_Attr l)] (.bool x1) true), ((!x1) = false), ((!x1) = false), ((!x1) = false), ((!x1) = false), ((decide (1100 < (List.length name : Int))) = true), ((decide (1100 < (List.length name : Int))) = true), ((decide (1100 < (List.length name : Int))) = true), ((decide (1100 < (List.length name : Int))) = true)] (by kernel_rfl) (.cons (LesA.rfl' _) (.cons (c11 hx1) (.cons hg2 (.cons hg2 (.cons hg2 (.cons hg2 (.cons hg3 (.cons hg3 (.cons hg3 (.cons hg3 .nil)))))))))) (.of_eq (by simp only [hg2, hg3, Bool.true_or, Bool.false_or, Bool.true_and, Bool.false_and, Bool.or_true, Bool.or_false, Bool.and_true, Bool.and_false, Bool.false_eq_true, if_true, if_false, reduceIte]))
      · exact RegTo.mk [(.n, .e), (.n, (.call [] [.sl (some 3) (List.map enc_api_Attr l)] (.bool x1) true)), (.n, .e), (.n, .e), (.y, .e), (.y, .e), (.y, .e), (.n, (.pk false)), (.n, .e), (.y, .e), (.y, .e), (.y, .e), (.n, (.pk false))] ({ tm := [(0, .pv (.sl (some 3) (List.map enc_api_Attr l))), (1, .pv (.str name)), (2, .pv (.str value)), (23, .pv (.bool (decide (1100 < (List.length value : Int)))))], hp := [], nx := 0 }) [(LesA [.sl (some 3) (List.map enc_api_Attr l)] [.sl (some 3) (List.map enc_api_Attr l)]), (CallOK Tryd.prog 11 [.sl (some 3) (List.map enc_api_Attr l)] (.bool x1) true), ((!x1) = false), ((!x1) = false), ((!x1) = false), ((!x1) = false), ((decide (1100 < (List.length name : Int))) = false), ((decide (1100 < (List.length name : Int))) = false), ((decide (1100 < (List.length name : Int))) = false), ((decide (1100 < (List.length name : Int))) = false)] (by kernel_rfl) (.cons (LesA.rfl' _) (.cons (c11 hx1) (.cons hg2 (.cons hg2 (.cons hg2 (.cons hg2 (.cons hg3 (.cons hg3 (.cons hg3 (.cons hg3 .nil)))))))))) (.of_eq (by simp only [hg2, hg3, Bool.true_or, Bool.false_or, Bool.true_and, Bool.false_and, Bool.or_true, Bool.or_false, Bool.and_true, Bool.and_false, Bool.false_eq_true, if_true, if_false, reduceIte]))
  · refine x_cond _ rfl (fun hc5 => ?_) (fun hc5 => ?_)
    · replace h := ite_t h hc5
      obtain ⟨x6, hx6, h⟩ := bind_some h
      refine x_rg (RegTo.mk [(.n, (.call [] [] (.bool x6) true)), (.n, .e)] ({ tm := [(6, .pv (.bool x6))], hp := [], nx := 0 }) [(LesA [] []), (CallOK Tryd.prog 12 [] (.bool x6) true)] (by kernel_rfl) (.cons (LesA.rfl' _) (.cons (c12 hx6) .nil)) (Sub.refl _)) ?_
      refine x_toret ?_
      refine x_tr ?_
      obtain rfl := Option.some.inj h
      exact x_ret (.bool x6) [] [] (by kernel_rfl) .nil (by decide) (.refl _) (fun _ => rfl)
    · replace h := ite_f h hc5
      refine x_kw ({ tm := [(0, .pv (.sl (some 3) (List.map enc_api_Attr l))), (1, .pv (.str name)), (2, .pv (.str value))], hp := [], nx := 0 }) (by kernel_rfl) (Sub.refl _) ?_
      refine x_skip ?_
      refine x_tn ?_
      obtain ⟨x7, hx7, h⟩ := bind_some h
      refine x_rg (RegTo.mk [(.n, .e), (.n, .e), (.n, (.call [] [.sl (some 3) (List.map enc_api_Attr l), .str name] (.tup [.str x7.1, .bool x7.2]) true)), (.n, .e), (.n, .e), (.n, .e), (.n, .e), (.n, .e)] ({ tm := [(0, .pv (.sl (some 3) (List.map enc_api_Attr l))), (1, .pv (.str name)), (2, .pv (.str value)), (7, .pv (.str x7.1)), (8, .pv (.bool x7.2))], hp := [], nx := 0 }) [(LesA [.sl (some 3) (List.map enc_api_Attr l), .str name] [.sl (some 3) (List.map enc_api_Attr l), .str name]), (CallOK Tryd.prog 24 [.sl (some 3) (List.map enc_api_Attr l), .str name] (.tup [.str x7.1, .bool x7.2]) true)] (by kernel_rfl) (.cons (LesA.rfl' _) (.cons (c24 hx7) .nil)) (Sub.refl _)) ?_
      obtain ⟨x8, hx8, h⟩ := bind_some h
      refine x_rg (RegTo.mk [(.n, .e), (.n, .e), (.n, (.call [] [.sl (some 3) (List.map enc_api_Attr l), .str name] (.tup [.str x8.1, .bool x8.2]) true)), (.n, .e), (.n, .e), (.n, .e), (.n, .e), (.n, .e)] ({ tm := [(0, .pv (.sl (some 3) (List.map enc_api_Attr l))), (1, .pv (.str name)), (2, .pv (.str value)), (7, .pv (.str x7.1)), (8, .pv (.bool x7.2)), (9, .pv (.str x8.1)), (10, .pv (.bool x8.2))], hp := [], nx := 0 }) [(LesA [.sl (some 3) (List.map enc_api_Attr l), .str name] [.sl (some 3) (List.map enc_api_Attr l), .str name]), (CallOK Tryd.prog 25 [.sl (some 3) (List.map enc_api_Attr l), .str name] (.tup [.str x8.1, .bool x8.2]) true)] (by kernel_rfl) (.cons (LesA.rfl' _) (.cons (c25 hx8) .nil)) (Sub.refl _)) ?_
      obtain ⟨t20, ht, h⟩ := bind_some h
      refine x_rg (st2 := { tm := [(6, .pv (.bool t20))], hp := [], nx := 0 }) ?_ ?_
      · rcases Bool.eq_false_or_eq_true (decide (x7.1 = x8.1)) with hg9 | hg9
        · replace ht := ite_t ht hg9
          rcases Bool.eq_false_or_eq_true (decide (x7.2 = x8.2)) with hg10 | hg10
          · replace ht := ite_t ht hg10
            obtain ⟨x11, hx11, ht⟩ := bind_some ht
            obtain ⟨x12, hx12, ht⟩ := bind_some ht
            obtain ⟨x13, hx13, ht⟩ := bind_some ht
            rcases Bool.eq_false_or_eq_true x13 with hg14 | hg14
            · replace ht := ite_t ht hg14
              obtain ⟨x15, hx15, ht⟩ := bind_some ht
              obtain ⟨x16, hx16, ht⟩ := bind_some ht
              obtain ⟨x17, hx17, ht⟩ := bind_some ht
              rcases Bool.eq_false_or_eq_true x17 with hg18 | hg18
              · replace ht := ite_t ht hg18
                obtain ⟨x19, hx19, ht⟩ := bind_some ht
                have e := Option.some.inj ht
                subst e
                exact RegTo.mk [(.n, .e), (.n, .e), (.n, .e), (.n, .e), (.y, .e), (.y, .e), (.y, .e), (.n, (.pk true)), (.n, .e), (.y, .e), (.y, .e), (.y, .e), (.y, (.call [] [.sl (some 3) (List.map enc_api_Attr l), .str name, .str value] (.usl (some 3) (List.map enc_api_Attr x11)) true)), (.y, .e), (.y, .e), (.y, .e), (.y, (.call [] [.sl (some 3) (List.map enc_api_Attr l), .str name, .str value] (.usl (some 3) (List.map enc_api_Attr x12)) true)), (.y, (.call [] [.sl (some 3) (List.map enc_api_Attr x11), .sl (some 3) (List.map enc_api_Attr x12)] (.bool x13) true)), (.n, (.pk true)), (.n, .e), (.y, .e), (.y, .e), (.y, (.call [] [.sl (some 3) (List.map enc_api_Attr l), .str name] (.usl (some 3) (List.map enc_api_Attr x15)) true)), (.y, .e), (.y, .e), (.y, (.call [] [.sl (some 3) (List.map enc_api_Attr l), .str name] (.usl (some 3) (List.map enc_api_Attr x16)) true)), (.y, (.call [] [.sl (some 3) (List.map enc_api_Attr x15), .sl (some 3) (List.map enc_api_Attr x16)] (.bool x17) true)), (.n, (.pk true)), (.n, .e), (.y, (.call [] [] (.bool x19) true)), (.n, (.pk true)), (.n, .e)] ({ tm := [(6, .pv (.bool x19))], hp := [], nx := 0 }) [((decide (x7.1 = x8.1)) = true), ((decide (x7.1 = x8.1)) = true), ((decide (x7.1 = x8.1)) = true), ((decide (x7.1 = x8.1)) = true), ((decide (x7.2 = x8.2)) = true), ((decide (x7.2 = x8.2)) = true), ((decide (x7.2 = x8.2)) = true), ((decide (x7.2 = x8.2)) = true), (LesA [.sl (some 3) (List.map enc_api_Attr l), .str name, .str value] [.sl (some 3) (List.map enc_api_Attr l), .str name, .str value]), (CallOK Tryd.prog 26 [.sl (some 3) (List.map enc_api_Attr l), .str name, .str value] (.usl (some 3) (List.map enc_api_Attr x11)) true), ((decide (x7.2 = x8.2)) = true), ((decide (x7.2 = x8.2)) = true), ((decide (x7.2 = x8.2)) = true), ((decide (x7.2 = x8.2)) = true), (LesA [.sl (some 3) (List.map enc_api_Attr l), .str name, .str value] [.sl (some 3) (List.map enc_api_Attr l), .str name, .str value]), (CallOK Tryd.prog 27 [.sl (some 3) (List.map enc_api_Attr l), .str name, .str value] (.usl (some 3) (List.map enc_api_Attr x12)) true), ((decide (x7.2 = x8.2)) = true), (LesA [.sl (some 3) (List.take (List.map enc_api_Attr x11).length (List.drop 0 (List.map enc_api_Attr x11))), .sl (some 3) (List.take (List.map enc_api_Attr x12).length (List.drop 0 (List.map enc_api_Attr x12)))] [.sl (some 3) (List.map enc_api_Attr x11), .sl (some 3) (List.map enc_api_Attr x12)]), (CallOK Tryd.prog 19 [.sl (some 3) (List.map enc_api_Attr x11), .sl (some 3) (List.map enc_api_Attr x12)] (.bool x13) true), (0 + (List.map enc_api_Attr x11).length ≤ List.length (List.map enc_api_Attr x11)), (0 + (List.map enc_api_Attr x12).length ≤ List.length (List.map enc_api_Attr x12)), ((decide (x7.2 = x8.2)) = true), (x13 = true), (x13 = true), (x13 = true), (LesA [.sl (some 3) (List.map enc_api_Attr l), .str name] [.sl (some 3) (List.map enc_api_Attr l), .str name]), (CallOK Tryd.prog 28 [.sl (some 3) (List.map enc_api_Attr l), .str name] (.usl (some 3) (List.map enc_api_Attr x15)) true), (x13 = true), (x13 = true), (x13 = true), (LesA [.sl (some 3) (List.map enc_api_Attr l), .str name] [.sl (some 3) (List.map enc_api_Attr l), .str name]), (CallOK Tryd.prog 29 [.sl (some 3) (List.map enc_api_Attr l), .str name] (.usl (some 3) (List.map enc_api_Attr x16)) true), (x13 = true), (LesA [.sl (some 3) (List.take (List.map enc_api_Attr x15).length (List.drop 0 (List.map enc_api_Attr x15))), .sl (some 3) (List.take (List.map enc_api_Attr x16).length (List.drop 0 (List.map enc_api_Attr x16)))] [.sl (some 3) (List.map enc_api_Attr x15), .sl (some 3) (List.map enc_api_Attr x16)]), (CallOK Tryd.prog 19 [.sl (some 3) (List.map enc_api_Attr x15), .sl (some 3) (List.map enc_api_Attr x16)] (.bool x17) true), (0 + (List.map enc_api_Attr x15).length ≤ List.length (List.map enc_api_Attr x15)), (0 + (List.map enc_api_Attr x16).length ≤ List.length (List.map enc_api_Attr x16)), (x13 = true), (x17 = true), (LesA [] []), (CallOK Tryd.prog 12 [] (.bool x19) true), (x17 = true)] (by kernel_rfl) (.cons hg9 (.cons hg9 (.cons hg9 (.cons hg9 (.cons hg10 (.cons hg10 (.cons hg10 (.cons hg10 (.cons (LesA.rfl' _) (.cons (c26 hx11) (.cons hg10 (.cons hg10 (.cons hg10 (.cons hg10 (.cons (LesA.rfl' _) (.cons (c27 hx12) (.cons hg10 (.cons (.cons (.of_eq (by rw [List.drop_zero, List.take_length])) (.cons (.of_eq (by rw [List.drop_zero, List.take_length])) .nil)) (.cons (c19 hx13) (.cons (by simp) (.cons (by simp) (.cons hg10 (.cons hg14 (.cons hg14 (.cons hg14 (.cons (LesA.rfl' _) (.cons (c28 hx15) (.cons hg14 (.cons hg14 (.cons hg14 (.cons (LesA.rfl' _) (.cons (c29 hx16) (.cons hg14 (.cons (.cons (.of_eq (by rw [List.drop_zero, List.take_length])) (.cons (.of_eq (by rw [List.drop_zero, List.take_length])) .nil)) (.cons (c19 hx17) (.cons (by simp) (.cons (by simp) (.cons hg14 (.cons hg18 (.cons (LesA.rfl' _) (.cons (c12 hx19) (.cons hg18 .nil)))))))))))))))))))))))))))))))))))))))))) (Sub.refl _)
              · replace ht := ite_f ht hg18
                have e := Option.some.inj ht
                subst e
                exact RegTo.mk [(.n, .e), (.n, .e), (.n, .e), (.n, .e), (.y, .e), (.y, .e), (.y, .e), (.n, (.pk true)), (.n, .e), (.y, .e), (.y, .e), (.y, .e), (.y, (.call [] [.sl (some 3) (List.map enc_api_Attr l), .str name, .str value] (.usl (some 3) (List.map enc_api_Attr x11)) true)), (.y, .e), (.y, .e), (.y, .e), (.y, (.call [] [.sl (some 3) (List.map enc_api_Attr l), .str name, .str value] (.usl (some 3) (List.map enc_api_Attr x12)) true)), (.y, (.call [] [.sl (some 3) (List.map enc_api_Attr x11), .sl (some 3) (List.map enc_api_Attr x12)] (.bool x13) true)), (.n, (.pk true)), (.n, .e), (.y, .e), (.y, .e), (.y, (.call [] [.sl (some 3) (List.map enc_api_Attr l), .str name] (.usl (some 3) (List.map enc_api_Attr x15)) true)), (.y, .e), (.y, .e), (.y, (.call [] [.sl (some 3) (List.map enc_api_Attr l), .str name] (.usl (some 3) (List.map enc_api_Attr x16)) true)), (.y, (.call [] [.sl (some 3) (List.map enc_api_Attr x15), .sl (some 3) (List.map enc_api_Attr x16)] (.bool x17) true)), (.n, (.pk true)), (.n, .e), (.s, .e), (.n, (.pk false)), (.n, .e)] ({ tm := [(6, .pv (.bool false))], hp := [], nx := 0 }) [((decide (x7.1 = x8.1)) = true), ((decide (x7.1 = x8.1)) = true), ((decide (x7.1 = x8.1)) = true), ((decide (x7.1 = x8.1)) = true), ((decide (x7.2 = x8.2)) = true), ((decide (x7.2 = x8.2)) = true), ((decide (x7.2 = x8.2)) = true), ((decide (x7.2 = x8.2)) = true), (LesA [.sl (some 3) (List.map enc_api_Attr l), .str name, .str value] [.sl (some 3) (List.map enc_api_Attr l), .str name, .str value]), (CallOK Tryd.prog 26 [.sl (some 3) (List.map enc_api_Attr l), .str name, .str value] (.usl (some 3) (List.map enc_api_Attr x11)) true), ((decide (x7.2 = x8.2)) = true), ((decide (x7.2 = x8.2)) = true), ((decide (x7.2 = x8.2)) = true), ((decide (x7.2 = x8.2)) = true), (LesA [.sl (some 3) (List.map enc_api_Attr l), .str name, .str value] [.sl (some 3) (List.map enc_api_Attr l), .str name, .str value]), (CallOK Tryd.prog 27 [.sl (some 3) (List.map enc_api_Attr l), .str name, .str value] (.usl (some 3) (List.map enc_api_Attr x12)) true), ((decide (x7.2 = x8.2)) = true), (LesA [.sl (some 3) (List.take (List.map enc_api_Attr x11).length (List.drop 0 (List.map enc_api_Attr x11))), .sl (some 3) (List.take (List.map enc_api_Attr x12).length (List.drop 0 (List.map enc_api_Attr x12)))] [.sl (some 3) (List.map enc_api_Attr x11), .sl (some 3) (List.map enc_api_Attr x12)]), (CallOK Tryd.prog 19 [.sl (some 3) (List.map enc_api_Attr x11), .sl (some 3) (List.map enc_api_Attr x12)] (.bool x13) true), (0 + (List.map enc_api_Attr x11).length ≤ List.length (List.map enc_api_Attr x11)), (0 + (List.map enc_api_Attr x12).length ≤ List.length (List.map enc_api_Attr x12)), ((decide (x7.2 = x8.2)) = true), (x13 = true), (x13 = true), (x13 = true), (LesA [.sl (some 3) (List.map enc_api_Attr l), .str name] [.sl (some 3) (List.map enc_api_Attr l), .str name]), (CallOK Tryd.prog 28 [.sl (some 3) (List.map enc_api_Attr l), .str name] (.usl (some 3) (List.map enc_api_Attr x15)) true), (x13 = true), (x13 = true), (x13 = true), (LesA [.sl (some 3) (List.map enc_api_Attr l), .str name] [.sl (some 3) (List.map enc_api_Attr l), .str name]), (CallOK Tryd.prog 29 [.sl (some 3) (List.map enc_api_Attr l), .str name] (.usl (some 3) (List.map enc_api_Attr x16)) true), (x13 = true), (LesA [.sl (some 3) (List.take (List.map enc_api_Attr x15).length (List.drop 0 (List.map enc_api_Attr x15))), .sl (some 3) (List.take (List.map enc_api_Attr x16).length (List.drop 0 (List.map enc_api_Attr x16)))] [.sl (some 3) (List.map enc_api_Attr x15), .sl (some 3) (List.map enc_api_Attr x16)]), (CallOK Tryd.prog 19 [.sl (some 3) (List.map enc_api_Attr x15), .sl (some 3) (List.map enc_api_Attr x16)] (.bool x17) true), (0 + (List.map enc_api_Attr x15).length ≤ List.length (List.map enc_api_Attr x15)), (0 + (List.map enc_api_Attr x16).length ≤ List.length (List.map enc_api_Attr x16)), (x13 = true), (x17 = false), (x17 = false)] (by kernel_rfl) (.cons hg9 (.cons hg9 (.cons hg9 (.cons hg9 (.cons hg10 (.cons hg10 (.cons hg10 (.cons hg10 (.cons (LesA.rfl' _) (.cons (c26 hx11) (.cons hg10 (.cons hg10 (.cons hg10 (.cons hg10 (.cons (LesA.rfl' _) (.cons (c27 hx12) (.cons hg10 (.cons (.cons (.of_eq (by rw [List.drop_zero, List.take_length])) (.cons (.of_eq (by rw [List.drop_zero, List.take_length])) .nil)) (.cons (c19 hx13) (.cons (by simp) (.cons (by simp) (.cons hg10 (.cons hg14 (.cons hg14 (.cons hg14 (.cons (LesA.rfl' _) (.cons (c28 hx15) (.cons hg14 (.cons hg14 (.cons hg14 (.cons (LesA.rfl' _) (.cons (c29 hx16) (.cons hg14 (.cons (.cons (.of_eq (by rw [List.drop_zero, List.take_length])) (.cons (.of_eq (by rw [List.drop_zero, List.take_length])) .nil)) (.cons (c19 hx17) (.cons (by simp) (.cons (by simp) (.cons hg14 (.cons hg18 (.cons hg18 .nil)))))))))))))))))))))))))))))))))))))))) (Sub.refl _)
            · replace ht := ite_f ht hg14
              have e := Option.some.inj ht
              subst e
              exact RegTo.mk [(.n, .e), (.n, .e), (.n, .e), (.n, .e), (.y, .e), (.y, .e), (.y, .e), (.n, (.pk true)), (.n, .e), (.y, .e), (.y, .e), (.y, .e), (.y, (.call [] [.sl (some 3) (List.map enc_api_Attr l), .str name, .str value] (.usl (some 3) (List.map enc_api_Attr x11)) true)), (.y, .e), (.y, .e), (.y, .e), (.y, (.call [] [.sl (some 3) (List.map enc_api_Attr l), .str name, .str value] (.usl (some 3) (List.map enc_api_Attr x12)) true)), (.y, (.call [] [.sl (some 3) (List.map enc_api_Attr x11), .sl (some 3) (List.map enc_api_Attr x12)] (.bool x13) true)), (.n, (.pk true)), (.n, .e), (.s, .e), (.s, .e), (.s, .e), (.s, .e), (.s, .e), (.s, .e), (.s, .e), (.n, (.pk false)), (.n, .e), (.s, .e), (.n, .e), (.n, .e)] ({ tm := [(6, .pv (.bool false))], hp := [], nx := 0 }) [((decide (x7.1 = x8.1)) = true), ((decide (x7.1 = x8.1)) = true), ((decide (x7.1 = x8.1)) = true), ((decide (x7.1 = x8.1)) = true), ((decide (x7.2 = x8.2)) = true), ((decide (x7.2 = x8.2)) = true), ((decide (x7.2 = x8.2)) = true), ((decide (x7.2 = x8.2)) = true), (LesA [.sl (some 3) (List.map enc_api_Attr l), .str name, .str value] [.sl (some 3) (List.map enc_api_Attr l), .str name, .str value]), (CallOK Tryd.prog 26 [.sl (some 3) (List.map enc_api_Attr l), .str name, .str value] (.usl (some 3) (List.map enc_api_Attr x11)) true), ((decide (x7.2 = x8.2)) = true), ((decide (x7.2 = x8.2)) = true), ((decide (x7.2 = x8.2)) = true), ((decide (x7.2 = x8.2)) = true), (LesA [.sl (some 3) (List.map enc_api_Attr l), .str name, .str value] [.sl (some 3) (List.map enc_api_Attr l), .str name, .str value]), (CallOK Tryd.prog 27 [.sl (some 3) (List.map enc_api_Attr l), .str name, .str value] (.usl (some 3) (List.map enc_api_Attr x12)) true), ((decide (x7.2 = x8.2)) = true), (LesA [.sl (some 3) (List.take (List.map enc_api_Attr x11).length (List.drop 0 (List.map enc_api_Attr x11))), .sl (some 3) (List.take (List.map enc_api_Attr x12).length (List.drop 0 (List.map enc_api_Attr x12)))] [.sl (some 3) (List.map enc_api_Attr x11), .sl (some 3) (List.map enc_api_Attr x12)]), (CallOK Tryd.prog 19 [.sl (some 3) (List.map enc_api_Attr x11), .sl (some 3) (List.map enc_api_Attr x12)] (.bool x13) true), (0 + (List.map enc_api_Attr x11).length ≤ List.length (List.map enc_api_Attr x11)), (0 + (List.map enc_api_Attr x12).length ≤ List.length (List.map enc_api_Attr x12)), ((decide (x7.2 = x8.2)) = true), (x13 = false), (x13 = false), (x13 = false), (x13 = false), (x13 = false), (x13 = false), (x13 = false), (x13 = false), (false = false)] (by kernel_rfl) (.cons hg9 (.cons hg9 (.cons hg9 (.cons hg9 (.cons hg10 (.cons hg10 (.cons hg10 (.cons hg10 (.cons (LesA.rfl' _) (.cons (c26 hx11) (.cons hg10 (.cons hg10 (.cons hg10 (.cons hg10 (.cons (LesA.rfl' _) (.cons (c27 hx12) (.cons hg10 (.cons (.cons (.of_eq (by rw [List.drop_zero, List.take_length])) (.cons (.of_eq (by rw [List.drop_zero, List.take_length])) .nil)) (.cons (c19 hx13) (.cons (by simp) (.cons (by simp) (.cons hg10 (.cons hg14 (.cons hg14 (.cons hg14 (.cons hg14 (.cons hg14 (.cons hg14 (.cons hg14 (.cons hg14 (.cons rfl .nil))))))))))))))))))))))))))))))) (Sub.refl _)
          · replace ht := ite_f ht hg10
            have e := Option.some.inj ht
            subst e
            exact RegTo.mk [(.n, .e), (.n, .e), (.n, .e), (.n, .e), (.y, .e), (.y, .e), (.y, .e), (.n, (.pk true)), (.n, .e), (.s, .e), (.s, .e), (.s, .e), (.s, .e), (.s, .e), (.s, .e), (.s, .e), (.s, .e), (.s, .e), (.n, (.pk false)), (.n, .e), (.s, .e), (.s, .e), (.s, .e), (.s, .e), (.s, .e), (.s, .e), (.s, .e), (.n, .e), (.n, .e), (.s, .e), (.n, .e), (.n, .e)] ({ tm := [(6, .pv (.bool false))], hp := [], nx := 0 }) [((decide (x7.1 = x8.1)) = true), ((decide (x7.1 = x8.1)) = true), ((decide (x7.1 = x8.1)) = true), ((decide (x7.1 = x8.1)) = true), ((decide (x7.2 = x8.2)) = false), ((decide (x7.2 = x8.2)) = false), ((decide (x7.2 = x8.2)) = false), ((decide (x7.2 = x8.2)) = false), ((decide (x7.2 = x8.2)) = false), ((decide (x7.2 = x8.2)) = false), ((decide (x7.2 = x8.2)) = false), ((decide (x7.2 = x8.2)) = false), ((decide (x7.2 = x8.2)) = false), ((decide (x7.2 = x8.2)) = false), (false = false), (false = false), (false = false), (false = false), (false = false), (false = false), (false = false), (false = false)] (by kernel_rfl) (.cons hg9 (.cons hg9 (.cons hg9 (.cons hg9 (.cons hg10 (.cons hg10 (.cons hg10 (.cons hg10 (.cons hg10 (.cons hg10 (.cons hg10 (.cons hg10 (.cons hg10 (.cons hg10 (.cons rfl (.cons rfl (.cons rfl (.cons rfl (.cons rfl (.cons rfl (.cons rfl (.cons rfl .nil)))))))))))))))))))))) (Sub.refl _)
        · replace ht := ite_f ht hg9
          have e := Option.some.inj ht
          subst e
          exact RegTo.mk [(.n, .e), (.n, .e), (.n, .e), (.n, .e), (.s, .e), (.s, .e), (.s, .e), (.n, (.pk false)), (.n, .e), (.s, .e), (.s, .e), (.s, .e), (.s, .e), (.s, .e), (.s, .e), (.s, .e), (.s, .e), (.s, .e), (.n, .e), (.n, .e), (.s, .e), (.s, .e), (.s, .e), (.s, .e), (.s, .e), (.s, .e), (.s, .e), (.n, .e), (.n, .e), (.s, .e), (.n, .e), (.n, .e)] ({ tm := [(6, .pv (.bool false))], hp := [], nx := 0 }) [((decide (x7.1 = x8.1)) = false), ((decide (x7.1 = x8.1)) = false), ((decide (x7.1 = x8.1)) = false), ((decide (x7.1 = x8.1)) = false), (false = false), (false = false), (false = false), (false = false), (false = false), (false = false), (false = false), (false = false), (false = false), (false = false), (false = false), (false = false), (false = false), (false = false), (false = false), (false = false), (false = false)] (by kernel_rfl) (.cons hg9 (.cons hg9 (.cons hg9 (.cons hg9 (.cons rfl (.cons rfl (.cons rfl (.cons rfl (.cons rfl (.cons rfl (.cons rfl (.cons rfl (.cons rfl (.cons rfl (.cons rfl (.cons rfl (.cons rfl (.cons rfl (.cons rfl (.cons rfl (.cons rfl .nil))))))))))))))))))))) (Sub.refl _)
      · clear ht
        refine x_toret ?_
        obtain rfl := Option.some.inj h
        exact x_ret (.bool t20) [] [] (by kernel_rfl) .nil (by decide) (.refl _) (fun _ => rfl)

end Go.Proofs.YtjlbepebaegmeaaDoor
