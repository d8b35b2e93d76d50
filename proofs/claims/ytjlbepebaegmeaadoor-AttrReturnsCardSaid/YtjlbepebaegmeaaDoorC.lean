/- The functions of the program compute what their plain forms compute; printed by a program of the claim's author. -/
import Derived.Test.YtjlbepebaegmeaaDoorV
import Derived.Test.YtjlbepebaegmeaaDoorS
import Derived.Test.YtjlbepebaegmeaaDoorShelf
import Derived.Test.YtjlbepebaegmeaaDoorVmB
import Derived.Test.YtjlbepebaegmeaaDoorB
namespace Go.Proofs.YtjlbepebaegmeaaDoor
open Go.Vm
set_option autoImplicit false
set_option linter.unusedVariables false
set_option linter.unusedSimpArgs false
set_option maxRecDepth 100000

theorem c11 {l : (List api_Attr)} {r : Bool} (h : law22_small l = some r) : CallOK Tryd.prog 11 [.sl (some 3) (List.map enc_api_Attr l)] (.bool r) true := by
  apply ok11
  unfold law22_small at h
  refine x_rg (RegTo.mk [(.n, .e)] ({ tm := [(0, .pv (.sl (some 3) (List.map enc_api_Attr l)))], hp := [], nx := 0 }) [] (by kernel_rfl) .nil (Sub.refl _)) ?_
  refine x_seq ?_
  refine x_rg (RegTo.mk [(.n, .e), (.n, (.len (List.length l : Int))), (.n, .e)] ({ tm := [(0, .pv (.sl (some 3) (List.map enc_api_Attr l))), (6, .pv (.bool (decide (40 < (List.length l : Int)))))], hp := [], nx := 0 }) [((List.length (List.map enc_api_Attr l) : Int) = (List.length l : Int))] (by kernel_rfl) (.cons (by rw [List.length_map]) .nil) (Sub.refl _)) ?_
  refine x_cond _ rfl (fun hc1 => ?_) (fun hc1 => ?_)
  · replace h := ite_t h hc1
    refine x_rg (RegTo.mk [(.n, .e)] ({ tm := [(2, .pv (.bool false))], hp := [], nx := 0 }) [] (by kernel_rfl) .nil (Sub.refl _)) ?_
    refine x_toret ?_
    refine x_tr ?_
    obtain rfl := Option.some.inj h
    exact x_ret (.bool false) [] [] (by kernel_rfl) .nil (by decide) (.refl _) (fun _ => rfl)
  · replace h := ite_f h hc1
    refine x_kw ({ tm := [(0, .pv (.sl (some 3) (List.map enc_api_Attr l)))], hp := [], nx := 0 }) (by kernel_rfl) (Sub.refl _) ?_
    refine x_skip ?_
    refine x_tn ?_
    refine x_seq ?_
    refine x_rg (RegTo.mk [(.n, .e), (.n, (.len (List.length l : Int))), (.n, .e)] ({ tm := [(0, .pv (.sl (some 3) (List.map enc_api_Attr l))), (8, .pv (.int .i64 (List.length l : Int))), (9, .pv (.int .i64 0))], hp := [], nx := 0 }) [((List.length (List.map enc_api_Attr l) : Int) = (List.length l : Int))] (by kernel_rfl) (.cons (by rw [List.length_map]) .nil) (Sub.refl _)) ?_
    refine x_block ?_
    refine x_kw ({ tm := [(0, .pv (.sl (some 3) (List.map enc_api_Attr l))), (8, .pv (.int .i64 (List.length l : Int))), (9, .pv (.int .i64 0))], hp := [], nx := 0 }) (by kernel_rfl) (Sub.refl _) ?_
    refine x_loop (σ := Int) h (fun s => { tm := [(0, .pv (.sl (some 3) (List.map enc_api_Attr l))), (8, .pv (.int .i64 (List.length l : Int))), (9, .pv (.int .i64 s))], hp := [], nx := 0 }) (by kernel_rfl) ?_ ?_
    · rintro v8
      kernel_rfl
    · rintro v8 x9 h hx9
      replace h : law22_small_L9 l v8 = some x9 := h
      unfold law22_small_L9 at h
      refine x_rg (RegTo.mk [(.n, .e)] ({ tm := [(0, .pv (.sl (some 3) (List.map enc_api_Attr l))), (8, .pv (.int .i64 (List.length l : Int))), (9, .pv (.int .i64 v8)), (10, .pv (.bool (decide (v8 < (List.length l : Int)))))], hp := [], nx := 0 }) [] (by kernel_rfl) .nil (Sub.refl _)) ?_
      refine x_seq ?_
      refine x_cond _ rfl (fun hc10 => ?_) (fun hc10 => ?_)
      · replace h := ite_t h hc10
        refine x_kw ({ tm := [(0, .pv (.sl (some 3) (List.map enc_api_Attr l))), (8, .pv (.int .i64 (List.length l : Int))), (9, .pv (.int .i64 v8))], hp := [], nx := 0 }) (by kernel_rfl) (Sub.refl _) ?_
        refine x_skip ?_
        refine x_tn ?_
        refine x_seq ?_
        refine x_block ?_
        refine x_rg (RegTo.mk [(.n, .e), (.n, .e)] ({ tm := [(0, .pv (.sl (some 3) (List.map enc_api_Attr l))), (3, .pv (.int .i64 v8)), (8, .pv (.int .i64 (List.length l : Int))), (9, .pv (.int .i64 v8))], hp := [], nx := 0 }) [] (by kernel_rfl) .nil (Sub.refl _)) ?_
        obtain ⟨x11, hx11, h⟩ := bind_some h
        obtain ⟨t14, ht, h⟩ := bind_some h
        refine x_rg (st2 := { tm := [(0, .pv (.sl (some 3) (List.map enc_api_Attr l))), (8, .pv (.int .i64 (List.length l : Int))), (9, .pv (.int .i64 v8)), (27, .pv (.bool t14))], hp := [], nx := 0 }) ?_ ?_
        · rcases Bool.eq_false_or_eq_true (decide (1100 < (List.length x11.Name : Int))) with hg12 | hg12
          · replace ht := ite_t ht hg12
            have e := Option.some.inj ht
            subst e
            exact RegTo.mk [(.n, .e), (.n, .e), (.n, (.pAt (enc_api_Attr x11))), (.n, .e), (.n, .e), (.n, .e), (.n, .e), (.n, .e), (.s, .e), (.s, .e), (.s, .e), (.s, .e), (.s, .e), (.s, .e), (.s, .e), (.n, (.pk true))] ({ tm := [(0, .pv (.sl (some 3) (List.map enc_api_Attr l))), (8, .pv (.int .i64 (List.length l : Int))), (9, .pv (.int .i64 v8)), (27, .pv (.bool true))], hp := [], nx := 0 }) [(lsAt (List.map enc_api_Attr l) v8 = some (enc_api_Attr x11)), ((decide (1100 < (List.length x11.Name : Int))) = true), ((decide (1100 < (List.length x11.Name : Int))) = true), ((decide (1100 < (List.length x11.Name : Int))) = true), ((decide (1100 < (List.length x11.Name : Int))) = true), ((decide (1100 < (List.length x11.Name : Int))) = true), ((decide (1100 < (List.length x11.Name : Int))) = true), ((decide (1100 < (List.length x11.Name : Int))) = true), ((decide (1100 < (List.length x11.Name : Int))) = true)] (by kernel_rfl) (.cons (lsAt_map hx11) (.cons hg12 (.cons hg12 (.cons hg12 (.cons hg12 (.cons hg12 (.cons hg12 (.cons hg12 (.cons hg12 .nil))))))))) (Sub.refl _)
          · replace ht := ite_f ht hg12
            obtain ⟨x13, hx13, ht⟩ := bind_some ht
            have e := Option.some.inj ht
            subst e
            exact RegTo.mk [(.n, .e), (.n, .e), (.n, (.pAt (enc_api_Attr x11))), (.n, .e), (.n, .e), (.n, .e), (.n, .e), (.n, .e), (.y, .e), (.y, .e), (.y, (.pAt (enc_api_Attr x13))), (.y, .e), (.y, .e), (.y, .e), (.y, .e), (.n, (.pk false))] ({ tm := [(0, .pv (.sl (some 3) (List.map enc_api_Attr l))), (8, .pv (.int .i64 (List.length l : Int))), (9, .pv (.int .i64 v8)), (27, .pv (.bool (decide (1100 < (List.length x13.Value : Int)))))], hp := [], nx := 0 }) [(lsAt (List.map enc_api_Attr l) v8 = some (enc_api_Attr x11)), ((decide (1100 < (List.length x11.Name : Int))) = false), ((decide (1100 < (List.length x11.Name : Int))) = false), ((decide (1100 < (List.length x11.Name : Int))) = false), (lsAt (List.map enc_api_Attr l) v8 = some (enc_api_Attr x13)), ((decide (1100 < (List.length x11.Name : Int))) = false), ((decide (1100 < (List.length x11.Name : Int))) = false), ((decide (1100 < (List.length x11.Name : Int))) = false), ((decide (1100 < (List.length x11.Name : Int))) = false), ((decide (1100 < (List.length x11.Name : Int))) = false)] (by kernel_rfl) (.cons (lsAt_map hx11) (.cons hg12 (.cons hg12 (.cons hg12 (.cons (lsAt_map hx13) (.cons hg12 (.cons hg12 (.cons hg12 (.cons hg12 (.cons hg12 .nil)))))))))) (Sub.refl _)
        · clear ht
          refine x_cond _ rfl (fun hc15 => ?_) (fun hc15 => ?_)
          · replace h := ite_t h hc15
            refine x_rg (RegTo.mk [(.n, .e)] ({ tm := [(2, .pv (.bool false))], hp := [], nx := 0 }) [] (by kernel_rfl) .nil (Sub.refl _)) ?_
            refine x_toret ?_
            refine x_br ?_
            refine x_tr ?_
            refine x_tr ?_
            replace h := done_leaf h hx9
            refine x_br ?_
            refine x_tr ?_
            obtain rfl := Option.some.inj h
            exact x_ret (.bool false) [] [] (by kernel_rfl) .nil (by decide) (.refl _) (fun _ => rfl)
          · replace h := ite_f h hc15
            refine x_kw ({ tm := [(0, .pv (.sl (some 3) (List.map enc_api_Attr l))), (8, .pv (.int .i64 (List.length l : Int))), (9, .pv (.int .i64 v8))], hp := [], nx := 0 }) (by kernel_rfl) (Sub.refl _) ?_
            refine x_skip ?_
            refine x_bn ?_
            refine x_tn ?_
            refine x_rgt (RegTo.mk [(.n, .e), (.n, .e)] ({ tm := [(0, .pv (.sl (some 3) (List.map enc_api_Attr l))), (8, .pv (.int .i64 (List.length l : Int))), (9, .pv (.int .i64 (IntKind.wrap .i64 (v8 + 1))))], hp := [], nx := 0 }) [] (by kernel_rfl) .nil (Sub.refl _)) ?_
            refine x_tn ?_
            exact ⟨_, (Option.some.inj h).symm, by kernel_rfl⟩
      · replace h := ite_f h hc10
        refine x_kw ({ tm := [], hp := [], nx := 0 }) (by kernel_rfl) (Sub.refl _) ?_
        refine x_exit ?_
        refine x_te ?_
        refine x_te ?_
        replace h := done_leaf h hx9
        refine x_bh ?_
        refine x_tn ?_
        refine x_rg (RegTo.mk [(.n, .e)] ({ tm := [(2, .pv (.bool true))], hp := [], nx := 0 }) [] (by kernel_rfl) .nil (Sub.refl _)) ?_
        refine x_toret ?_
        obtain rfl := Option.some.inj h
        exact x_ret (.bool true) [] [] (by kernel_rfl) .nil (by decide) (.refl _) (fun _ => rfl)

theorem c35 {c : Int} {r : Bool} (h : attr_blank c = some r) : CallOK Tryd.prog 35 [.int .u8 c] (.bool r) true := by
  apply ok35
  unfold attr_blank at h
  refine x_rg (RegTo.mk [(.n, .e)] ({ tm := [(0, .pv (.int .u8 c))], hp := [], nx := 0 }) [] (by kernel_rfl) .nil (Sub.refl _)) ?_
  refine x_rg (st2 := { tm := [(2, .pv (.bool ((decide (c = 32)) || (decide (c = 9)))))], hp := [], nx := 0 }) ?_ ?_
  · rcases Bool.eq_false_or_eq_true (decide (c = 32)) with hg1 | hg1
    · exact RegTo.mk [(.n, .e), (.n, .e), (.n, .e), (.s, .e), (.s, .e), (.n, (.pk true)), (.n, .e)] ({ tm := [(2, .pv (.bool true))], hp := [], nx := 0 }) [((decide (c = 32)) = true), ((decide (c = 32)) = true), ((decide (c = 32)) = true)] (by kernel_rfl) (.cons hg1 (.cons hg1 (.cons hg1 .nil))) (.of_eq (by simp only [hg1, Bool.true_or, Bool.false_or, Bool.true_and, Bool.false_and, Bool.or_true, Bool.or_false, Bool.and_true, Bool.and_false, Bool.false_eq_true, if_true, if_false, reduceIte]))
    · exact RegTo.mk [(.n, .e), (.n, .e), (.n, .e), (.y, .e), (.y, .e), (.n, (.pk false)), (.n, .e)] ({ tm := [(2, .pv (.bool (decide (c = 9))))], hp := [], nx := 0 }) [((decide (c = 32)) = false), ((decide (c = 32)) = false), ((decide (c = 32)) = false)] (by kernel_rfl) (.cons hg1 (.cons hg1 (.cons hg1 .nil))) (.of_eq (by simp only [hg1, Bool.true_or, Bool.false_or, Bool.true_and, Bool.false_and, Bool.or_true, Bool.or_false, Bool.and_true, Bool.and_false, Bool.false_eq_true, if_true, if_false, reduceIte]))
  · refine x_toret ?_
    obtain rfl := Option.some.inj h
    exact x_ret (.bool ((decide (c = 32)) || (decide (c = 9)))) [] [] (by kernel_rfl) .nil (by decide) (.refl _) (fun _ => rfl)

theorem c71 {a0 : Str} {a1 : Int} {r : Int} (h : stringslite_IndexByte a0 a1 = some r) : CallOK Tryd.prog 71 [.str a0, .int .u8 a1] (.int .i64 r) true :=
  ok_indexByte Tryd.func71 (by kernel_rfl) (by kernel_rfl) Tryd.stringslite_IndexByte h

theorem c64 {s_ : Str} {c : Int} {r : Int} (h : strings_IndexByte s_ c = some r) : CallOK Tryd.prog 64 [.str s_, .int .u8 c] (.int .i64 r) true := by
  apply ok64
  unfold strings_IndexByte at h
  refine x_rg (RegTo.mk [(.n, .e)] ({ tm := [(0, .pv (.str s_)), (1, .pv (.int .u8 c))], hp := [], nx := 0 }) [] (by kernel_rfl) .nil (Sub.refl _)) ?_
  obtain ⟨x1, hx1, h⟩ := bind_some h
  refine x_rg (RegTo.mk [(.n, .e), (.n, .e), (.n, (.call [] [.str s_, .int .u8 c] (.int .i64 x1) true)), (.n, .e)] ({ tm := [(4, .pv (.int .i64 x1))], hp := [], nx := 0 }) [(LesA [.str s_, .int .u8 c] [.str s_, .int .u8 c]), (CallOK Tryd.prog 71 [.str s_, .int .u8 c] (.int .i64 x1) true)] (by kernel_rfl) (.cons (LesA.rfl' _) (.cons (c71 hx1) .nil)) (Sub.refl _)) ?_
  refine x_toret ?_
  obtain rfl := Option.some.inj h
  exact x_ret (.int .i64 x1) [] [] (by kernel_rfl) .nil (by decide) (.refl _) (fun _ => rfl)

theorem c47 {s_ : Str} {stops : Str} {r : Int} (h : attr_until s_ stops = some r) : CallOK Tryd.prog 47 [.str s_, .str stops] (.int .i64 r) true := by
  apply ok47
  unfold attr_until at h
  refine x_rg (RegTo.mk [(.n, .e)] ({ tm := [(0, .pv (.str s_)), (1, .pv (.str stops))], hp := [], nx := 0 }) [] (by kernel_rfl) .nil (Sub.refl _)) ?_
  refine x_seq ?_
  refine x_rg (RegTo.mk [(.n, .e), (.n, .e), (.n, .e)] ({ tm := [(0, .pv (.str s_)), (1, .pv (.str stops)), (7, .pv (.int .i64 (List.length s_ : Int))), (8, .pv (.int .i64 0))], hp := [], nx := 0 }) [] (by kernel_rfl) .nil (Sub.refl _)) ?_
  refine x_block ?_
  refine x_kw ({ tm := [(0, .pv (.str s_)), (1, .pv (.str stops)), (7, .pv (.int .i64 (List.length s_ : Int))), (8, .pv (.int .i64 0))], hp := [], nx := 0 }) (by kernel_rfl) (Sub.refl _) ?_
  refine x_loop (σ := Int) h (fun s => { tm := [(0, .pv (.str s_)), (1, .pv (.str stops)), (7, .pv (.int .i64 (List.length s_ : Int))), (8, .pv (.int .i64 s))], hp := [], nx := 0 }) (by kernel_rfl) ?_ ?_
  · rintro v5
    kernel_rfl
  · rintro v5 x6 h hx6
    replace h : attr_until_L6 s_ stops v5 = some x6 := h
    unfold attr_until_L6 at h
    refine x_rg (RegTo.mk [(.n, .e)] ({ tm := [(0, .pv (.str s_)), (1, .pv (.str stops)), (7, .pv (.int .i64 (List.length s_ : Int))), (8, .pv (.int .i64 v5)), (9, .pv (.bool (decide (v5 < (List.length s_ : Int)))))], hp := [], nx := 0 }) [] (by kernel_rfl) .nil (Sub.refl _)) ?_
    refine x_seq ?_
    refine x_cond _ rfl (fun hc7 => ?_) (fun hc7 => ?_)
    · replace h := ite_t h hc7
      refine x_kw ({ tm := [(0, .pv (.str s_)), (1, .pv (.str stops)), (7, .pv (.int .i64 (List.length s_ : Int))), (8, .pv (.int .i64 v5))], hp := [], nx := 0 }) (by kernel_rfl) (Sub.refl _) ?_
      refine x_skip ?_
      refine x_tn ?_
      refine x_seq ?_
      refine x_block ?_
      refine x_rg (RegTo.mk [(.n, .e), (.n, .e)] ({ tm := [(0, .pv (.str s_)), (1, .pv (.str stops)), (5, .pv (.int .i64 v5)), (7, .pv (.int .i64 (List.length s_ : Int))), (8, .pv (.int .i64 v5))], hp := [], nx := 0 }) [] (by kernel_rfl) .nil (Sub.refl _)) ?_
      obtain ⟨c8, hc8, h⟩ := bind_some h
      obtain ⟨x9, hx9, h⟩ := bind_some h
      refine x_rg (RegTo.mk [(.n, .e), (.n, .e), (.n, .e), (.n, (.sAt c8)), (.n, (.call [] [.str stops, .int .u8 (c8.toNat : Int)] (.int .i64 x9) true)), (.n, .e)] ({ tm := [(0, .pv (.str s_)), (1, .pv (.str stops)), (5, .pv (.int .i64 v5)), (7, .pv (.int .i64 (List.length s_ : Int))), (8, .pv (.int .i64 v5)), (16, .pv (.bool (decide (0 ≤ x9))))], hp := [], nx := 0 }) [(strAt s_ v5 = some c8), (LesA [.str stops, .int .u8 (c8.toNat : Int)] [.str stops, .int .u8 (c8.toNat : Int)]), (CallOK Tryd.prog 64 [.str stops, .int .u8 (c8.toNat : Int)] (.int .i64 x9) true)] (by kernel_rfl) (.cons hc8 (.cons (LesA.rfl' _) (.cons (c64 hx9) .nil))) (Sub.refl _)) ?_
      refine x_cond _ rfl (fun hc10 => ?_) (fun hc10 => ?_)
      · replace h := ite_t h hc10
        refine x_rg (RegTo.mk [(.n, .e), (.n, .e)] ({ tm := [(4, .pv (.int .i64 v5))], hp := [], nx := 0 }) [] (by kernel_rfl) .nil (Sub.refl _)) ?_
        refine x_toret ?_
        refine x_br ?_
        refine x_tr ?_
        refine x_tr ?_
        replace h := done_leaf h hx6
        refine x_br ?_
        refine x_tr ?_
        obtain rfl := Option.some.inj h
        exact x_ret (.int .i64 v5) [] [] (by kernel_rfl) .nil (by decide) (.refl _) (fun _ => rfl)
      · replace h := ite_f h hc10
        refine x_kw ({ tm := [(0, .pv (.str s_)), (1, .pv (.str stops)), (7, .pv (.int .i64 (List.length s_ : Int))), (8, .pv (.int .i64 v5))], hp := [], nx := 0 }) (by kernel_rfl) (Sub.refl _) ?_
        refine x_skip ?_
        refine x_bn ?_
        refine x_tn ?_
        refine x_rgt (RegTo.mk [(.n, .e), (.n, .e)] ({ tm := [(0, .pv (.str s_)), (1, .pv (.str stops)), (7, .pv (.int .i64 (List.length s_ : Int))), (8, .pv (.int .i64 (IntKind.wrap .i64 (v5 + 1))))], hp := [], nx := 0 }) [] (by kernel_rfl) .nil (Sub.refl _)) ?_
        refine x_tn ?_
        exact ⟨_, (Option.some.inj h).symm, by kernel_rfl⟩
    · replace h := ite_f h hc7
      refine x_kw ({ tm := [(0, .pv (.str s_))], hp := [], nx := 0 }) (by kernel_rfl) (Sub.refl _) ?_
      refine x_exit ?_
      refine x_te ?_
      refine x_te ?_
      replace h := done_leaf h hx6
      refine x_bh ?_
      refine x_tn ?_
      refine x_rg (RegTo.mk [(.n, .e), (.n, .e), (.n, .e)] ({ tm := [(4, .pv (.int .i64 (List.length s_ : Int)))], hp := [], nx := 0 }) [] (by kernel_rfl) .nil (Sub.refl _)) ?_
      refine x_toret ?_
      obtain rfl := Option.some.inj h
      exact x_ret (.int .i64 (List.length s_ : Int)) [] [] (by kernel_rfl) .nil (by decide) (.refl _) (fun _ => rfl)

theorem c61 {s_ : Str} {prefix_ : Str} {r : Bool} (h : stringslite_HasPrefix s_ prefix_ = some r) : CallOK Tryd.prog 61 [.str s_, .str prefix_] (.bool r) true := by
  apply ok61
  unfold stringslite_HasPrefix at h
  refine x_rg (RegTo.mk [(.n, .e)] ({ tm := [(0, .pv (.str s_)), (1, .pv (.str prefix_))], hp := [], nx := 0 }) [] (by kernel_rfl) .nil (Sub.refl _)) ?_
  obtain ⟨t3, ht, h⟩ := bind_some h
  refine x_rg (st2 := { tm := [(4, .pv (.bool t3))], hp := [], nx := 0 }) ?_ ?_
  · rcases Bool.eq_false_or_eq_true (decide ((List.length prefix_ : Int) ≤ (List.length s_ : Int))) with hg1 | hg1
    · replace ht := ite_t ht hg1
      obtain ⟨x2, hx2, ht⟩ := bind_some ht
      have e := Option.some.inj ht
      subst e
      exact RegTo.mk [(.n, .e), (.n, .e), (.n, .e), (.n, .e), (.n, .e), (.n, .e), (.y, .e), (.y, .e), (.y, .e), (.y, (.cutS x2)), (.y, .e), (.y, .e), (.n, (.pk true)), (.n, .e)] ({ tm := [(4, .pv (.bool (decide (x2 = prefix_))))], hp := [], nx := 0 }) [((decide ((List.length prefix_ : Int) ≤ (List.length s_ : Int))) = true), ((decide ((List.length prefix_ : Int) ≤ (List.length s_ : Int))) = true), ((decide ((List.length prefix_ : Int) ≤ (List.length s_ : Int))) = true), ((decide ((List.length prefix_ : Int) ≤ (List.length s_ : Int))) = true), (cut s_ 0 (List.length prefix_ : Int) = some x2), ((decide ((List.length prefix_ : Int) ≤ (List.length s_ : Int))) = true), ((decide ((List.length prefix_ : Int) ≤ (List.length s_ : Int))) = true), ((decide ((List.length prefix_ : Int) ≤ (List.length s_ : Int))) = true)] (by kernel_rfl) (.cons hg1 (.cons hg1 (.cons hg1 (.cons hg1 (.cons hx2 (.cons hg1 (.cons hg1 (.cons hg1 .nil)))))))) (Sub.refl _)
    · replace ht := ite_f ht hg1
      have e := Option.some.inj ht
      subst e
      exact RegTo.mk [(.n, .e), (.n, .e), (.n, .e), (.n, .e), (.n, .e), (.n, .e), (.s, .e), (.s, .e), (.s, .e), (.s, .e), (.s, .e), (.s, .e), (.n, (.pk false)), (.n, .e)] ({ tm := [(4, .pv (.bool false))], hp := [], nx := 0 }) [((decide ((List.length prefix_ : Int) ≤ (List.length s_ : Int))) = false), ((decide ((List.length prefix_ : Int) ≤ (List.length s_ : Int))) = false), ((decide ((List.length prefix_ : Int) ≤ (List.length s_ : Int))) = false), ((decide ((List.length prefix_ : Int) ≤ (List.length s_ : Int))) = false), ((decide ((List.length prefix_ : Int) ≤ (List.length s_ : Int))) = false), ((decide ((List.length prefix_ : Int) ≤ (List.length s_ : Int))) = false), ((decide ((List.length prefix_ : Int) ≤ (List.length s_ : Int))) = false)] (by kernel_rfl) (.cons hg1 (.cons hg1 (.cons hg1 (.cons hg1 (.cons hg1 (.cons hg1 (.cons hg1 .nil))))))) (Sub.refl _)
  · clear ht
    refine x_toret ?_
    obtain rfl := Option.some.inj h
    exact x_ret (.bool t3) [] [] (by kernel_rfl) .nil (by decide) (.refl _) (fun _ => rfl)

theorem c42 {s_ : Str} {prefix_ : Str} {r : Bool} (h : strings_HasPrefix s_ prefix_ = some r) : CallOK Tryd.prog 42 [.str s_, .str prefix_] (.bool r) true := by
  apply ok42
  unfold strings_HasPrefix at h
  refine x_rg (RegTo.mk [(.n, .e)] ({ tm := [(0, .pv (.str s_)), (1, .pv (.str prefix_))], hp := [], nx := 0 }) [] (by kernel_rfl) .nil (Sub.refl _)) ?_
  obtain ⟨x1, hx1, h⟩ := bind_some h
  refine x_rg (RegTo.mk [(.n, .e), (.n, .e), (.n, (.call [] [.str s_, .str prefix_] (.bool x1) true)), (.n, .e)] ({ tm := [(4, .pv (.bool x1))], hp := [], nx := 0 }) [(LesA [.str s_, .str prefix_] [.str s_, .str prefix_]), (CallOK Tryd.prog 61 [.str s_, .str prefix_] (.bool x1) true)] (by kernel_rfl) (.cons (LesA.rfl' _) (.cons (c61 hx1) .nil)) (Sub.refl _)) ?_
  refine x_toret ?_
  obtain rfl := Option.some.inj h
  exact x_ret (.bool x1) [] [] (by kernel_rfl) .nil (by decide) (.refl _) (fun _ => rfl)

theorem c56 {s_ : Str} {r : (Str × Int × Bool)} (h : attr_quoted s_ = some r) : CallOK Tryd.prog 56 [.str s_] (.tup [.str r.1, .int .i64 r.2.1, .bool r.2.2]) true := by
  apply ok56
  unfold attr_quoted at h
  refine x_rg (RegTo.mk [(.n, .e), (.n, .e), (.n, .e)] ({ tm := [(0, .pv (.str s_))], hp := [], nx := 0 }) [] (by kernel_rfl) .nil (Sub.refl _)) ?_
  refine x_rg (RegTo.mk [(.n, .bld)] ({ tm := [(0, .pv (.str s_)), (5, .optr 0 0 0)], hp := [(0, some (.b 62 5 ([] : Str)))], nx := 1 }) [(∀ (k : Nat) (T' e' : TypeId) (bs' : List UInt8), lookR [] k ≠ some (.b T' e' bs'))] (by kernel_rfl) (.cons (noB (by kernel_rfl)) .nil) (Sub.refl _)) ?_
  refine x_seq ?_
  refine x_rg (RegTo.mk [(.n, .e)] ({ tm := [(0, .pv (.str s_)), (5, .optr 0 0 0), (6, .pv (.int .i64 0))], hp := [(0, some (.b 62 5 ([] : Str)))], nx := 1 }) [] (by kernel_rfl) .nil (Sub.refl _)) ?_
  refine x_block ?_
  refine x_kw ({ tm := [(0, .pv (.str s_)), (5, .optr 0 0 0), (6, .pv (.int .i64 0))], hp := [(0, some (.b 62 5 ([] : Str)))], nx := 1 }) (by kernel_rfl) (Sub.refl _) ?_
  refine x_loop (σ := (Int × Str)) h (fun s => { tm := [(0, .pv (.str s_)), (5, .optr 0 0 0), (6, .pv (.int .i64 s.1))], hp := [(0, some (.b 62 5 s.2))], nx := 1 }) (by kernel_rfl) ?_ ?_
  · rintro ⟨i, v12⟩
    kernel_rfl
  · rintro ⟨i, v12⟩ x13 h hx13
    replace h : attr_quoted_L13 s_ i v12 = some x13 := h
    unfold attr_quoted_L13 at h
    refine x_seq ?_
    refine x_rg (RegTo.mk [(.n, .e), (.n, .e), (.n, .e), (.n, .e)] ({ tm := [(0, .pv (.str s_)), (5, .optr 0 0 0), (6, .pv (.int .i64 i)), (10, .pv (.bool (decide (i < (List.length s_ : Int)))))], hp := [(0, some (.b 62 5 v12))], nx := 1 }) [] (by kernel_rfl) .nil (Sub.refl _)) ?_
    refine x_cond _ rfl (fun hc14 => ?_) (fun hc14 => ?_)
    · replace h := ite_t h hc14
      refine x_kw ({ tm := [(0, .pv (.str s_)), (5, .optr 0 0 0), (6, .pv (.int .i64 i))], hp := [(0, some (.b 62 5 v12))], nx := 1 }) (by kernel_rfl) (Sub.refl _) ?_
      refine x_skip ?_
      refine x_tn ?_
      refine x_seq ?_
      refine x_block ?_
      refine x_seq ?_
      obtain ⟨c15, hc15, h⟩ := bind_some h
      refine x_rg (RegTo.mk [(.n, .e), (.n, .e), (.n, (.sAt c15)), (.n, .e)] ({ tm := [(0, .pv (.str s_)), (5, .optr 0 0 0), (6, .pv (.int .i64 i)), (16, .pv (.bool (!decide ((c15.toNat : Int) = 39))))], hp := [(0, some (.b 62 5 v12))], nx := 1 }) [(strAt s_ i = some c15)] (by kernel_rfl) (.cons hc15 .nil) (Sub.refl _)) ?_
      refine x_cond _ rfl (fun hc16 => ?_) (fun hc16 => ?_)
      · replace h := ite_t h hc16
        obtain ⟨c17, hc17, h⟩ := bind_some h
        obtain ⟨x18, hx18, h⟩ := bind_some h
        refine x_rg (RegTo.mk [(.n, .e), (.n, .e), (.n, (.sAt c17)), (.n, .bcall .niliface x18)] ({ tm := [(0, .pv (.str s_)), (5, .optr 0 0 0), (6, .pv (.int .i64 i))], hp := [(0, some (.b 62 5 x18))], nx := 1 }) [(strAt s_ i = some c17), (BuilderOK Tryd.prog 68 62 5 v12 [.int .u8 (c17.toNat : Int)] (.niliface) x18)] (by kernel_rfl) (.cons hc17 (.cons (b68 (c := c17) hx18) .nil)) (Sub.refl _)) ?_
        refine x_kw ({ tm := [(0, .pv (.str s_)), (5, .optr 0 0 0), (6, .pv (.int .i64 i))], hp := [(0, some (.b 62 5 x18))], nx := 1 }) (by kernel_rfl) (Sub.refl _) ?_
        refine x_exit ?_
        refine x_te ?_
        refine x_bh ?_
        refine x_tn ?_
        refine x_rgt (RegTo.mk [(.n, .e), (.n, .e), (.n, .e)] ({ tm := [(0, .pv (.str s_)), (5, .optr 0 0 0), (6, .pv (.int .i64 (IntKind.wrap .i64 (i + 1))))], hp := [(0, some (.b 62 5 x18))], nx := 1 }) [] (by kernel_rfl) .nil (Sub.refl _)) ?_
        refine x_tn ?_
        exact ⟨_, (Option.some.inj h).symm, by kernel_rfl⟩
      · replace h := ite_f h hc16
        refine x_kw ({ tm := [(0, .pv (.str s_)), (5, .optr 0 0 0), (6, .pv (.int .i64 i))], hp := [(0, some (.b 62 5 v12))], nx := 1 }) (by kernel_rfl) (Sub.refl _) ?_
        refine x_skip ?_
        refine x_tn ?_
        refine x_seq ?_
        obtain ⟨t21, ht, h⟩ := bind_some h
        refine x_rg (st2 := { tm := [(0, .pv (.str s_)), (5, .optr 0 0 0), (6, .pv (.int .i64 i)), (32, .pv (.bool t21))], hp := [(0, some (.b 62 5 v12))], nx := 1 }) ?_ ?_
        · rcases Bool.eq_false_or_eq_true (decide ((IntKind.wrap .i64 (i + 1)) = (List.length s_ : Int))) with hg19 | hg19
          · replace ht := ite_t ht hg19
            have e := Option.some.inj ht
            subst e
            exact RegTo.mk [(.n, .e), (.n, .e), (.n, .e), (.n, .e), (.n, .e), (.n, .e), (.s, .e), (.s, .e), (.s, .e), (.s, .e), (.s, .e), (.n, (.pk true))] ({ tm := [(0, .pv (.str s_)), (5, .optr 0 0 0), (6, .pv (.int .i64 i)), (32, .pv (.bool true))], hp := [(0, some (.b 62 5 v12))], nx := 1 }) [((decide ((IntKind.wrap .i64 (i + 1)) = (List.length s_ : Int))) = true), ((decide ((IntKind.wrap .i64 (i + 1)) = (List.length s_ : Int))) = true), ((decide ((IntKind.wrap .i64 (i + 1)) = (List.length s_ : Int))) = true), ((decide ((IntKind.wrap .i64 (i + 1)) = (List.length s_ : Int))) = true), ((decide ((IntKind.wrap .i64 (i + 1)) = (List.length s_ : Int))) = true), ((decide ((IntKind.wrap .i64 (i + 1)) = (List.length s_ : Int))) = true)] (by kernel_rfl) (.cons hg19 (.cons hg19 (.cons hg19 (.cons hg19 (.cons hg19 (.cons hg19 .nil)))))) (Sub.refl _)
          · replace ht := ite_f ht hg19
            obtain ⟨c20, hc20, ht⟩ := bind_some ht
            have e := Option.some.inj ht
            subst e
            exact RegTo.mk [(.n, .e), (.n, .e), (.n, .e), (.n, .e), (.n, .e), (.n, .e), (.y, .e), (.y, .e), (.y, .e), (.y, (.sAt c20)), (.y, .e), (.n, (.pk false))] ({ tm := [(0, .pv (.str s_)), (5, .optr 0 0 0), (6, .pv (.int .i64 i)), (32, .pv (.bool (!decide ((c20.toNat : Int) = 39))))], hp := [(0, some (.b 62 5 v12))], nx := 1 }) [((decide ((IntKind.wrap .i64 (i + 1)) = (List.length s_ : Int))) = false), ((decide ((IntKind.wrap .i64 (i + 1)) = (List.length s_ : Int))) = false), ((decide ((IntKind.wrap .i64 (i + 1)) = (List.length s_ : Int))) = false), ((decide ((IntKind.wrap .i64 (i + 1)) = (List.length s_ : Int))) = false), (strAt s_ (IntKind.wrap .i64 (i + 1)) = some c20), ((decide ((IntKind.wrap .i64 (i + 1)) = (List.length s_ : Int))) = false), ((decide ((IntKind.wrap .i64 (i + 1)) = (List.length s_ : Int))) = false)] (by kernel_rfl) (.cons hg19 (.cons hg19 (.cons hg19 (.cons hg19 (.cons hc20 (.cons hg19 (.cons hg19 .nil))))))) (Sub.refl _)
        · clear ht
          refine x_cond _ rfl (fun hc22 => ?_) (fun hc22 => ?_)
          · replace h := ite_t h hc22
            refine x_rg (RegTo.mk [(.n, .bcall (.str v12) v12), (.n, .e), (.n, .e), (.n, .e), (.n, .e), (.n, .e)] ({ tm := [(2, .pv (.str v12)), (3, .pv (.int .i64 (IntKind.wrap .i64 (i + 1)))), (4, .pv (.bool true))], hp := [], nx := 0 }) [(BuilderOK Tryd.prog 55 62 5 v12 [] (.str v12) v12)] (by kernel_rfl) (.cons (b55 _) .nil) (Sub.refl _)) ?_
            refine x_toret ?_
            refine x_tr ?_
            refine x_br ?_
            refine x_tr ?_
            refine x_tr ?_
            replace h := done_leaf h hx13
            refine x_br ?_
            refine x_tr ?_
            obtain rfl := Option.some.inj h
            exact x_ret (.tup [.str v12, .int .i64 (IntKind.wrap .i64 (i + 1)), .bool true]) [] [] (by kernel_rfl) .nil (by decide) (.tup (.cons (.refl _) (.cons (.refl _) (.cons (.refl _) .nil)))) (fun _ => rfl)
          · replace h := ite_f h hc22
            refine x_kw ({ tm := [(0, .pv (.str s_)), (5, .optr 0 0 0), (6, .pv (.int .i64 i))], hp := [(0, some (.b 62 5 v12))], nx := 1 }) (by kernel_rfl) (Sub.refl _) ?_
            refine x_skip ?_
            refine x_tn ?_
            obtain ⟨x23, hx23, h⟩ := bind_some h
            refine x_rg (RegTo.mk [(.n, .bcall .niliface x23)] ({ tm := [(0, .pv (.str s_)), (5, .optr 0 0 0), (6, .pv (.int .i64 i))], hp := [(0, some (.b 62 5 x23))], nx := 1 }) [(BuilderOK Tryd.prog 68 62 5 v12 [.int .u8 39] (.niliface) x23)] (by kernel_rfl) (.cons (b68 (c := (39 : UInt8)) hx23) .nil) (Sub.refl _)) ?_
            refine x_rgt (RegTo.mk [(.n, .e), (.n, .e), (.n, .e)] ({ tm := [(0, .pv (.str s_)), (5, .optr 0 0 0), (6, .pv (.int .i64 (IntKind.wrap .i64 (i + 1))))], hp := [(0, some (.b 62 5 x23))], nx := 1 }) [] (by kernel_rfl) .nil (Sub.refl _)) ?_
            refine x_bn ?_
            refine x_tn ?_
            refine x_rgt (RegTo.mk [(.n, .e), (.n, .e), (.n, .e)] ({ tm := [(0, .pv (.str s_)), (5, .optr 0 0 0), (6, .pv (.int .i64 (IntKind.wrap .i64 ((IntKind.wrap .i64 (i + 1)) + 1))))], hp := [(0, some (.b 62 5 x23))], nx := 1 }) [] (by kernel_rfl) .nil (Sub.refl _)) ?_
            refine x_tn ?_
            exact ⟨_, (Option.some.inj h).symm, by kernel_rfl⟩
    · replace h := ite_f h hc14
      refine x_kw ({ tm := [], hp := [], nx := 0 }) (by kernel_rfl) (Sub.refl _) ?_
      refine x_exit ?_
      refine x_te ?_
      refine x_te ?_
      replace h := done_leaf h hx13
      refine x_bh ?_
      refine x_tn ?_
      refine x_rg (RegTo.mk [(.n, .e), (.n, .e), (.n, .e)] ({ tm := [(2, .pv (.str [])), (3, .pv (.int .i64 0)), (4, .pv (.bool false))], hp := [], nx := 0 }) [] (by kernel_rfl) .nil (Sub.refl _)) ?_
      refine x_toret ?_
      obtain rfl := Option.some.inj h
      exact x_ret (.tup [.str [], .int .i64 0, .bool false]) [] [] (by kernel_rfl) .nil (by decide) (.tup (.cons (.refl _) (.cons (.refl _) (.cons (.refl _) .nil)))) (fun _ => rfl)

theorem c69 {a0 : Str} {a1 : Str} {r : Int} (h : strings_Index a0 a1 = some r) : CallOK Tryd.prog 69 [.str a0, .str a1] (.int .i64 r) true :=
  ok_index Tryd.func69 (by kernel_rfl) (by kernel_rfl) Tryd.strings_Index_one h

theorem c57 {s_ : Str} {substr : Str} {r : Bool} (h : strings_Contains s_ substr = some r) : CallOK Tryd.prog 57 [.str s_, .str substr] (.bool r) true := by
  apply ok57
  unfold strings_Contains at h
  refine x_rg (RegTo.mk [(.n, .e)] ({ tm := [(0, .pv (.str s_)), (1, .pv (.str substr))], hp := [], nx := 0 }) [] (by kernel_rfl) .nil (Sub.refl _)) ?_
  obtain ⟨x1, hx1, h⟩ := bind_some h
  refine x_rg (RegTo.mk [(.n, .e), (.n, .e), (.n, (.call [] [.str s_, .str substr] (.int .i64 x1) true)), (.n, .e), (.n, .e)] ({ tm := [(4, .pv (.bool (decide (0 ≤ x1))))], hp := [], nx := 0 }) [(LesA [.str s_, .str substr] [.str s_, .str substr]), (CallOK Tryd.prog 69 [.str s_, .str substr] (.int .i64 x1) true)] (by kernel_rfl) (.cons (LesA.rfl' _) (.cons (c69 hx1) .nil)) (Sub.refl _)) ?_
  refine x_toret ?_
  obtain rfl := Option.some.inj h
  exact x_ret (.bool (decide (0 ≤ x1))) [] [] (by kernel_rfl) .nil (by decide) (.refl _) (fun _ => rfl)

theorem c36 {s_ : Str} {r : (api_Attr × Int × Int)} (h : attr_one s_ = some r) : CallOK Tryd.prog 36 [.str s_] (.tup [enc_api_Attr r.1, .int .i64 r.2.1, .int .i64 r.2.2]) true := by
  apply ok36
  unfold attr_one at h
  refine x_rg (RegTo.mk [(.n, .e), (.n, .e), (.n, .e)] ({ tm := [(0, .pv (.str s_)), (2, .optr 0 0 0)], hp := [(0, some (.p (some 3) [.agg [.str [], .str [], .bool false]]))], nx := 1 }) [] (by kernel_rfl) .nil (Sub.refl _)) ?_
  obtain ⟨x1, hx1, h⟩ := bind_some h
  refine x_rg (RegTo.mk [(.n, .e), (.n, (.call [] [.str s_, .str [32, 9, 61, 63, 39]] (.int .i64 x1) true)), (.n, .e)] ({ tm := [(0, .pv (.str s_)), (2, .optr 0 0 0), (5, .pv (.int .i64 x1))], hp := [(0, some (.p (some 3) [.agg [.str [], .str [], .bool false]]))], nx := 1 }) [(LesA [.str s_, .str [32, 9, 61, 63, 39]] [.str s_, .str [32, 9, 61, 63, 39]]), (CallOK Tryd.prog 47 [.str s_, .str [32, 9, 61, 63, 39]] (.int .i64 x1) true)] (by kernel_rfl) (.cons (LesA.rfl' _) (.cons (c47 hx1) .nil)) (Sub.refl _)) ?_
  obtain ⟨x2, hx2, h⟩ := bind_some h
  refine x_rg (RegTo.mk [(.n, .e), (.n, .e), (.n, (.cutS x2)), (.n, .e), (.n, .e), (.n, .e)] ({ tm := [(0, .pv (.str s_)), (2, .optr 0 0 0), (5, .pv (.int .i64 x1)), (6, .optr 1 0 0)], hp := [(0, some (.p (some 3) [.agg [.str [], .str [], .bool false]])), (1, some (.p (some 3) [.agg [.str x2, .str [], .bool false]]))], nx := 2 }) [(cut s_ 0 x1 = some x2)] (by kernel_rfl) (.cons hx2 .nil) (Sub.refl _)) ?_
  obtain ⟨x3, hx3, h⟩ := bind_some h
  refine x_rg (RegTo.mk [(.n, .e), (.n, .e), (.n, (.cutS x3)), (.n, .e)] ({ tm := [(0, .pv (.str s_)), (2, .optr 0 0 0), (5, .pv (.int .i64 x1)), (6, .optr 1 0 0), (7, .pv (.str x3))], hp := [(0, some (.p (some 3) [.agg [.str [], .str [], .bool false]])), (1, some (.p (some 3) [.agg [.str x2, .str [], .bool false]]))], nx := 2 }) [(cut s_ x1 (List.length s_ : Int) = some x3)] (by kernel_rfl) (.cons hx3 .nil) (Sub.refl _)) ?_
  refine x_join (τ := (Int × Str × Bool)) (fun t => attr_one_K4 s_ x2 t.1 t.2.1 t.2.2 = some r) (fun t => { tm := [(0, .pv (.str s_)), (2, .optr 0 0 0), (5, .pv (.int .i64 t.1)), (6, .optr 1 0 0)], hp := [(0, some (.p (some 3) [.agg [.str [], .str [], .bool false]])), (1, some (.p (some 3) [.agg [.str x2, .str t.2.1, .bool t.2.2]]))], nx := 2 }) ?_ ?_
  · rintro ⟨p5, p6, p7⟩ h
    replace h : attr_one_K4 s_ x2 p5 p6 p7 = some r := h
    unfold attr_one_K4 at h
    refine x_seq ?_
    obtain ⟨t11, ht, h⟩ := bind_some h
    refine x_rg (st2 := { tm := [(2, .optr 0 0 0), (5, .pv (.int .i64 p5)), (6, .optr 1 0 0), (73, .pv (.bool t11))], hp := [(0, some (.p (some 3) [.agg [.str [], .str [], .bool false]])), (1, some (.p (some 3) [.agg [.str x2, .str p6, .bool p7]]))], nx := 2 }) ?_ ?_
    · rcases Bool.eq_false_or_eq_true (decide (p5 < (List.length s_ : Int))) with hg8 | hg8
      · replace ht := ite_t ht hg8
        obtain ⟨c9, hc9, ht⟩ := bind_some ht
        obtain ⟨x10, hx10, ht⟩ := bind_some ht
        have e := Option.some.inj ht
        subst e
        exact RegTo.mk [(.n, .e), (.n, .e), (.n, .e), (.n, .e), (.n, .e), (.y, .e), (.y, .e), (.y, (.sAt c9)), (.y, (.call [] [.int .u8 (c9.toNat : Int)] (.bool x10) true)), (.y, .e), (.n, (.pk true))] ({ tm := [(2, .optr 0 0 0), (5, .pv (.int .i64 p5)), (6, .optr 1 0 0), (73, .pv (.bool (!x10)))], hp := [(0, some (.p (some 3) [.agg [.str [], .str [], .bool false]])), (1, some (.p (some 3) [.agg [.str x2, .str p6, .bool p7]]))], nx := 2 }) [((decide (p5 < (List.length s_ : Int))) = true), ((decide (p5 < (List.length s_ : Int))) = true), ((decide (p5 < (List.length s_ : Int))) = true), (strAt s_ p5 = some c9), ((decide (p5 < (List.length s_ : Int))) = true), (LesA [.int .u8 (c9.toNat : Int)] [.int .u8 (c9.toNat : Int)]), (CallOK Tryd.prog 35 [.int .u8 (c9.toNat : Int)] (.bool x10) true), ((decide (p5 < (List.length s_ : Int))) = true), ((decide (p5 < (List.length s_ : Int))) = true)] (by kernel_rfl) (.cons hg8 (.cons hg8 (.cons hg8 (.cons hc9 (.cons hg8 (.cons (LesA.rfl' _) (.cons (c35 hx10) (.cons hg8 (.cons hg8 .nil))))))))) (Sub.refl _)
      · replace ht := ite_f ht hg8
        have e := Option.some.inj ht
        subst e
        exact RegTo.mk [(.n, .e), (.n, .e), (.n, .e), (.n, .e), (.n, .e), (.s, .e), (.s, .e), (.s, .e), (.s, .e), (.s, .e), (.n, (.pk false))] ({ tm := [(2, .optr 0 0 0), (5, .pv (.int .i64 p5)), (6, .optr 1 0 0), (73, .pv (.bool false))], hp := [(0, some (.p (some 3) [.agg [.str [], .str [], .bool false]])), (1, some (.p (some 3) [.agg [.str x2, .str p6, .bool p7]]))], nx := 2 }) [((decide (p5 < (List.length s_ : Int))) = false), ((decide (p5 < (List.length s_ : Int))) = false), ((decide (p5 < (List.length s_ : Int))) = false), ((decide (p5 < (List.length s_ : Int))) = false), ((decide (p5 < (List.length s_ : Int))) = false), ((decide (p5 < (List.length s_ : Int))) = false)] (by kernel_rfl) (.cons hg8 (.cons hg8 (.cons hg8 (.cons hg8 (.cons hg8 (.cons hg8 .nil)))))) (Sub.refl _)
    · clear ht
      refine x_cond _ rfl (fun hc12 => ?_) (fun hc12 => ?_)
      · replace h := ite_t h hc12
        refine x_rg (RegTo.mk [(.n, .e), (.n, .e), (.n, .e), (.n, .e)] ({ tm := [(2, .optr 0 0 0), (3, .pv (.int .i64 0)), (4, .pv (.int .i64 2))], hp := [(0, some (.p (some 3) [.agg [.str [], .str [], .bool false]]))], nx := 1 }) [] (by kernel_rfl) .nil (Sub.refl _)) ?_
        refine x_toret ?_
        refine x_tr ?_
        obtain rfl := Option.some.inj h
        exact x_ret (.tup [.agg [.str [], .str [], .bool false], .int .i64 0, .int .i64 2]) [] [] (by kernel_rfl) .nil (by decide) (.tup (.cons (.refl _) (.cons (.refl _) (.cons (.refl _) .nil)))) (fun _ => rfl)
      · replace h := ite_f h hc12
        refine x_kw ({ tm := [(2, .optr 0 0 0), (5, .pv (.int .i64 p5)), (6, .optr 1 0 0)], hp := [(0, some (.p (some 3) [.agg [.str [], .str [], .bool false]])), (1, some (.p (some 3) [.agg [.str x2, .str p6, .bool p7]]))], nx := 2 }) (by kernel_rfl) (Sub.refl _) ?_
        refine x_skip ?_
        refine x_tn ?_
        refine x_rg (RegTo.mk [(.n, .e), (.n, .e), (.n, .e), (.n, .e), (.n, .e)] ({ tm := [(2, .optr 0 0 0), (3, .pv (.int .i64 p5)), (4, .pv (.int .i64 0))], hp := [(0, some (.p (some 3) [.agg [.str x2, .str p6, .bool p7]]))], nx := 1 }) [] (by kernel_rfl) .nil (Sub.refl _)) ?_
        refine x_toret ?_
        obtain rfl := Option.some.inj h
        exact x_ret (.tup [.agg [.str x2, .str p6, .bool p7], .int .i64 p5, .int .i64 0]) [] [] (by kernel_rfl) .nil (by decide) (.tup (.cons (.refl _) (.cons (.refl _) (.cons (.refl _) .nil)))) (fun _ => rfl)
  · refine x_block ?_
    obtain ⟨x13, hx13, h⟩ := bind_some h
    refine x_rg (RegTo.mk [(.n, .e), (.n, (.call [] [.str x3, .str [63]] (.bool x13) true)), (.n, .e)] ({ tm := [(0, .pv (.str s_)), (2, .optr 0 0 0), (5, .pv (.int .i64 x1)), (6, .optr 1 0 0), (7, .pv (.str x3)), (22, .pv (.bool x13))], hp := [(0, some (.p (some 3) [.agg [.str [], .str [], .bool false]])), (1, some (.p (some 3) [.agg [.str x2, .str [], .bool false]]))], nx := 2 }) [(LesA [.str x3, .str [63]] [.str x3, .str [63]]), (CallOK Tryd.prog 42 [.str x3, .str [63]] (.bool x13) true)] (by kernel_rfl) (.cons (LesA.rfl' _) (.cons (c42 hx13) .nil)) (Sub.refl _)) ?_
    refine x_cond _ rfl (fun hc14 => ?_) (fun hc14 => ?_)
    · replace h := ite_t h hc14
      refine x_rg (RegTo.mk [(.n, .e), (.n, .e)] ({ tm := [(0, .pv (.str s_)), (2, .optr 0 0 0), (5, .pv (.int .i64 x1)), (6, .optr 1 0 0)], hp := [(0, some (.p (some 3) [.agg [.str [], .str [], .bool false]])), (1, some (.p (some 3) [.agg [.str x2, .str [], .bool true]]))], nx := 2 }) [] (by kernel_rfl) .nil (Sub.refl _)) ?_
      refine x_rgt (RegTo.mk [(.n, .e), (.n, .e), (.n, .e)] ({ tm := [(0, .pv (.str s_)), (2, .optr 0 0 0), (5, .pv (.int .i64 (IntKind.wrap .i64 (x1 + 1)))), (6, .optr 1 0 0)], hp := [(0, some (.p (some 3) [.agg [.str [], .str [], .bool false]])), (1, some (.p (some 3) [.agg [.str x2, .str [], .bool true]]))], nx := 2 }) [] (by kernel_rfl) .nil (Sub.refl _)) ?_
      refine x_bn ?_
      refine x_tn ?_
      exact ⟨((IntKind.wrap .i64 (x1 + 1)), [], true), h, by kernel_rfl⟩
    · replace h := ite_f h hc14
      obtain ⟨x15, hx15, h⟩ := bind_some h
      refine x_rg (RegTo.mk [(.n, .e), (.n, (.call [] [.str x3, .str [61, 39]] (.bool x15) true)), (.n, .e)] ({ tm := [(0, .pv (.str s_)), (2, .optr 0 0 0), (5, .pv (.int .i64 x1)), (6, .optr 1 0 0), (7, .pv (.str x3)), (28, .pv (.bool x15))], hp := [(0, some (.p (some 3) [.agg [.str [], .str [], .bool false]])), (1, some (.p (some 3) [.agg [.str x2, .str [], .bool false]]))], nx := 2 }) [(LesA [.str x3, .str [61, 39]] [.str x3, .str [61, 39]]), (CallOK Tryd.prog 42 [.str x3, .str [61, 39]] (.bool x15) true)] (by kernel_rfl) (.cons (LesA.rfl' _) (.cons (c42 hx15) .nil)) (Sub.refl _)) ?_
      refine x_cond _ rfl (fun hc16 => ?_) (fun hc16 => ?_)
      · replace h := ite_t h hc16
        obtain ⟨x17, hx17, h⟩ := bind_some h
        obtain ⟨x18, hx18, h⟩ := bind_some h
        refine x_rg (RegTo.mk [(.n, .e), (.n, (.cutS x17)), (.n, (.call [] [.str x17] (.tup [.str x18.1, .int .i64 x18.2.1, .bool x18.2.2]) true)), (.n, .e), (.n, .e), (.n, .e), (.n, .e), (.n, .e), (.n, .e), (.n, .e)] ({ tm := [(0, .pv (.str s_)), (2, .optr 0 0 0), (5, .pv (.int .i64 x1)), (6, .optr 1 0 0), (8, .pv (.str x18.1)), (9, .pv (.int .i64 x18.2.1)), (10, .pv (.bool x18.2.2))], hp := [(0, some (.p (some 3) [.agg [.str [], .str [], .bool false]])), (1, some (.p (some 3) [.agg [.str x2, .str [], .bool false]]))], nx := 2 }) [(cut x3 2 (List.length x3 : Int) = some x17), (LesA [.str x17] [.str x17]), (CallOK Tryd.prog 56 [.str x17] (.tup [.str x18.1, .int .i64 x18.2.1, .bool x18.2.2]) true)] (by kernel_rfl) (.cons hx17 (.cons (LesA.rfl' _) (.cons (c56 hx18) .nil))) (Sub.refl _)) ?_
        refine x_seq ?_
        refine x_rg (RegTo.mk [(.n, .e), (.n, .e)] ({ tm := [(0, .pv (.str s_)), (2, .optr 0 0 0), (5, .pv (.int .i64 x1)), (6, .optr 1 0 0), (8, .pv (.str x18.1)), (9, .pv (.int .i64 x18.2.1)), (39, .pv (.bool (!x18.2.2)))], hp := [(0, some (.p (some 3) [.agg [.str [], .str [], .bool false]])), (1, some (.p (some 3) [.agg [.str x2, .str [], .bool false]]))], nx := 2 }) [] (by kernel_rfl) .nil (Sub.refl _)) ?_
        refine x_cond _ rfl (fun hc19 => ?_) (fun hc19 => ?_)
        · replace h := ite_t h hc19
          refine x_rg (RegTo.mk [(.n, .e), (.n, .e), (.n, .e), (.n, .e)] ({ tm := [(2, .optr 0 0 0), (3, .pv (.int .i64 0)), (4, .pv (.int .i64 48))], hp := [(0, some (.p (some 3) [.agg [.str [], .str [], .bool false]]))], nx := 1 }) [] (by kernel_rfl) .nil (Sub.refl _)) ?_
          refine x_toret ?_
          refine x_tr ?_
          refine x_br ?_
          refine x_tr ?_
          obtain rfl := Option.some.inj h
          exact x_ret (.tup [.agg [.str [], .str [], .bool false], .int .i64 0, .int .i64 48]) [] [] (by kernel_rfl) .nil (by decide) (.tup (.cons (.refl _) (.cons (.refl _) (.cons (.refl _) .nil)))) (fun _ => rfl)
        · replace h := ite_f h hc19
          refine x_kw ({ tm := [(0, .pv (.str s_)), (2, .optr 0 0 0), (5, .pv (.int .i64 x1)), (6, .optr 1 0 0), (8, .pv (.str x18.1)), (9, .pv (.int .i64 x18.2.1))], hp := [(0, some (.p (some 3) [.agg [.str [], .str [], .bool false]])), (1, some (.p (some 3) [.agg [.str x2, .str [], .bool false]]))], nx := 2 }) (by kernel_rfl) (Sub.refl _) ?_
          refine x_skip ?_
          refine x_tn ?_
          refine x_rg (RegTo.mk [(.n, .e), (.n, .e), (.n, .e)] ({ tm := [(0, .pv (.str s_)), (2, .optr 0 0 0), (5, .pv (.int .i64 x1)), (6, .optr 1 0 0), (9, .pv (.int .i64 x18.2.1))], hp := [(0, some (.p (some 3) [.agg [.str [], .str [], .bool false]])), (1, some (.p (some 3) [.agg [.str x2, .str x18.1, .bool false]]))], nx := 2 }) [] (by kernel_rfl) .nil (Sub.refl _)) ?_
          refine x_rgt (RegTo.mk [(.n, .e), (.n, .e), (.n, .e), (.n, .e), (.n, .e)] ({ tm := [(0, .pv (.str s_)), (2, .optr 0 0 0), (5, .pv (.int .i64 (IntKind.wrap .i64 (x1 + (IntKind.wrap .i64 (2 + x18.2.1)))))), (6, .optr 1 0 0)], hp := [(0, some (.p (some 3) [.agg [.str [], .str [], .bool false]])), (1, some (.p (some 3) [.agg [.str x2, .str x18.1, .bool false]]))], nx := 2 }) [] (by kernel_rfl) .nil (Sub.refl _)) ?_
          refine x_bn ?_
          refine x_tn ?_
          exact ⟨((IntKind.wrap .i64 (x1 + (IntKind.wrap .i64 (2 + x18.2.1)))), x18.1, false), h, by kernel_rfl⟩
      · replace h := ite_f h hc16
        obtain ⟨x20, hx20, h⟩ := bind_some h
        refine x_rg (RegTo.mk [(.n, .e), (.n, (.call [] [.str x3, .str [61]] (.bool x20) true)), (.n, .e)] ({ tm := [(0, .pv (.str s_)), (2, .optr 0 0 0), (5, .pv (.int .i64 x1)), (6, .optr 1 0 0), (7, .pv (.str x3)), (47, .pv (.bool x20))], hp := [(0, some (.p (some 3) [.agg [.str [], .str [], .bool false]])), (1, some (.p (some 3) [.agg [.str x2, .str [], .bool false]]))], nx := 2 }) [(LesA [.str x3, .str [61]] [.str x3, .str [61]]), (CallOK Tryd.prog 42 [.str x3, .str [61]] (.bool x20) true)] (by kernel_rfl) (.cons (LesA.rfl' _) (.cons (c42 hx20) .nil)) (Sub.refl _)) ?_
        refine x_cond _ rfl (fun hc21 => ?_) (fun hc21 => ?_)
        · replace h := ite_t h hc21
          obtain ⟨x22, hx22, h⟩ := bind_some h
          refine x_rg (RegTo.mk [(.n, .e), (.n, (.call [] [.str x3, .str [32, 9]] (.int .i64 x22) true)), (.n, .e)] ({ tm := [(0, .pv (.str s_)), (2, .optr 0 0 0), (5, .pv (.int .i64 x1)), (6, .optr 1 0 0), (7, .pv (.str x3)), (11, .pv (.int .i64 x22))], hp := [(0, some (.p (some 3) [.agg [.str [], .str [], .bool false]])), (1, some (.p (some 3) [.agg [.str x2, .str [], .bool false]]))], nx := 2 }) [(LesA [.str x3, .str [32, 9]] [.str x3, .str [32, 9]]), (CallOK Tryd.prog 47 [.str x3, .str [32, 9]] (.int .i64 x22) true)] (by kernel_rfl) (.cons (LesA.rfl' _) (.cons (c47 hx22) .nil)) (Sub.refl _)) ?_
          obtain ⟨x23, hx23, h⟩ := bind_some h
          refine x_rg (RegTo.mk [(.n, .e), (.n, .e), (.n, (.cutS x23)), (.n, .e), (.n, .e)] ({ tm := [(0, .pv (.str s_)), (2, .optr 0 0 0), (5, .pv (.int .i64 x1)), (6, .optr 1 0 0), (11, .pv (.int .i64 x22))], hp := [(0, some (.p (some 3) [.agg [.str [], .str [], .bool false]])), (1, some (.p (some 3) [.agg [.str x2, .str x23, .bool false]]))], nx := 2 }) [(cut x3 1 x22 = some x23)] (by kernel_rfl) (.cons hx23 .nil) (Sub.refl _)) ?_
          refine x_seq ?_
          obtain ⟨x24, hx24, h⟩ := bind_some h
          refine x_rg (RegTo.mk [(.n, .e), (.n, .e), (.n, (.call [] [.str x23, .str [39]] (.bool x24) true))] ({ tm := [(0, .pv (.str s_)), (2, .optr 0 0 0), (5, .pv (.int .i64 x1)), (6, .optr 1 0 0), (11, .pv (.int .i64 x22)), (58, .pv (.bool x24))], hp := [(0, some (.p (some 3) [.agg [.str [], .str [], .bool false]])), (1, some (.p (some 3) [.agg [.str x2, .str x23, .bool false]]))], nx := 2 }) [(LesA [.str x23, .str [39]] [.str x23, .str [39]]), (CallOK Tryd.prog 57 [.str x23, .str [39]] (.bool x24) true)] (by kernel_rfl) (.cons (LesA.rfl' _) (.cons (c57 hx24) .nil)) (Sub.refl _)) ?_
          refine x_cond _ rfl (fun hc25 => ?_) (fun hc25 => ?_)
          · replace h := ite_t h hc25
            refine x_rg (RegTo.mk [(.n, .e), (.n, .e), (.n, .e), (.n, .e)] ({ tm := [(2, .optr 0 0 0), (3, .pv (.int .i64 0)), (4, .pv (.int .i64 2))], hp := [(0, some (.p (some 3) [.agg [.str [], .str [], .bool false]]))], nx := 1 }) [] (by kernel_rfl) .nil (Sub.refl _)) ?_
            refine x_toret ?_
            refine x_tr ?_
            refine x_br ?_
            refine x_tr ?_
            obtain rfl := Option.some.inj h
            exact x_ret (.tup [.agg [.str [], .str [], .bool false], .int .i64 0, .int .i64 2]) [] [] (by kernel_rfl) .nil (by decide) (.tup (.cons (.refl _) (.cons (.refl _) (.cons (.refl _) .nil)))) (fun _ => rfl)
          · replace h := ite_f h hc25
            refine x_kw ({ tm := [(0, .pv (.str s_)), (2, .optr 0 0 0), (5, .pv (.int .i64 x1)), (6, .optr 1 0 0), (11, .pv (.int .i64 x22))], hp := [(0, some (.p (some 3) [.agg [.str [], .str [], .bool false]])), (1, some (.p (some 3) [.agg [.str x2, .str x23, .bool false]]))], nx := 2 }) (by kernel_rfl) (Sub.refl _) ?_
            refine x_skip ?_
            refine x_tn ?_
            refine x_rgt (RegTo.mk [(.n, .e), (.n, .e), (.n, .e), (.n, .e)] ({ tm := [(0, .pv (.str s_)), (2, .optr 0 0 0), (5, .pv (.int .i64 (IntKind.wrap .i64 (x1 + x22)))), (6, .optr 1 0 0)], hp := [(0, some (.p (some 3) [.agg [.str [], .str [], .bool false]])), (1, some (.p (some 3) [.agg [.str x2, .str x23, .bool false]]))], nx := 2 }) [] (by kernel_rfl) .nil (Sub.refl _)) ?_
            refine x_bn ?_
            refine x_tn ?_
            exact ⟨((IntKind.wrap .i64 (x1 + x22)), x23, false), h, by kernel_rfl⟩
        · replace h := ite_f h hc21
          refine x_rg (RegTo.mk [(.n, .e), (.n, .e), (.n, .e), (.n, .e)] ({ tm := [(2, .optr 0 0 0), (3, .pv (.int .i64 0)), (4, .pv (.int .i64 2))], hp := [(0, some (.p (some 3) [.agg [.str [], .str [], .bool false]]))], nx := 1 }) [] (by kernel_rfl) .nil (Sub.refl _)) ?_
          refine x_toret ?_
          refine x_br ?_
          refine x_tr ?_
          obtain rfl := Option.some.inj h
          exact x_ret (.tup [.agg [.str [], .str [], .bool false], .int .i64 0, .int .i64 2]) [] [] (by kernel_rfl) .nil (by decide) (.tup (.cons (.refl _) (.cons (.refl _) (.cons (.refl _) .nil)))) (fun _ => rfl)

theorem c70 {s_ : Str} {prefix_ : Str} {r : Str} (h : stringslite_TrimPrefix s_ prefix_ = some r) : CallOK Tryd.prog 70 [.str s_, .str prefix_] (.str r) true := by
  apply ok70
  unfold stringslite_TrimPrefix at h
  refine x_rg (RegTo.mk [(.n, .e)] ({ tm := [(0, .pv (.str s_)), (1, .pv (.str prefix_))], hp := [], nx := 0 }) [] (by kernel_rfl) .nil (Sub.refl _)) ?_
  refine x_seq ?_
  obtain ⟨x1, hx1, h⟩ := bind_some h
  refine x_rg (RegTo.mk [(.n, .e), (.n, .e), (.n, (.call [] [.str s_, .str prefix_] (.bool x1) true))] ({ tm := [(0, .pv (.str s_)), (1, .pv (.str prefix_)), (7, .pv (.bool x1))], hp := [], nx := 0 }) [(LesA [.str s_, .str prefix_] [.str s_, .str prefix_]), (CallOK Tryd.prog 61 [.str s_, .str prefix_] (.bool x1) true)] (by kernel_rfl) (.cons (LesA.rfl' _) (.cons (c61 hx1) .nil)) (Sub.refl _)) ?_
  refine x_cond _ rfl (fun hc2 => ?_) (fun hc2 => ?_)
  · replace h := ite_t h hc2
    obtain ⟨x3, hx3, h⟩ := bind_some h
    refine x_rg (RegTo.mk [(.n, .e), (.n, .e), (.n, .e), (.n, (.cutS x3)), (.n, .e)] ({ tm := [(4, .pv (.str x3))], hp := [], nx := 0 }) [(cut s_ (List.length prefix_ : Int) (List.length s_ : Int) = some x3)] (by kernel_rfl) (.cons hx3 .nil) (Sub.refl _)) ?_
    refine x_toret ?_
    refine x_tr ?_
    obtain rfl := Option.some.inj h
    exact x_ret (.str x3) [] [] (by kernel_rfl) .nil (by decide) (.refl _) (fun _ => rfl)
  · replace h := ite_f h hc2
    refine x_kw ({ tm := [(0, .pv (.str s_))], hp := [], nx := 0 }) (by kernel_rfl) (Sub.refl _) ?_
    refine x_skip ?_
    refine x_tn ?_
    refine x_rg (RegTo.mk [(.n, .e), (.n, .e)] ({ tm := [(4, .pv (.str s_))], hp := [], nx := 0 }) [] (by kernel_rfl) .nil (Sub.refl _)) ?_
    refine x_toret ?_
    obtain rfl := Option.some.inj h
    exact x_ret (.str s_) [] [] (by kernel_rfl) .nil (by decide) (.refl _) (fun _ => rfl)

theorem c63 {s_ : Str} {prefix_ : Str} {r : Str} (h : strings_TrimPrefix s_ prefix_ = some r) : CallOK Tryd.prog 63 [.str s_, .str prefix_] (.str r) true := by
  apply ok63
  unfold strings_TrimPrefix at h
  refine x_rg (RegTo.mk [(.n, .e)] ({ tm := [(0, .pv (.str s_)), (1, .pv (.str prefix_))], hp := [], nx := 0 }) [] (by kernel_rfl) .nil (Sub.refl _)) ?_
  obtain ⟨x1, hx1, h⟩ := bind_some h
  refine x_rg (RegTo.mk [(.n, .e), (.n, .e), (.n, (.call [] [.str s_, .str prefix_] (.str x1) true)), (.n, .e)] ({ tm := [(4, .pv (.str x1))], hp := [], nx := 0 }) [(LesA [.str s_, .str prefix_] [.str s_, .str prefix_]), (CallOK Tryd.prog 70 [.str s_, .str prefix_] (.str x1) true)] (by kernel_rfl) (.cons (LesA.rfl' _) (.cons (c70 hx1) .nil)) (Sub.refl _)) ?_
  refine x_toret ?_
  obtain rfl := Option.some.inj h
  exact x_ret (.str x1) [] [] (by kernel_rfl) .nil (by decide) (.refl _) (fun _ => rfl)

theorem c46 {s_ : Str} {r : Bool} (h : attr_isName s_ = some r) : CallOK Tryd.prog 46 [.str s_] (.bool r) true := by
  apply ok46
  unfold attr_isName at h
  refine x_rg (RegTo.mk [(.n, .e)] ({ tm := [(0, .pv (.str s_))], hp := [], nx := 0 }) [] (by kernel_rfl) .nil (Sub.refl _)) ?_
  obtain ⟨x1, hx1, h⟩ := bind_some h
  refine x_rg (RegTo.mk [(.n, .e), (.n, (.call [] [.str s_, .str [33]] (.str x1) true)), (.n, .e)] ({ tm := [(0, .pv (.str x1))], hp := [], nx := 0 }) [(LesA [.str s_, .str [33]] [.str s_, .str [33]]), (CallOK Tryd.prog 63 [.str s_, .str [33]] (.str x1) true)] (by kernel_rfl) (.cons (LesA.rfl' _) (.cons (c63 hx1) .nil)) (Sub.refl _)) ?_
  refine x_seq ?_
  obtain ⟨t7, ht, h⟩ := bind_some h
  refine x_rg (st2 := { tm := [(0, .pv (.str x1)), (23, .pv (.bool t7))], hp := [], nx := 0 }) ?_ ?_
  · rcases Bool.eq_false_or_eq_true (decide (x1 = [])) with hg2 | hg2
    · replace ht := ite_t ht hg2
      have e := Option.some.inj ht
      subst e
      exact RegTo.mk [(.n, .e), (.n, .e), (.n, .e), (.s, .e), (.s, .e), (.s, .e), (.n, (.pk true)), (.n, .e), (.s, .e), (.s, .e), (.s, .e), (.n, .e), (.n, .e), (.s, .e), (.s, .e), (.s, .e), (.n, .e)] ({ tm := [(0, .pv (.str x1)), (23, .pv (.bool true))], hp := [], nx := 0 }) [((decide (x1 = [])) = true), ((decide (x1 = [])) = true), ((decide (x1 = [])) = true), ((decide (x1 = [])) = true), (true = true), (true = true), (true = true), (true = true), (true = true), (true = true)] (by kernel_rfl) (.cons hg2 (.cons hg2 (.cons hg2 (.cons hg2 (.cons rfl (.cons rfl (.cons rfl (.cons rfl (.cons rfl (.cons rfl .nil)))))))))) (Sub.refl _)
    · replace ht := ite_f ht hg2
      rcases Bool.eq_false_or_eq_true (decide (32 < (List.length x1 : Int))) with hg3 | hg3
      · replace ht := ite_t ht hg3
        have e := Option.some.inj ht
        subst e
        exact RegTo.mk [(.n, .e), (.n, .e), (.n, .e), (.y, .e), (.y, .e), (.y, .e), (.n, (.pk false)), (.n, .e), (.s, .e), (.s, .e), (.s, .e), (.n, (.pk true)), (.n, .e), (.s, .e), (.s, .e), (.s, .e), (.n, .e)] ({ tm := [(0, .pv (.str x1)), (23, .pv (.bool true))], hp := [], nx := 0 }) [((decide (x1 = [])) = false), ((decide (x1 = [])) = false), ((decide (x1 = [])) = false), ((decide (x1 = [])) = false), ((decide (32 < (List.length x1 : Int))) = true), ((decide (32 < (List.length x1 : Int))) = true), ((decide (32 < (List.length x1 : Int))) = true), ((decide (32 < (List.length x1 : Int))) = true), (true = true), (true = true), (true = true)] (by kernel_rfl) (.cons hg2 (.cons hg2 (.cons hg2 (.cons hg2 (.cons hg3 (.cons hg3 (.cons hg3 (.cons hg3 (.cons rfl (.cons rfl (.cons rfl .nil))))))))))) (Sub.refl _)
      · replace ht := ite_f ht hg3
        obtain ⟨c4, hc4, ht⟩ := bind_some ht
        rcases Bool.eq_false_or_eq_true (decide ((c4.toNat : Int) < 97)) with hg5 | hg5
        · replace ht := ite_t ht hg5
          have e := Option.some.inj ht
          subst e
          exact RegTo.mk [(.n, .e), (.n, .e), (.n, .e), (.y, .e), (.y, .e), (.y, .e), (.n, (.pk false)), (.n, .e), (.y, .e), (.y, (.sAt c4)), (.y, .e), (.n, (.pk false)), (.n, .e), (.s, .e), (.s, .e), (.s, .e), (.n, (.pk true))] ({ tm := [(0, .pv (.str x1)), (23, .pv (.bool true))], hp := [], nx := 0 }) [((decide (x1 = [])) = false), ((decide (x1 = [])) = false), ((decide (x1 = [])) = false), ((decide (x1 = [])) = false), ((decide (32 < (List.length x1 : Int))) = false), ((decide (32 < (List.length x1 : Int))) = false), (strAt x1 0 = some c4), ((decide (32 < (List.length x1 : Int))) = false), ((decide (32 < (List.length x1 : Int))) = false), ((decide ((c4.toNat : Int) < 97)) = true), ((decide ((c4.toNat : Int) < 97)) = true), ((decide ((c4.toNat : Int) < 97)) = true), ((decide ((c4.toNat : Int) < 97)) = true)] (by kernel_rfl) (.cons hg2 (.cons hg2 (.cons hg2 (.cons hg2 (.cons hg3 (.cons hg3 (.cons hc4 (.cons hg3 (.cons hg3 (.cons hg5 (.cons hg5 (.cons hg5 (.cons hg5 .nil))))))))))))) (Sub.refl _)
        · replace ht := ite_f ht hg5
          obtain ⟨c6, hc6, ht⟩ := bind_some ht
          have e := Option.some.inj ht
          subst e
          exact RegTo.mk [(.n, .e), (.n, .e), (.n, .e), (.y, .e), (.y, .e), (.y, .e), (.n, (.pk false)), (.n, .e), (.y, .e), (.y, (.sAt c4)), (.y, .e), (.n, (.pk false)), (.n, .e), (.y, .e), (.y, (.sAt c6)), (.y, .e), (.n, (.pk false))] ({ tm := [(0, .pv (.str x1)), (23, .pv (.bool (decide (122 < (c6.toNat : Int)))))], hp := [], nx := 0 }) [((decide (x1 = [])) = false), ((decide (x1 = [])) = false), ((decide (x1 = [])) = false), ((decide (x1 = [])) = false), ((decide (32 < (List.length x1 : Int))) = false), ((decide (32 < (List.length x1 : Int))) = false), (strAt x1 0 = some c4), ((decide (32 < (List.length x1 : Int))) = false), ((decide (32 < (List.length x1 : Int))) = false), ((decide ((c4.toNat : Int) < 97)) = false), ((decide ((c4.toNat : Int) < 97)) = false), (strAt x1 0 = some c6), ((decide ((c4.toNat : Int) < 97)) = false), ((decide ((c4.toNat : Int) < 97)) = false)] (by kernel_rfl) (.cons hg2 (.cons hg2 (.cons hg2 (.cons hg2 (.cons hg3 (.cons hg3 (.cons hc4 (.cons hg3 (.cons hg3 (.cons hg5 (.cons hg5 (.cons hc6 (.cons hg5 (.cons hg5 .nil)))))))))))))) (Sub.refl _)
  · clear ht
    refine x_cond _ rfl (fun hc8 => ?_) (fun hc8 => ?_)
    · replace h := ite_t h hc8
      refine x_rg (RegTo.mk [(.n, .e)] ({ tm := [(2, .pv (.bool false))], hp := [], nx := 0 }) [] (by kernel_rfl) .nil (Sub.refl _)) ?_
      refine x_toret ?_
      refine x_tr ?_
      obtain rfl := Option.some.inj h
      exact x_ret (.bool false) [] [] (by kernel_rfl) .nil (by decide) (.refl _) (fun _ => rfl)
    · replace h := ite_f h hc8
      refine x_kw ({ tm := [(0, .pv (.str x1))], hp := [], nx := 0 }) (by kernel_rfl) (Sub.refl _) ?_
      refine x_skip ?_
      refine x_tn ?_
      refine x_seq ?_
      refine x_rg (RegTo.mk [(.n, .e), (.n, .e), (.n, .e)] ({ tm := [(0, .pv (.str x1)), (25, .pv (.int .i64 (List.length x1 : Int))), (26, .pv (.int .i64 0))], hp := [], nx := 0 }) [] (by kernel_rfl) .nil (Sub.refl _)) ?_
      refine x_block ?_
      refine x_kw ({ tm := [(0, .pv (.str x1)), (25, .pv (.int .i64 (List.length x1 : Int))), (26, .pv (.int .i64 0))], hp := [], nx := 0 }) (by kernel_rfl) (Sub.refl _) ?_
      refine x_loop (σ := Int) h (fun s => { tm := [(0, .pv (.str x1)), (25, .pv (.int .i64 (List.length x1 : Int))), (26, .pv (.int .i64 s))], hp := [], nx := 0 }) (by kernel_rfl) ?_ ?_
      · rintro v23
        kernel_rfl
      · rintro v23 x24 h hx24
        replace h : attr_isName_L24 x1 v23 = some x24 := h
        unfold attr_isName_L24 at h
        refine x_rg (RegTo.mk [(.n, .e)] ({ tm := [(0, .pv (.str x1)), (25, .pv (.int .i64 (List.length x1 : Int))), (26, .pv (.int .i64 v23)), (27, .pv (.bool (decide (v23 < (List.length x1 : Int)))))], hp := [], nx := 0 }) [] (by kernel_rfl) .nil (Sub.refl _)) ?_
        refine x_seq ?_
        refine x_cond _ rfl (fun hc25 => ?_) (fun hc25 => ?_)
        · replace h := ite_t h hc25
          refine x_kw ({ tm := [(0, .pv (.str x1)), (25, .pv (.int .i64 (List.length x1 : Int))), (26, .pv (.int .i64 v23))], hp := [], nx := 0 }) (by kernel_rfl) (Sub.refl _) ?_
          refine x_skip ?_
          refine x_tn ?_
          refine x_seq ?_
          refine x_block ?_
          refine x_rg (RegTo.mk [(.n, .e), (.n, .e)] ({ tm := [(0, .pv (.str x1)), (3, .pv (.int .i64 v23)), (25, .pv (.int .i64 (List.length x1 : Int))), (26, .pv (.int .i64 v23))], hp := [], nx := 0 }) [] (by kernel_rfl) .nil (Sub.refl _)) ?_
          obtain ⟨c26, hc26, h⟩ := bind_some h
          refine x_rg (RegTo.mk [(.n, .e), (.n, .e), (.n, (.sAt c26)), (.n, .e)] ({ tm := [(0, .pv (.str x1)), (4, .pv (.int .u8 (c26.toNat : Int))), (25, .pv (.int .i64 (List.length x1 : Int))), (26, .pv (.int .i64 v23))], hp := [], nx := 0 }) [(strAt x1 v23 = some c26)] (by kernel_rfl) (.cons hc26 .nil) (Sub.refl _)) ?_
          refine x_rg (st2 := { tm := [(0, .pv (.str x1)), (25, .pv (.int .i64 (List.length x1 : Int))), (26, .pv (.int .i64 v23)), (53, .pv (.bool (if (decide ((c26.toNat : Int) < 97)) then (if (decide ((c26.toNat : Int) < 48)) then ((!decide ((c26.toNat : Int) = 45)) && (!decide ((c26.toNat : Int) = 95))) else ((decide (57 < (c26.toNat : Int))) && ((!decide ((c26.toNat : Int) = 45)) && (!decide ((c26.toNat : Int) = 95))))) else ((decide (122 < (c26.toNat : Int))) && (if (decide ((c26.toNat : Int) < 48)) then ((!decide ((c26.toNat : Int) = 45)) && (!decide ((c26.toNat : Int) = 95))) else ((decide (57 < (c26.toNat : Int))) && ((!decide ((c26.toNat : Int) = 45)) && (!decide ((c26.toNat : Int) = 95)))))))))], hp := [], nx := 0 }) ?_ ?_
          · rcases Bool.eq_false_or_eq_true (decide ((c26.toNat : Int) < 97)) with hg27 | hg27
            · rcases Bool.eq_false_or_eq_true (decide ((c26.toNat : Int) < 48)) with hg28 | hg28
              · rcases Bool.eq_false_or_eq_true (!decide ((c26.toNat : Int) = 45)) with hg29 | hg29
                · exact RegTo.mk [(.n, .e), (.n, .e), (.n, .e), (.s, .e), (.s, .e), (.n, (.pk true)), (.n, .e), (.y, .e), (.y, .e), (.y, .e), (.s, .e), (.s, .e), (.y, (.pk true)), (.n, .e), (.n, .e), (.y, .e), (.y, .e), (.n, .e), (.n, .e), (.y, .e), (.y, .e), (.n, (.pk true))] ({ tm := [(0, .pv (.str x1)), (25, .pv (.int .i64 (List.length x1 : Int))), (26, .pv (.int .i64 v23)), (53, .pv (.bool (!decide ((c26.toNat : Int) = 95))))], hp := [], nx := 0 }) [((decide ((c26.toNat : Int) < 97)) = true), ((decide ((c26.toNat : Int) < 97)) = true), ((decide ((c26.toNat : Int) < 97)) = true), (true = true), (true = true), (true = true), ((decide ((c26.toNat : Int) < 48)) = true), ((decide ((c26.toNat : Int) < 48)) = true), (true = true), ((decide ((c26.toNat : Int) < 48)) = true), (true = true), (true = true), ((!decide ((c26.toNat : Int) = 45)) = true), ((!decide ((c26.toNat : Int) = 45)) = true), ((!decide ((c26.toNat : Int) = 45)) = true)] (by kernel_rfl) (.cons hg27 (.cons hg27 (.cons hg27 (.cons rfl (.cons rfl (.cons rfl (.cons hg28 (.cons hg28 (.cons rfl (.cons hg28 (.cons rfl (.cons rfl (.cons hg29 (.cons hg29 (.cons hg29 .nil))))))))))))))) (.of_eq (by simp only [hg27, hg28, hg29, Bool.true_or, Bool.false_or, Bool.true_and, Bool.false_and, Bool.or_true, Bool.or_false, Bool.and_true, Bool.and_false, Bool.false_eq_true, if_true, if_false, reduceIte]))
                · exact RegTo.mk [(.n, .e), (.n, .e), (.n, .e), (.s, .e), (.s, .e), (.n, (.pk true)), (.n, .e), (.y, .e), (.y, .e), (.y, .e), (.s, .e), (.s, .e), (.y, (.pk true)), (.n, .e), (.n, .e), (.y, .e), (.y, .e), (.n, .e), (.n, .e), (.s, .e), (.s, .e), (.n, (.pk false))] ({ tm := [(0, .pv (.str x1)), (25, .pv (.int .i64 (List.length x1 : Int))), (26, .pv (.int .i64 v23)), (53, .pv (.bool false))], hp := [], nx := 0 }) [((decide ((c26.toNat : Int) < 97)) = true), ((decide ((c26.toNat : Int) < 97)) = true), ((decide ((c26.toNat : Int) < 97)) = true), (true = true), (true = true), (true = true), ((decide ((c26.toNat : Int) < 48)) = true), ((decide ((c26.toNat : Int) < 48)) = true), (true = true), ((decide ((c26.toNat : Int) < 48)) = true), (true = true), (true = true), ((!decide ((c26.toNat : Int) = 45)) = false), ((!decide ((c26.toNat : Int) = 45)) = false), ((!decide ((c26.toNat : Int) = 45)) = false)] (by kernel_rfl) (.cons hg27 (.cons hg27 (.cons hg27 (.cons rfl (.cons rfl (.cons rfl (.cons hg28 (.cons hg28 (.cons rfl (.cons hg28 (.cons rfl (.cons rfl (.cons hg29 (.cons hg29 (.cons hg29 .nil))))))))))))))) (.of_eq (by simp only [hg27, hg28, hg29, Bool.true_or, Bool.false_or, Bool.true_and, Bool.false_and, Bool.or_true, Bool.or_false, Bool.and_true, Bool.and_false, Bool.false_eq_true, if_true, if_false, reduceIte]))
              · rcases Bool.eq_false_or_eq_true (decide (57 < (c26.toNat : Int))) with hg30 | hg30
                · rcases Bool.eq_false_or_eq_true (!decide ((c26.toNat : Int) = 45)) with hg31 | hg31
                  · exact RegTo.mk [(.n, .e), (.n, .e), (.n, .e), (.s, .e), (.s, .e), (.n, (.pk true)), (.n, .e), (.y, .e), (.y, .e), (.y, .e), (.y, .e), (.y, .e), (.y, (.pk false)), (.n, .e), (.n, .e), (.y, .e), (.y, .e), (.n, (.pk true)), (.n, .e), (.y, .e), (.y, .e), (.n, (.pk true))] ({ tm := [(0, .pv (.str x1)), (25, .pv (.int .i64 (List.length x1 : Int))), (26, .pv (.int .i64 v23)), (53, .pv (.bool (!decide ((c26.toNat : Int) = 95))))], hp := [], nx := 0 }) [((decide ((c26.toNat : Int) < 97)) = true), ((decide ((c26.toNat : Int) < 97)) = true), ((decide ((c26.toNat : Int) < 97)) = true), (true = true), (true = true), (true = true), ((decide ((c26.toNat : Int) < 48)) = false), ((decide ((c26.toNat : Int) < 48)) = false), (true = true), ((decide ((c26.toNat : Int) < 48)) = false), ((decide (57 < (c26.toNat : Int))) = true), ((decide (57 < (c26.toNat : Int))) = true), ((decide (57 < (c26.toNat : Int))) = true), ((!decide ((c26.toNat : Int) = 45)) = true), ((!decide ((c26.toNat : Int) = 45)) = true), ((!decide ((c26.toNat : Int) = 45)) = true)] (by kernel_rfl) (.cons hg27 (.cons hg27 (.cons hg27 (.cons rfl (.cons rfl (.cons rfl (.cons hg28 (.cons hg28 (.cons rfl (.cons hg28 (.cons hg30 (.cons hg30 (.cons hg30 (.cons hg31 (.cons hg31 (.cons hg31 .nil)))))))))))))))) (.of_eq (by simp only [hg27, hg28, hg30, hg31, Bool.true_or, Bool.false_or, Bool.true_and, Bool.false_and, Bool.or_true, Bool.or_false, Bool.and_true, Bool.and_false, Bool.false_eq_true, if_true, if_false, reduceIte]))
                  · exact RegTo.mk [(.n, .e), (.n, .e), (.n, .e), (.s, .e), (.s, .e), (.n, (.pk true)), (.n, .e), (.y, .e), (.y, .e), (.y, .e), (.y, .e), (.y, .e), (.y, (.pk false)), (.n, .e), (.n, .e), (.y, .e), (.y, .e), (.n, (.pk true)), (.n, .e), (.s, .e), (.s, .e), (.n, (.pk false))] ({ tm := [(0, .pv (.str x1)), (25, .pv (.int .i64 (List.length x1 : Int))), (26, .pv (.int .i64 v23)), (53, .pv (.bool false))], hp := [], nx := 0 }) [((decide ((c26.toNat : Int) < 97)) = true), ((decide ((c26.toNat : Int) < 97)) = true), ((decide ((c26.toNat : Int) < 97)) = true), (true = true), (true = true), (true = true), ((decide ((c26.toNat : Int) < 48)) = false), ((decide ((c26.toNat : Int) < 48)) = false), (true = true), ((decide ((c26.toNat : Int) < 48)) = false), ((decide (57 < (c26.toNat : Int))) = true), ((decide (57 < (c26.toNat : Int))) = true), ((decide (57 < (c26.toNat : Int))) = true), ((!decide ((c26.toNat : Int) = 45)) = false), ((!decide ((c26.toNat : Int) = 45)) = false), ((!decide ((c26.toNat : Int) = 45)) = false)] (by kernel_rfl) (.cons hg27 (.cons hg27 (.cons hg27 (.cons rfl (.cons rfl (.cons rfl (.cons hg28 (.cons hg28 (.cons rfl (.cons hg28 (.cons hg30 (.cons hg30 (.cons hg30 (.cons hg31 (.cons hg31 (.cons hg31 .nil)))))))))))))))) (.of_eq (by simp only [hg27, hg28, hg30, hg31, Bool.true_or, Bool.false_or, Bool.true_and, Bool.false_and, Bool.or_true, Bool.or_false, Bool.and_true, Bool.and_false, Bool.false_eq_true, if_true, if_false, reduceIte]))
                · exact RegTo.mk [(.n, .e), (.n, .e), (.n, .e), (.s, .e), (.s, .e), (.n, (.pk true)), (.n, .e), (.y, .e), (.y, .e), (.y, .e), (.y, .e), (.y, .e), (.y, (.pk false)), (.n, .e), (.n, .e), (.s, .e), (.s, .e), (.n, (.pk false)), (.n, .e), (.s, .e), (.s, .e), (.n, .e)] ({ tm := [(0, .pv (.str x1)), (25, .pv (.int .i64 (List.length x1 : Int))), (26, .pv (.int .i64 v23)), (53, .pv (.bool false))], hp := [], nx := 0 }) [((decide ((c26.toNat : Int) < 97)) = true), ((decide ((c26.toNat : Int) < 97)) = true), ((decide ((c26.toNat : Int) < 97)) = true), (true = true), (true = true), (true = true), ((decide ((c26.toNat : Int) < 48)) = false), ((decide ((c26.toNat : Int) < 48)) = false), (true = true), ((decide ((c26.toNat : Int) < 48)) = false), ((decide (57 < (c26.toNat : Int))) = false), ((decide (57 < (c26.toNat : Int))) = false), ((decide (57 < (c26.toNat : Int))) = false), (false = false), (false = false)] (by kernel_rfl) (.cons hg27 (.cons hg27 (.cons hg27 (.cons rfl (.cons rfl (.cons rfl (.cons hg28 (.cons hg28 (.cons rfl (.cons hg28 (.cons hg30 (.cons hg30 (.cons hg30 (.cons rfl (.cons rfl .nil))))))))))))))) (.of_eq (by simp only [hg27, hg28, hg30, Bool.true_or, Bool.false_or, Bool.true_and, Bool.false_and, Bool.or_true, Bool.or_false, Bool.and_true, Bool.and_false, Bool.false_eq_true, if_true, if_false, reduceIte]))
            · rcases Bool.eq_false_or_eq_true (decide (122 < (c26.toNat : Int))) with hg32 | hg32
              · rcases Bool.eq_false_or_eq_true (decide ((c26.toNat : Int) < 48)) with hg33 | hg33
                · rcases Bool.eq_false_or_eq_true (!decide ((c26.toNat : Int) = 45)) with hg34 | hg34
                  · exact RegTo.mk [(.n, .e), (.n, .e), (.n, .e), (.y, .e), (.y, .e), (.n, (.pk false)), (.n, .e), (.y, .e), (.y, .e), (.y, .e), (.s, .e), (.s, .e), (.y, (.pk true)), (.n, (.pk true)), (.n, .e), (.y, .e), (.y, .e), (.n, .e), (.n, .e), (.y, .e), (.y, .e), (.n, (.pk true))] ({ tm := [(0, .pv (.str x1)), (25, .pv (.int .i64 (List.length x1 : Int))), (26, .pv (.int .i64 v23)), (53, .pv (.bool (!decide ((c26.toNat : Int) = 95))))], hp := [], nx := 0 }) [((decide ((c26.toNat : Int) < 97)) = false), ((decide ((c26.toNat : Int) < 97)) = false), ((decide ((c26.toNat : Int) < 97)) = false), ((decide (122 < (c26.toNat : Int))) = true), ((decide (122 < (c26.toNat : Int))) = true), ((decide (122 < (c26.toNat : Int))) = true), ((decide ((c26.toNat : Int) < 48)) = true), ((decide ((c26.toNat : Int) < 48)) = true), ((decide (122 < (c26.toNat : Int))) = true), ((decide ((c26.toNat : Int) < 48)) = true), ((decide (122 < (c26.toNat : Int))) = true), (true = true), (true = true), ((!decide ((c26.toNat : Int) = 45)) = true), ((!decide ((c26.toNat : Int) = 45)) = true), ((!decide ((c26.toNat : Int) = 45)) = true)] (by kernel_rfl) (.cons hg27 (.cons hg27 (.cons hg27 (.cons hg32 (.cons hg32 (.cons hg32 (.cons hg33 (.cons hg33 (.cons hg32 (.cons hg33 (.cons hg32 (.cons rfl (.cons rfl (.cons hg34 (.cons hg34 (.cons hg34 .nil)))))))))))))))) (.of_eq (by simp only [hg27, hg32, hg33, hg34, Bool.true_or, Bool.false_or, Bool.true_and, Bool.false_and, Bool.or_true, Bool.or_false, Bool.and_true, Bool.and_false, Bool.false_eq_true, if_true, if_false, reduceIte]))
                  · exact RegTo.mk [(.n, .e), (.n, .e), (.n, .e), (.y, .e), (.y, .e), (.n, (.pk false)), (.n, .e), (.y, .e), (.y, .e), (.y, .e), (.s, .e), (.s, .e), (.y, (.pk true)), (.n, (.pk true)), (.n, .e), (.y, .e), (.y, .e), (.n, .e), (.n, .e), (.s, .e), (.s, .e), (.n, (.pk false))] ({ tm := [(0, .pv (.str x1)), (25, .pv (.int .i64 (List.length x1 : Int))), (26, .pv (.int .i64 v23)), (53, .pv (.bool false))], hp := [], nx := 0 }) [((decide ((c26.toNat : Int) < 97)) = false), ((decide ((c26.toNat : Int) < 97)) = false), ((decide ((c26.toNat : Int) < 97)) = false), ((decide (122 < (c26.toNat : Int))) = true), ((decide (122 < (c26.toNat : Int))) = true), ((decide (122 < (c26.toNat : Int))) = true), ((decide ((c26.toNat : Int) < 48)) = true), ((decide ((c26.toNat : Int) < 48)) = true), ((decide (122 < (c26.toNat : Int))) = true), ((decide ((c26.toNat : Int) < 48)) = true), ((decide (122 < (c26.toNat : Int))) = true), (true = true), (true = true), ((!decide ((c26.toNat : Int) = 45)) = false), ((!decide ((c26.toNat : Int) = 45)) = false), ((!decide ((c26.toNat : Int) = 45)) = false)] (by kernel_rfl) (.cons hg27 (.cons hg27 (.cons hg27 (.cons hg32 (.cons hg32 (.cons hg32 (.cons hg33 (.cons hg33 (.cons hg32 (.cons hg33 (.cons hg32 (.cons rfl (.cons rfl (.cons hg34 (.cons hg34 (.cons hg34 .nil)))))))))))))))) (.of_eq (by simp only [hg27, hg32, hg33, hg34, Bool.true_or, Bool.false_or, Bool.true_and, Bool.false_and, Bool.or_true, Bool.or_false, Bool.and_true, Bool.and_false, Bool.false_eq_true, if_true, if_false, reduceIte]))
                · rcases Bool.eq_false_or_eq_true (decide (57 < (c26.toNat : Int))) with hg35 | hg35
                  · rcases Bool.eq_false_or_eq_true (!decide ((c26.toNat : Int) = 45)) with hg36 | hg36
                    · exact RegTo.mk [(.n, .e), (.n, .e), (.n, .e), (.y, .e), (.y, .e), (.n, (.pk false)), (.n, .e), (.y, .e), (.y, .e), (.y, .e), (.y, .e), (.y, .e), (.y, (.pk false)), (.n, (.pk true)), (.n, .e), (.y, .e), (.y, .e), (.n, (.pk true)), (.n, .e), (.y, .e), (.y, .e), (.n, (.pk true))] ({ tm := [(0, .pv (.str x1)), (25, .pv (.int .i64 (List.length x1 : Int))), (26, .pv (.int .i64 v23)), (53, .pv (.bool (!decide ((c26.toNat : Int) = 95))))], hp := [], nx := 0 }) [((decide ((c26.toNat : Int) < 97)) = false), ((decide ((c26.toNat : Int) < 97)) = false), ((decide ((c26.toNat : Int) < 97)) = false), ((decide (122 < (c26.toNat : Int))) = true), ((decide (122 < (c26.toNat : Int))) = true), ((decide (122 < (c26.toNat : Int))) = true), ((decide ((c26.toNat : Int) < 48)) = false), ((decide ((c26.toNat : Int) < 48)) = false), ((decide (122 < (c26.toNat : Int))) = true), ((decide ((c26.toNat : Int) < 48)) = false), ((decide (122 < (c26.toNat : Int))) = true), ((decide (57 < (c26.toNat : Int))) = true), ((decide (57 < (c26.toNat : Int))) = true), ((decide (57 < (c26.toNat : Int))) = true), ((!decide ((c26.toNat : Int) = 45)) = true), ((!decide ((c26.toNat : Int) = 45)) = true), ((!decide ((c26.toNat : Int) = 45)) = true)] (by kernel_rfl) (.cons hg27 (.cons hg27 (.cons hg27 (.cons hg32 (.cons hg32 (.cons hg32 (.cons hg33 (.cons hg33 (.cons hg32 (.cons hg33 (.cons hg32 (.cons hg35 (.cons hg35 (.cons hg35 (.cons hg36 (.cons hg36 (.cons hg36 .nil))))))))))))))))) (.of_eq (by simp only [hg27, hg32, hg33, hg35, hg36, Bool.true_or, Bool.false_or, Bool.true_and, Bool.false_and, Bool.or_true, Bool.or_false, Bool.and_true, Bool.and_false, Bool.false_eq_true, if_true, if_false, reduceIte]))
                    · exact RegTo.mk [(.n, .e), (.n, .e), (.n, .e), (.y, .e), (.y, .e), (.n, (.pk false)), (.n, .e), (.y, .e), (.y, .e), (.y, .e), (.y, .e), (.y, .e), (.y, (.pk false)), (.n, (.pk true)), (.n, .e), (.y, .e), (.y, .e), (.n, (.pk true)), (.n, .e), (.s, .e), (.s, .e), (.n, (.pk false))] ({ tm := [(0, .pv (.str x1)), (25, .pv (.int .i64 (List.length x1 : Int))), (26, .pv (.int .i64 v23)), (53, .pv (.bool false))], hp := [], nx := 0 }) [((decide ((c26.toNat : Int) < 97)) = false), ((decide ((c26.toNat : Int) < 97)) = false), ((decide ((c26.toNat : Int) < 97)) = false), ((decide (122 < (c26.toNat : Int))) = true), ((decide (122 < (c26.toNat : Int))) = true), ((decide (122 < (c26.toNat : Int))) = true), ((decide ((c26.toNat : Int) < 48)) = false), ((decide ((c26.toNat : Int) < 48)) = false), ((decide (122 < (c26.toNat : Int))) = true), ((decide ((c26.toNat : Int) < 48)) = false), ((decide (122 < (c26.toNat : Int))) = true), ((decide (57 < (c26.toNat : Int))) = true), ((decide (57 < (c26.toNat : Int))) = true), ((decide (57 < (c26.toNat : Int))) = true), ((!decide ((c26.toNat : Int) = 45)) = false), ((!decide ((c26.toNat : Int) = 45)) = false), ((!decide ((c26.toNat : Int) = 45)) = false)] (by kernel_rfl) (.cons hg27 (.cons hg27 (.cons hg27 (.cons hg32 (.cons hg32 (.cons hg32 (.cons hg33 (.cons hg33 (.cons hg32 (.cons hg33 (.cons hg32 (.cons hg35 (.cons hg35 (.cons hg35 (.cons hg36 (.cons hg36 (.cons hg36 .nil))))))))))))))))) (.of_eq (by simp only [hg27, hg32, hg33, hg35, hg36, Bool.true_or, Bool.false_or, Bool.true_and, Bool.false_and, Bool.or_true, Bool.or_false, Bool.and_true, Bool.and_false, Bool.false_eq_true, if_true, if_false, reduceIte]))
                  · exact RegTo.mk [(.n, .e), (.n, .e), (.n, .e), (.y, .e), (.y, .e), (.n, (.pk false)), (.n, .e), (.y, .e), (.y, .e), (.y, .e), (.y, .e), (.y, .e), (.y, (.pk false)), (.n, (.pk true)), (.n, .e), (.s, .e), (.s, .e), (.n, (.pk false)), (.n, .e), (.s, .e), (.s, .e), (.n, .e)] ({ tm := [(0, .pv (.str x1)), (25, .pv (.int .i64 (List.length x1 : Int))), (26, .pv (.int .i64 v23)), (53, .pv (.bool false))], hp := [], nx := 0 }) [((decide ((c26.toNat : Int) < 97)) = false), ((decide ((c26.toNat : Int) < 97)) = false), ((decide ((c26.toNat : Int) < 97)) = false), ((decide (122 < (c26.toNat : Int))) = true), ((decide (122 < (c26.toNat : Int))) = true), ((decide (122 < (c26.toNat : Int))) = true), ((decide ((c26.toNat : Int) < 48)) = false), ((decide ((c26.toNat : Int) < 48)) = false), ((decide (122 < (c26.toNat : Int))) = true), ((decide ((c26.toNat : Int) < 48)) = false), ((decide (122 < (c26.toNat : Int))) = true), ((decide (57 < (c26.toNat : Int))) = false), ((decide (57 < (c26.toNat : Int))) = false), ((decide (57 < (c26.toNat : Int))) = false), (false = false), (false = false)] (by kernel_rfl) (.cons hg27 (.cons hg27 (.cons hg27 (.cons hg32 (.cons hg32 (.cons hg32 (.cons hg33 (.cons hg33 (.cons hg32 (.cons hg33 (.cons hg32 (.cons hg35 (.cons hg35 (.cons hg35 (.cons rfl (.cons rfl .nil)))))))))))))))) (.of_eq (by simp only [hg27, hg32, hg33, hg35, Bool.true_or, Bool.false_or, Bool.true_and, Bool.false_and, Bool.or_true, Bool.or_false, Bool.and_true, Bool.and_false, Bool.false_eq_true, if_true, if_false, reduceIte]))
              · exact RegTo.mk [(.n, .e), (.n, .e), (.n, .e), (.y, .e), (.y, .e), (.n, (.pk false)), (.n, .e), (.s, .e), (.s, .e), (.s, .e), (.u, .e), (.u, .e), (.s, .e), (.n, (.pk false)), (.n, .e), (.s, .e), (.s, .e), (.n, .e), (.n, .e), (.s, .e), (.s, .e), (.n, .e)] ({ tm := [(0, .pv (.str x1)), (25, .pv (.int .i64 (List.length x1 : Int))), (26, .pv (.int .i64 v23)), (53, .pv (.bool false))], hp := [], nx := 0 }) [((decide ((c26.toNat : Int) < 97)) = false), ((decide ((c26.toNat : Int) < 97)) = false), ((decide ((c26.toNat : Int) < 97)) = false), ((decide (122 < (c26.toNat : Int))) = false), ((decide (122 < (c26.toNat : Int))) = false), ((decide (122 < (c26.toNat : Int))) = false), ((decide (122 < (c26.toNat : Int))) = false), ((decide (122 < (c26.toNat : Int))) = false), (false = false), (false = false), (false = false), (false = false)] (by kernel_rfl) (.cons hg27 (.cons hg27 (.cons hg27 (.cons hg32 (.cons hg32 (.cons hg32 (.cons hg32 (.cons hg32 (.cons rfl (.cons rfl (.cons rfl (.cons rfl .nil)))))))))))) (.of_eq (by simp only [hg27, hg32, Bool.true_or, Bool.false_or, Bool.true_and, Bool.false_and, Bool.or_true, Bool.or_false, Bool.and_true, Bool.and_false, Bool.false_eq_true, if_true, if_false, reduceIte]))
          · refine x_cond _ rfl (fun hc38 => ?_) (fun hc38 => ?_)
            · replace h := ite_t h hc38
              refine x_rg (RegTo.mk [(.n, .e)] ({ tm := [(2, .pv (.bool false))], hp := [], nx := 0 }) [] (by kernel_rfl) .nil (Sub.refl _)) ?_
              refine x_toret ?_
              refine x_br ?_
              refine x_tr ?_
              refine x_tr ?_
              replace h := done_leaf h hx24
              refine x_br ?_
              refine x_tr ?_
              obtain rfl := Option.some.inj h
              exact x_ret (.bool false) [] [] (by kernel_rfl) .nil (by decide) (.refl _) (fun _ => rfl)
            · replace h := ite_f h hc38
              refine x_kw ({ tm := [(0, .pv (.str x1)), (25, .pv (.int .i64 (List.length x1 : Int))), (26, .pv (.int .i64 v23))], hp := [], nx := 0 }) (by kernel_rfl) (Sub.refl _) ?_
              refine x_skip ?_
              refine x_bn ?_
              refine x_tn ?_
              refine x_rgt (RegTo.mk [(.n, .e), (.n, .e)] ({ tm := [(0, .pv (.str x1)), (25, .pv (.int .i64 (List.length x1 : Int))), (26, .pv (.int .i64 (IntKind.wrap .i64 (v23 + 1))))], hp := [], nx := 0 }) [] (by kernel_rfl) .nil (Sub.refl _)) ?_
              refine x_tn ?_
              exact ⟨_, (Option.some.inj h).symm, by kernel_rfl⟩
        · replace h := ite_f h hc25
          refine x_kw ({ tm := [], hp := [], nx := 0 }) (by kernel_rfl) (Sub.refl _) ?_
          refine x_exit ?_
          refine x_te ?_
          refine x_te ?_
          replace h := done_leaf h hx24
          refine x_bh ?_
          refine x_tn ?_
          refine x_rg (RegTo.mk [(.n, .e)] ({ tm := [(2, .pv (.bool true))], hp := [], nx := 0 }) [] (by kernel_rfl) .nil (Sub.refl _)) ?_
          refine x_toret ?_
          obtain rfl := Option.some.inj h
          exact x_ret (.bool true) [] [] (by kernel_rfl) .nil (by decide) (.refl _) (fun _ => rfl)

theorem c49 {b : api_Attr} {a1 : api_Attr} {r : Bool} (h : attr_check_1 b a1 = some r) : CallOK Tryd.prog 49 [enc_api_Attr b, .rptr (some 3) (enc_api_Attr a1) 0] (.bool r) true := by
  apply ok49
  unfold attr_check_1 at h
  refine x_rg (RegTo.mk [(.n, .e), (.n, .e)] ({ tm := [(1, .pv (.rptr (some 3) (enc_api_Attr a1) 0)), (2, .optr 0 0 0)], hp := [(0, some (.p (some 3) [enc_api_Attr b]))], nx := 1 }) [] (by kernel_rfl) .nil (Sub.refl _)) ?_
  refine x_rg (RegTo.mk [(.n, .e), (.n, .e), (.n, .e), (.n, .e), (.n, .e), (.n, .e)] ({ tm := [(3, .pv (.bool (decide (b.Name = a1.Name))))], hp := [], nx := 0 }) [] (by kernel_rfl) .nil (Sub.refl _)) ?_
  refine x_toret ?_
  obtain rfl := Option.some.inj h
  exact x_ret (.bool (decide (b.Name = a1.Name))) [] [] (by kernel_rfl) .nil (by decide) (.refl _) (fun _ => rfl)

theorem c60_f49 {s_ : (List api_Attr)} {f : api_Attr} {r : Int} (h : slices_IndexFunc_api_Attr_api_Attr_f49 s_ f = some r) : CallOK Tryd.prog 60 [.sl (some 3) (List.map enc_api_Attr s_), .fn 49 [.rptr (some 3) (enc_api_Attr f) 0]] (.int .i64 r) true := by
  apply ok60
  unfold slices_IndexFunc_api_Attr_api_Attr_f49 at h
  refine x_rg (RegTo.mk [(.n, .e)] ({ tm := [(0, .pv (.sl (some 3) (List.map enc_api_Attr s_))), (1, .pv (.fn 49 [.rptr (some 3) (enc_api_Attr f) 0]))], hp := [], nx := 0 }) [] (by kernel_rfl) .nil (Sub.refl _)) ?_
  refine x_seq ?_
  refine x_rg (RegTo.mk [(.n, .e), (.n, (.len (List.length s_ : Int))), (.n, .e)] ({ tm := [(0, .pv (.sl (some 3) (List.map enc_api_Attr s_))), (1, .pv (.fn 49 [.rptr (some 3) (enc_api_Attr f) 0])), (7, .pv (.int .i64 (List.length s_ : Int))), (8, .pv (.int .i64 0))], hp := [], nx := 0 }) [((List.length (List.map enc_api_Attr s_) : Int) = (List.length s_ : Int))] (by kernel_rfl) (.cons (by rw [List.length_map]) .nil) (Sub.refl _)) ?_
  refine x_block ?_
  refine x_kw ({ tm := [(0, .pv (.sl (some 3) (List.map enc_api_Attr s_))), (1, .pv (.fn 49 [.rptr (some 3) (enc_api_Attr f) 0])), (7, .pv (.int .i64 (List.length s_ : Int))), (8, .pv (.int .i64 0))], hp := [], nx := 0 }) (by kernel_rfl) (Sub.refl _) ?_
  refine x_loop (σ := Int) h (fun s => { tm := [(0, .pv (.sl (some 3) (List.map enc_api_Attr s_))), (1, .pv (.fn 49 [.rptr (some 3) (enc_api_Attr f) 0])), (7, .pv (.int .i64 (List.length s_ : Int))), (8, .pv (.int .i64 s))], hp := [], nx := 0 }) (by kernel_rfl) ?_ ?_
  · rintro v5
    kernel_rfl
  · rintro v5 x6 h hx6
    replace h : slices_IndexFunc_api_Attr_api_Attr_f49_L6 s_ f v5 = some x6 := h
    unfold slices_IndexFunc_api_Attr_api_Attr_f49_L6 at h
    refine x_rg (RegTo.mk [(.n, .e)] ({ tm := [(0, .pv (.sl (some 3) (List.map enc_api_Attr s_))), (1, .pv (.fn 49 [.rptr (some 3) (enc_api_Attr f) 0])), (7, .pv (.int .i64 (List.length s_ : Int))), (8, .pv (.int .i64 v5)), (9, .pv (.bool (decide (v5 < (List.length s_ : Int)))))], hp := [], nx := 0 }) [] (by kernel_rfl) .nil (Sub.refl _)) ?_
    refine x_seq ?_
    refine x_cond _ rfl (fun hc7 => ?_) (fun hc7 => ?_)
    · replace h := ite_t h hc7
      refine x_kw ({ tm := [(0, .pv (.sl (some 3) (List.map enc_api_Attr s_))), (1, .pv (.fn 49 [.rptr (some 3) (enc_api_Attr f) 0])), (7, .pv (.int .i64 (List.length s_ : Int))), (8, .pv (.int .i64 v5))], hp := [], nx := 0 }) (by kernel_rfl) (Sub.refl _) ?_
      refine x_skip ?_
      refine x_tn ?_
      refine x_seq ?_
      refine x_block ?_
      refine x_rg (RegTo.mk [(.n, .e), (.n, .e)] ({ tm := [(0, .pv (.sl (some 3) (List.map enc_api_Attr s_))), (1, .pv (.fn 49 [.rptr (some 3) (enc_api_Attr f) 0])), (5, .pv (.int .i64 v5)), (7, .pv (.int .i64 (List.length s_ : Int))), (8, .pv (.int .i64 v5))], hp := [], nx := 0 }) [] (by kernel_rfl) .nil (Sub.refl _)) ?_
      obtain ⟨x8, hx8, h⟩ := bind_some h
      obtain ⟨x9, hx9, h⟩ := bind_some h
      refine x_rg (RegTo.mk [(.n, .e), (.n, .e), (.n, .e), (.n, (.pAt (enc_api_Attr x8))), (.n, .e), (.n, (.call [] [enc_api_Attr x8, .rptr (some 3) (enc_api_Attr f) 0] (.bool x9) true))] ({ tm := [(0, .pv (.sl (some 3) (List.map enc_api_Attr s_))), (1, .pv (.fn 49 [.rptr (some 3) (enc_api_Attr f) 0])), (5, .pv (.int .i64 v5)), (7, .pv (.int .i64 (List.length s_ : Int))), (8, .pv (.int .i64 v5)), (16, .pv (.bool x9))], hp := [], nx := 0 }) [(lsAt (List.map enc_api_Attr s_) v5 = some (enc_api_Attr x8)), (LesA [enc_api_Attr x8, .rptr (some 3) (enc_api_Attr f) 0] [enc_api_Attr x8, .rptr (some 3) (enc_api_Attr f) 0]), (CallOK Tryd.prog 49 [enc_api_Attr x8, .rptr (some 3) (enc_api_Attr f) 0] (.bool x9) true)] (by kernel_rfl) (.cons (lsAt_map hx8) (.cons (LesA.rfl' _) (.cons (c49 hx9) .nil))) (Sub.refl _)) ?_
      refine x_cond _ rfl (fun hc10 => ?_) (fun hc10 => ?_)
      · replace h := ite_t h hc10
        refine x_rg (RegTo.mk [(.n, .e), (.n, .e)] ({ tm := [(4, .pv (.int .i64 v5))], hp := [], nx := 0 }) [] (by kernel_rfl) .nil (Sub.refl _)) ?_
        refine x_toret ?_
        refine x_br ?_
        refine x_tr ?_
        refine x_tr ?_
        replace h := done_leaf h hx6
        refine x_br ?_
        refine x_tr ?_
        obtain rfl := Option.some.inj h
        exact x_ret (.int .i64 v5) [] [] (by kernel_rfl) .nil (by decide) (.refl _) (fun _ => rfl)
      · replace h := ite_f h hc10
        refine x_kw ({ tm := [(0, .pv (.sl (some 3) (List.map enc_api_Attr s_))), (1, .pv (.fn 49 [.rptr (some 3) (enc_api_Attr f) 0])), (7, .pv (.int .i64 (List.length s_ : Int))), (8, .pv (.int .i64 v5))], hp := [], nx := 0 }) (by kernel_rfl) (Sub.refl _) ?_
        refine x_skip ?_
        refine x_bn ?_
        refine x_tn ?_
        refine x_rgt (RegTo.mk [(.n, .e), (.n, .e)] ({ tm := [(0, .pv (.sl (some 3) (List.map enc_api_Attr s_))), (1, .pv (.fn 49 [.rptr (some 3) (enc_api_Attr f) 0])), (7, .pv (.int .i64 (List.length s_ : Int))), (8, .pv (.int .i64 (IntKind.wrap .i64 (v5 + 1))))], hp := [], nx := 0 }) [] (by kernel_rfl) .nil (Sub.refl _)) ?_
        refine x_tn ?_
        exact ⟨_, (Option.some.inj h).symm, by kernel_rfl⟩
    · replace h := ite_f h hc7
      refine x_kw ({ tm := [], hp := [], nx := 0 }) (by kernel_rfl) (Sub.refl _) ?_
      refine x_exit ?_
      refine x_te ?_
      refine x_te ?_
      replace h := done_leaf h hx6
      refine x_bh ?_
      refine x_tn ?_
      refine x_rg (RegTo.mk [(.n, .e)] ({ tm := [(4, .pv (.int .i64 (-1)))], hp := [], nx := 0 }) [] (by kernel_rfl) .nil (Sub.refl _)) ?_
      refine x_toret ?_
      obtain rfl := Option.some.inj h
      exact x_ret (.int .i64 (-1)) [] [] (by kernel_rfl) .nil (by decide) (.refl _) (fun _ => rfl)

theorem c48_f49 {s_ : (List api_Attr)} {f : api_Attr} {r : Bool} (h : slices_ContainsFunc_api_Attr_api_Attr_f49 s_ f = some r) : CallOK Tryd.prog 48 [.sl (some 3) (List.map enc_api_Attr s_), .fn 49 [.rptr (some 3) (enc_api_Attr f) 0]] (.bool r) true := by
  apply ok48
  unfold slices_ContainsFunc_api_Attr_api_Attr_f49 at h
  refine x_rg (RegTo.mk [(.n, .e)] ({ tm := [(0, .pv (.sl (some 3) (List.map enc_api_Attr s_))), (1, .pv (.fn 49 [.rptr (some 3) (enc_api_Attr f) 0]))], hp := [], nx := 0 }) [] (by kernel_rfl) .nil (Sub.refl _)) ?_
  obtain ⟨x1, hx1, h⟩ := bind_some h
  refine x_rg (RegTo.mk [(.n, .e), (.n, .e), (.n, (.call [] [.sl (some 3) (List.map enc_api_Attr s_), .fn 49 [.rptr (some 3) (enc_api_Attr f) 0]] (.int .i64 x1) true)), (.n, .e), (.n, .e)] ({ tm := [(4, .pv (.bool (decide (0 ≤ x1))))], hp := [], nx := 0 }) [(LesA [.sl (some 3) (List.map enc_api_Attr s_), .fn 49 [.rptr (some 3) (enc_api_Attr f) 0]] [.sl (some 3) (List.map enc_api_Attr s_), .fn 49 [.rptr (some 3) (enc_api_Attr f) 0]]), (CallOK Tryd.prog 60 [.sl (some 3) (List.map enc_api_Attr s_), .fn 49 [.rptr (some 3) (enc_api_Attr f) 0]] (.int .i64 x1) true)] (by kernel_rfl) (.cons (LesA.rfl' _) (.cons (c60_f49 hx1) .nil)) (Sub.refl _)) ?_
  refine x_toret ?_
  obtain rfl := Option.some.inj h
  exact x_ret (.bool (decide (0 ≤ x1))) [] [] (by kernel_rfl) .nil (by decide) (.refl _) (fun _ => rfl)

theorem c30 {before : (List api_Attr)} {a : api_Attr} {r : Int} (h : attr_check before a = some r) : CallOK Tryd.prog 30 [.sl (some 3) (List.map enc_api_Attr before), enc_api_Attr a] (.int .i64 r) true := by
  apply ok30
  unfold attr_check at h
  refine x_rg (RegTo.mk [(.n, .e), (.n, .e)] ({ tm := [(0, .pv (.sl (some 3) (List.map enc_api_Attr before))), (3, .optr 0 0 0)], hp := [(0, some (.p (some 3) [enc_api_Attr a]))], nx := 1 }) [] (by kernel_rfl) .nil (Sub.refl _)) ?_
  refine x_seq ?_
  refine x_block ?_
  refine x_rg (RegTo.mk [(.n, .e), (.n, (.len (List.length before : Int))), (.n, .e), (.n, .e)] ({ tm := [(0, .pv (.sl (some 3) (List.map enc_api_Attr before))), (3, .optr 0 0 0), (5, .pv (.bool (decide (32 ≤ (List.length before : Int)))))], hp := [(0, some (.p (some 3) [enc_api_Attr a]))], nx := 1 }) [((List.length (List.map enc_api_Attr before) : Int) = (List.length before : Int))] (by kernel_rfl) (.cons (by rw [List.length_map]) .nil) (Sub.refl _)) ?_
  refine x_cond _ rfl (fun hc1 => ?_) (fun hc1 => ?_)
  · replace h := ite_t h hc1
    refine x_rg (RegTo.mk [(.n, .e)] ({ tm := [(4, .pv (.int .i64 22))], hp := [], nx := 0 }) [] (by kernel_rfl) .nil (Sub.refl _)) ?_
    refine x_toret ?_
    refine x_br ?_
    refine x_tr ?_
    obtain rfl := Option.some.inj h
    exact x_ret (.int .i64 22) [] [] (by kernel_rfl) .nil (by decide) (.refl _) (fun _ => rfl)
  · replace h := ite_f h hc1
    obtain ⟨x2, hx2, h⟩ := bind_some h
    refine x_rg (RegTo.mk [(.n, .e), (.n, .e), (.n, (.call [] [.str a.Name] (.bool x2) true)), (.n, .e), (.n, .e)] ({ tm := [(0, .pv (.sl (some 3) (List.map enc_api_Attr before))), (3, .optr 0 0 0), (9, .pv (.bool (!x2)))], hp := [(0, some (.p (some 3) [enc_api_Attr a]))], nx := 1 }) [(LesA [.str a.Name] [.str a.Name]), (CallOK Tryd.prog 46 [.str a.Name] (.bool x2) true)] (by kernel_rfl) (.cons (LesA.rfl' _) (.cons (c46 hx2) .nil)) (Sub.refl _)) ?_
    refine x_cond _ rfl (fun hc3 => ?_) (fun hc3 => ?_)
    · replace h := ite_t h hc3
      refine x_rg (RegTo.mk [(.n, .e)] ({ tm := [(4, .pv (.int .i64 6))], hp := [], nx := 0 }) [] (by kernel_rfl) .nil (Sub.refl _)) ?_
      refine x_toret ?_
      refine x_br ?_
      refine x_tr ?_
      obtain rfl := Option.some.inj h
      exact x_ret (.int .i64 6) [] [] (by kernel_rfl) .nil (by decide) (.refl _) (fun _ => rfl)
    · replace h := ite_f h hc3
      refine x_rg (st2 := { tm := [(0, .pv (.sl (some 3) (List.map enc_api_Attr before))), (3, .optr 0 0 0), (14, .pv (.bool (a.Query && (!decide (a.Value = [])))))], hp := [(0, some (.p (some 3) [enc_api_Attr a]))], nx := 1 }) ?_ ?_
      · rcases Bool.eq_false_or_eq_true a.Query with hg4 | hg4
        · exact RegTo.mk [(.n, .e), (.n, .e), (.n, .e), (.y, .e), (.y, .e), (.y, .e), (.n, (.pk true)), (.n, .e)] ({ tm := [(0, .pv (.sl (some 3) (List.map enc_api_Attr before))), (3, .optr 0 0 0), (14, .pv (.bool (!decide (a.Value = []))))], hp := [(0, some (.p (some 3) [enc_api_Attr a]))], nx := 1 }) [(a.Query = true), (a.Query = true), (a.Query = true), (a.Query = true)] (by kernel_rfl) (.cons hg4 (.cons hg4 (.cons hg4 (.cons hg4 .nil)))) (.of_eq (by simp only [hg4, Bool.true_or, Bool.false_or, Bool.true_and, Bool.false_and, Bool.or_true, Bool.or_false, Bool.and_true, Bool.and_false, Bool.false_eq_true, if_true, if_false, reduceIte]))
        · exact RegTo.mk [(.n, .e), (.n, .e), (.n, .e), (.s, .e), (.s, .e), (.s, .e), (.n, (.pk false)), (.n, .e)] ({ tm := [(0, .pv (.sl (some 3) (List.map enc_api_Attr before))), (3, .optr 0 0 0), (14, .pv (.bool false))], hp := [(0, some (.p (some 3) [enc_api_Attr a]))], nx := 1 }) [(a.Query = false), (a.Query = false), (a.Query = false), (a.Query = false)] (by kernel_rfl) (.cons hg4 (.cons hg4 (.cons hg4 (.cons hg4 .nil)))) (.of_eq (by simp only [hg4, Bool.true_or, Bool.false_or, Bool.true_and, Bool.false_and, Bool.or_true, Bool.or_false, Bool.and_true, Bool.and_false, Bool.false_eq_true, if_true, if_false, reduceIte]))
      · refine x_cond _ rfl (fun hc6 => ?_) (fun hc6 => ?_)
        · replace h := ite_t h hc6
          refine x_rg (RegTo.mk [(.n, .e)] ({ tm := [(4, .pv (.int .i64 2))], hp := [], nx := 0 }) [] (by kernel_rfl) .nil (Sub.refl _)) ?_
          refine x_toret ?_
          refine x_br ?_
          refine x_tr ?_
          obtain rfl := Option.some.inj h
          exact x_ret (.int .i64 2) [] [] (by kernel_rfl) .nil (by decide) (.refl _) (fun _ => rfl)
        · replace h := ite_f h hc6
          obtain ⟨x7, hx7, h⟩ := bind_some h
          refine x_rg (RegTo.mk [(.n, .e), (.n, .e), (.n, (.call [] [.str a.Value, .str [0, 10, 13]] (.int .i64 x7) true)), (.n, .e), (.n, .e), (.n, .e), (.n, .e), (.n, .e)] ({ tm := [(0, .pv (.sl (some 3) (List.map enc_api_Attr before))), (3, .optr 0 0 0), (22, .pv (.bool (decide (x7 < (List.length a.Value : Int)))))], hp := [(0, some (.p (some 3) [enc_api_Attr a]))], nx := 1 }) [(LesA [.str a.Value, .str [0, 10, 13]] [.str a.Value, .str [0, 10, 13]]), (CallOK Tryd.prog 47 [.str a.Value, .str [0, 10, 13]] (.int .i64 x7) true)] (by kernel_rfl) (.cons (LesA.rfl' _) (.cons (c47 hx7) .nil)) (Sub.refl _)) ?_
          refine x_cond _ rfl (fun hc8 => ?_) (fun hc8 => ?_)
          · replace h := ite_t h hc8
            refine x_rg (RegTo.mk [(.n, .e)] ({ tm := [(4, .pv (.int .i64 2))], hp := [], nx := 0 }) [] (by kernel_rfl) .nil (Sub.refl _)) ?_
            refine x_toret ?_
            refine x_br ?_
            refine x_tr ?_
            obtain rfl := Option.some.inj h
            exact x_ret (.int .i64 2) [] [] (by kernel_rfl) .nil (by decide) (.refl _) (fun _ => rfl)
          · replace h := ite_f h hc8
            refine x_rg (RegTo.mk [(.n, .e), (.n, .e), (.n, .e), (.n, .e), (.n, .e)] ({ tm := [(0, .pv (.sl (some 3) (List.map enc_api_Attr before))), (3, .optr 0 0 0), (30, .pv (.bool (decide (1024 < (List.length a.Value : Int)))))], hp := [(0, some (.p (some 3) [enc_api_Attr a]))], nx := 1 }) [] (by kernel_rfl) .nil (Sub.refl _)) ?_
            refine x_cond _ rfl (fun hc9 => ?_) (fun hc9 => ?_)
            · replace h := ite_t h hc9
              refine x_rg (RegTo.mk [(.n, .e)] ({ tm := [(4, .pv (.int .i64 4))], hp := [], nx := 0 }) [] (by kernel_rfl) .nil (Sub.refl _)) ?_
              refine x_toret ?_
              refine x_br ?_
              refine x_tr ?_
              obtain rfl := Option.some.inj h
              exact x_ret (.int .i64 4) [] [] (by kernel_rfl) .nil (by decide) (.refl _) (fun _ => rfl)
            · replace h := ite_f h hc9
              obtain ⟨x10, hx10, h⟩ := bind_some h
              refine x_rg (RegTo.mk [(.n, .e), (.n, .e), (.n, (.call [] [.sl (some 3) (List.map enc_api_Attr before), .fn 49 [.rptr (some 3) (enc_api_Attr a) 0]] (.bool x10) true)), (.n, .e)] ({ tm := [(35, .pv (.bool x10))], hp := [], nx := 0 }) [(LesA [.sl (some 3) (List.map enc_api_Attr before), .fn 49 [.rptr (some 3) (enc_api_Attr a) 0]] [.sl (some 3) (List.map enc_api_Attr before), .fn 49 [.rptr (some 3) (enc_api_Attr a) 0]]), (CallOK Tryd.prog 48 [.sl (some 3) (List.map enc_api_Attr before), .fn 49 [.rptr (some 3) (enc_api_Attr a) 0]] (.bool x10) true)] (by kernel_rfl) (.cons (LesA.rfl' _) (.cons (c48_f49 hx10) .nil)) (Sub.refl _)) ?_
              refine x_cond _ rfl (fun hc11 => ?_) (fun hc11 => ?_)
              · replace h := ite_t h hc11
                refine x_rg (RegTo.mk [(.n, .e)] ({ tm := [(4, .pv (.int .i64 7))], hp := [], nx := 0 }) [] (by kernel_rfl) .nil (Sub.refl _)) ?_
                refine x_toret ?_
                refine x_br ?_
                refine x_tr ?_
                obtain rfl := Option.some.inj h
                exact x_ret (.int .i64 7) [] [] (by kernel_rfl) .nil (by decide) (.refl _) (fun _ => rfl)
              · replace h := ite_f h hc11
                refine x_kw ({ tm := [], hp := [], nx := 0 }) (by kernel_rfl) (Sub.refl _) ?_
                refine x_skip ?_
                refine x_bn ?_
                refine x_tn ?_
                refine x_rg (RegTo.mk [(.n, .e)] ({ tm := [(4, .pv (.int .i64 0))], hp := [], nx := 0 }) [] (by kernel_rfl) .nil (Sub.refl _)) ?_
                refine x_toret ?_
                obtain rfl := Option.some.inj h
                exact x_ret (.int .i64 0) [] [] (by kernel_rfl) .nil (by decide) (.refl _) (fun _ => rfl)

theorem c17 {s_ : Str} {r : ((List api_Attr) × Int × Int)} (h : attr_Parse s_ = some r) : CallOK Tryd.prog 17 [.str s_] (.tup [.usl (some 3) (List.map enc_api_Attr r.1), .int .i64 r.2.1, .int .i64 r.2.2]) true := by
  apply ok17
  unfold attr_Parse at h
  refine x_rg (RegTo.mk [(.n, .e), (.n, .e), (.n, .e)] ({ tm := [(0, .pv (.str s_))], hp := [], nx := 0 }) [] (by kernel_rfl) .nil (Sub.refl _)) ?_
  refine x_rg (st2 := { tm := [(0, .pv (.str s_)), (5, .osl 0 0 (List.map enc_api_Attr ([] : List api_Attr)).length)], hp := [(0, some (.p (some 3) (List.map enc_api_Attr ([] : List api_Attr))))], nx := 1 }) (RegTo.mk [(.n, .e)] ({ tm := [(0, .pv (.str s_)), (5, .pv (.nilsl))], hp := [], nx := 0 }) [] (by kernel_rfl) .nil ((Sub.keep (ks := [0, 5]) (st := ownSt 5 (some 3) ({ tm := [(0, .pv (.str s_)), (5, .pv (.nilsl))], hp := [], nx := 0 })) (st' := { tm := [(0, .pv (.str s_)), (5, .osl 0 0 (List.map enc_api_Attr ([] : List api_Attr)).length)], hp := [(0, some (.p (some 3) (List.map enc_api_Attr ([] : List api_Attr))))], nx := 1 }) (by kernel_rfl)).trans (own_sound 5 (some 3) ({ tm := [(0, .pv (.str s_)), (5, .pv (.nilsl))], hp := [], nx := 0 })))) ?_
  refine x_seq ?_
  refine x_rg (RegTo.mk [(.n, .e)] ({ tm := [(0, .pv (.str s_)), (5, .osl 0 0 (List.map enc_api_Attr ([] : List api_Attr)).length), (6, .pv (.int .i64 0))], hp := [(0, some (.p (some 3) (List.map enc_api_Attr ([] : List api_Attr))))], nx := 1 }) [] (by kernel_rfl) .nil (Sub.refl _)) ?_
  refine x_block ?_
  refine x_kw ({ tm := [(0, .pv (.str s_)), (5, .osl 0 0 (List.map enc_api_Attr ([] : List api_Attr)).length), (6, .pv (.int .i64 0))], hp := [(0, some (.p (some 3) (List.map enc_api_Attr ([] : List api_Attr))))], nx := 1 }) (by kernel_rfl) (Sub.refl _) ?_
  refine x_loop (σ := (Int × (List api_Attr))) h (fun s => { tm := [(0, .pv (.str s_)), (5, .osl 0 0 (List.map enc_api_Attr s.2).length), (6, .pv (.int .i64 s.1))], hp := [(0, some (.p (some 3) (List.map enc_api_Attr s.2)))], nx := 1 }) (by kernel_rfl) ?_ ?_
  · rintro ⟨i, out⟩
    kernel_rfl
  · rintro ⟨i, out⟩ x15 h hx15
    replace h : attr_Parse_L15 s_ i out = some x15 := h
    unfold attr_Parse_L15 at h
    refine x_seq ?_
    refine x_rg (RegTo.mk [(.n, .e), (.n, .e), (.n, .e), (.n, .e)] ({ tm := [(0, .pv (.str s_)), (5, .osl 0 0 (List.map enc_api_Attr out).length), (6, .pv (.int .i64 i)), (13, .pv (.bool (decide (i < (List.length s_ : Int)))))], hp := [(0, some (.p (some 3) (List.map enc_api_Attr out)))], nx := 1 }) [] (by kernel_rfl) .nil (Sub.refl _)) ?_
    refine x_cond _ rfl (fun hc16 => ?_) (fun hc16 => ?_)
    · replace h := ite_t h hc16
      refine x_kw ({ tm := [(0, .pv (.str s_)), (5, .osl 0 0 (List.map enc_api_Attr out).length), (6, .pv (.int .i64 i))], hp := [(0, some (.p (some 3) (List.map enc_api_Attr out)))], nx := 1 }) (by kernel_rfl) (Sub.refl _) ?_
      refine x_skip ?_
      refine x_tn ?_
      refine x_block ?_
      refine x_seq ?_
      obtain ⟨c17, hc17, h⟩ := bind_some h
      obtain ⟨x18, hx18, h⟩ := bind_some h
      refine x_rg (RegTo.mk [(.n, .e), (.n, .e), (.n, (.sAt c17)), (.n, (.call [] [.int .u8 (c17.toNat : Int)] (.bool x18) true))] ({ tm := [(0, .pv (.str s_)), (5, .osl 0 0 (List.map enc_api_Attr out).length), (6, .pv (.int .i64 i)), (17, .pv (.bool x18))], hp := [(0, some (.p (some 3) (List.map enc_api_Attr out)))], nx := 1 }) [(strAt s_ i = some c17), (LesA [.int .u8 (c17.toNat : Int)] [.int .u8 (c17.toNat : Int)]), (CallOK Tryd.prog 35 [.int .u8 (c17.toNat : Int)] (.bool x18) true)] (by kernel_rfl) (.cons hc17 (.cons (LesA.rfl' _) (.cons (c35 hx18) .nil))) (Sub.refl _)) ?_
      refine x_cond _ rfl (fun hc19 => ?_) (fun hc19 => ?_)
      · replace h := ite_t h hc19
        refine x_rg (RegTo.mk [(.n, .e), (.n, .e), (.n, .e)] ({ tm := [(0, .pv (.str s_)), (5, .osl 0 0 (List.map enc_api_Attr out).length), (6, .pv (.int .i64 (IntKind.wrap .i64 (i + 1))))], hp := [(0, some (.p (some 3) (List.map enc_api_Attr out)))], nx := 1 }) [] (by kernel_rfl) .nil (Sub.refl _)) ?_
        refine x_kw ({ tm := [(0, .pv (.str s_)), (5, .osl 0 0 (List.map enc_api_Attr out).length), (6, .pv (.int .i64 (IntKind.wrap .i64 (i + 1))))], hp := [(0, some (.p (some 3) (List.map enc_api_Attr out)))], nx := 1 }) (by kernel_rfl) (Sub.refl _) ?_
        refine x_exit ?_
        refine x_te ?_
        refine x_bh ?_
        refine x_tn ?_
        exact ⟨_, (Option.some.inj h).symm, by kernel_rfl⟩
      · replace h := ite_f h hc19
        refine x_kw ({ tm := [(0, .pv (.str s_)), (5, .osl 0 0 (List.map enc_api_Attr out).length), (6, .pv (.int .i64 i))], hp := [(0, some (.p (some 3) (List.map enc_api_Attr out)))], nx := 1 }) (by kernel_rfl) (Sub.refl _) ?_
        refine x_skip ?_
        refine x_tn ?_
        obtain ⟨x20, hx20, h⟩ := bind_some h
        obtain ⟨x21, hx21, h⟩ := bind_some h
        refine x_rg (RegTo.mk [(.n, .e), (.n, .e), (.n, (.cutS x20)), (.n, (.call [] [.str x20] (.tup [enc_api_Attr x21.1, .int .i64 x21.2.1, .int .i64 x21.2.2]) true)), (.n, .e), (.n, .e), (.n, .e), (.n, .e), (.n, .e), (.n, .e), (.n, .e), (.n, .e)] ({ tm := [(0, .pv (.str s_)), (5, .osl 0 0 (List.map enc_api_Attr out).length), (6, .pv (.int .i64 i)), (7, .optr 1 0 0), (8, .pv (.int .i64 x21.2.1)), (9, .pv (.int .i64 x21.2.2))], hp := [(0, some (.p (some 3) (List.map enc_api_Attr out))), (1, some (.p (some 3) [enc_api_Attr x21.1]))], nx := 2 }) [(cut s_ i (List.length s_ : Int) = some x20), (LesA [.str x20] [.str x20]), (CallOK Tryd.prog 36 [.str x20] (.tup [enc_api_Attr x21.1, .int .i64 x21.2.1, .int .i64 x21.2.2]) true)] (by kernel_rfl) (.cons hx20 (.cons (LesA.rfl' _) (.cons (c36 hx21) .nil))) (Sub.refl _)) ?_
        refine x_join (τ := Int) (fun t => attr_Parse_K22 i out x21 t = some x15) (fun t => { tm := [(0, .pv (.str s_)), (5, .osl 0 0 (List.map enc_api_Attr out).length), (6, .pv (.int .i64 i)), (7, .optr 1 0 0), (8, .pv (.int .i64 x21.2.1)), (9, .pv (.int .i64 t))], hp := [(0, some (.p (some 3) (List.map enc_api_Attr out))), (1, some (.p (some 3) [enc_api_Attr x21.1]))], nx := 2 }) ?_ ?_
        · rintro p23 h
          replace h : attr_Parse_K22 i out x21 p23 = some x15 := h
          unfold attr_Parse_K22 at h
          refine x_seq ?_
          refine x_rg (RegTo.mk [(.n, .e), (.n, .e)] ({ tm := [(0, .pv (.str s_)), (5, .osl 0 0 (List.map enc_api_Attr out).length), (6, .pv (.int .i64 i)), (7, .optr 1 0 0), (8, .pv (.int .i64 x21.2.1)), (9, .pv (.int .i64 p23)), (34, .pv (.bool (!decide (p23 = 0))))], hp := [(0, some (.p (some 3) (List.map enc_api_Attr out))), (1, some (.p (some 3) [enc_api_Attr x21.1]))], nx := 2 }) [] (by kernel_rfl) .nil (Sub.refl _)) ?_
          refine x_cond _ rfl (fun hc24 => ?_) (fun hc24 => ?_)
          · replace h := ite_t h hc24
            refine x_rg (RegTo.mk [(.n, .e), (.n, .e), (.n, .e), (.n, .e), (.n, .e)] ({ tm := [(2, .pv (.nilsl)), (3, .pv (.int .i64 i)), (4, .pv (.int .i64 p23))], hp := [], nx := 0 }) [] (by kernel_rfl) .nil (Sub.refl _)) ?_
            refine x_toret ?_
            refine x_tr ?_
            refine x_br ?_
            refine x_tr ?_
            replace h := done_leaf h hx15
            refine x_br ?_
            refine x_tr ?_
            obtain rfl := Option.some.inj h
            exact x_ret (.tup [.nilsl, .int .i64 i, .int .i64 p23]) [] [] (by kernel_rfl) .nil (by decide) (.tup (.cons (.nilUsl _) (.cons (.refl _) (.cons (.refl _) .nil)))) (fun _ => tup_ns (.cons (usl_ns (sh := (some 3)) (fun _ => rfl)) (.cons rfl (.cons rfl .nil))))
          · replace h := ite_f h hc24
            refine x_kw ({ tm := [(0, .pv (.str s_)), (5, .osl 0 0 (List.map enc_api_Attr out).length), (6, .pv (.int .i64 i)), (7, .optr 1 0 0), (8, .pv (.int .i64 x21.2.1))], hp := [(0, some (.p (some 3) (List.map enc_api_Attr out))), (1, some (.p (some 3) [enc_api_Attr x21.1]))], nx := 2 }) (by kernel_rfl) (Sub.refl _) ?_
            refine x_skip ?_
            refine x_tn ?_
            obtain ⟨x25, hx25, h⟩ := bind_some h
            refine x_rg (RegTo.mk [(.n, .e), (.n, .e), (.n, .e), (.n, (.app (List.map enc_api_Attr x25))), (.n, .e)] ({ tm := [(0, .pv (.str s_)), (5, .osl 0 0 (List.map enc_api_Attr x25).length), (6, .pv (.int .i64 i)), (8, .pv (.int .i64 x21.2.1))], hp := [(0, some (.p (some 3) (List.map enc_api_Attr x25)))], nx := 1 }) [(List.take (List.map enc_api_Attr out).length (List.map enc_api_Attr out) ++ List.take 1 (List.drop 0 ([enc_api_Attr x21.1] : List PV)) = (List.map enc_api_Attr x25)), (List.length (List.map enc_api_Attr x25) * 40 ≤ 140737488355328), (List.length (List.map enc_api_Attr x25) ≤ 9223372036854775807), ((List.map enc_api_Attr out).length ≤ List.length (List.map enc_api_Attr out)), (0 + 1 ≤ List.length ([enc_api_Attr x21.1] : List PV))] (by kernel_rfl) (.cons (app_ob hx25 (.all _) (.rfl _)) (.cons (by rw [List.length_map]; exact (appL_ok hx25).2.1) (.cons (by rw [List.length_map]; exact (appL_ok hx25).2.2) (.cons (Nat.le_refl _) (.cons (by simp) .nil))))) (Sub.refl _)) ?_
            refine x_rgt (RegTo.mk [(.n, .e), (.n, .e), (.n, .e), (.n, .e)] ({ tm := [(0, .pv (.str s_)), (5, .osl 0 0 (List.map enc_api_Attr x25).length), (6, .pv (.int .i64 (IntKind.wrap .i64 (i + x21.2.1))))], hp := [(0, some (.p (some 3) (List.map enc_api_Attr x25)))], nx := 1 }) [] (by kernel_rfl) .nil (Sub.refl _)) ?_
            refine x_bn ?_
            refine x_tn ?_
            exact ⟨_, (Option.some.inj h).symm, by kernel_rfl⟩
        · refine x_rg (RegTo.mk [(.n, .e), (.n, .e)] ({ tm := [(0, .pv (.str s_)), (5, .osl 0 0 (List.map enc_api_Attr out).length), (6, .pv (.int .i64 i)), (7, .optr 1 0 0), (8, .pv (.int .i64 x21.2.1)), (9, .pv (.int .i64 x21.2.2)), (29, .pv (.bool (decide (x21.2.2 = 0))))], hp := [(0, some (.p (some 3) (List.map enc_api_Attr out))), (1, some (.p (some 3) [enc_api_Attr x21.1]))], nx := 2 }) [] (by kernel_rfl) .nil (Sub.refl _)) ?_
          refine x_cond _ rfl (fun hc26 => ?_) (fun hc26 => ?_)
          · replace h := ite_t h hc26
            obtain ⟨x27, hx27, h⟩ := bind_some h
            refine x_rgt (RegTo.mk [(.n, .e), (.n, .e), (.n, (.call [] [.sl (some 3) (List.map enc_api_Attr out), enc_api_Attr x21.1] (.int .i64 x27) true)), (.n, .e)] ({ tm := [(0, .pv (.str s_)), (5, .osl 0 0 (List.map enc_api_Attr out).length), (6, .pv (.int .i64 i)), (7, .optr 1 0 0), (8, .pv (.int .i64 x21.2.1)), (9, .pv (.int .i64 x27))], hp := [(0, some (.p (some 3) (List.map enc_api_Attr out))), (1, some (.p (some 3) [enc_api_Attr x21.1]))], nx := 2 }) [(LesA [.sl (some 3) (List.take (List.map enc_api_Attr out).length (List.drop 0 (List.map enc_api_Attr out))), enc_api_Attr x21.1] [.sl (some 3) (List.map enc_api_Attr out), enc_api_Attr x21.1]), (CallOK Tryd.prog 30 [.sl (some 3) (List.map enc_api_Attr out), enc_api_Attr x21.1] (.int .i64 x27) true), (0 + (List.map enc_api_Attr out).length ≤ List.length (List.map enc_api_Attr out))] (by kernel_rfl) (.cons (.cons (.of_eq (by rw [List.drop_zero, List.take_length])) (.cons (.refl _) .nil)) (.cons (c30 hx27) (.cons (by simp) .nil))) (Sub.refl _)) ?_
            refine x_tn ?_
            exact ⟨x27, h, by kernel_rfl⟩
          · replace h := ite_f h hc26
            refine x_kw ({ tm := [(0, .pv (.str s_)), (5, .osl 0 0 (List.map enc_api_Attr out).length), (6, .pv (.int .i64 i)), (7, .optr 1 0 0), (8, .pv (.int .i64 x21.2.1)), (9, .pv (.int .i64 x21.2.2))], hp := [(0, some (.p (some 3) (List.map enc_api_Attr out))), (1, some (.p (some 3) [enc_api_Attr x21.1]))], nx := 2 }) (by kernel_rfl) (Sub.refl _) ?_
            refine x_skip ?_
            refine x_tn ?_
            exact ⟨x21.2.2, h, by kernel_rfl⟩
    · replace h := ite_f h hc16
      refine x_kw ({ tm := [(5, .osl 0 0 (List.map enc_api_Attr out).length)], hp := [(0, some (.p (some 3) (List.map enc_api_Attr out)))], nx := 1 }) (by kernel_rfl) (Sub.refl _) ?_
      refine x_exit ?_
      refine x_te ?_
      refine x_te ?_
      replace h := done_leaf h hx15
      refine x_bh ?_
      refine x_tn ?_
      refine x_rg (RegTo.mk [(.n, .e), (.n, .e), (.n, .e), (.n, .e)] ({ tm := [(2, .osl 0 0 (List.map enc_api_Attr out).length), (3, .pv (.int .i64 0)), (4, .pv (.int .i64 0))], hp := [(0, some (.p (some 3) (List.map enc_api_Attr out)))], nx := 1 }) [] (by kernel_rfl) .nil (Sub.refl _)) ?_
      refine x_toret ?_
      obtain rfl := Option.some.inj h
      exact x_ret (.tup [.usl (some 3) (List.take (List.map enc_api_Attr out).length (List.map enc_api_Attr out)), .int .i64 0, .int .i64 0]) [0] [(List.map enc_api_Attr out).length ≤ List.length (List.map enc_api_Attr out)] (by kernel_rfl) (.cons (Nat.le_refl _) .nil) (by decide) (.tup (.cons (.of_eq (by rw [List.take_length])) (.cons (.refl _) (.cons (.refl _) .nil)))) (fun _ => tup_ns (.cons (usl_ns (sh := (some 3)) (fun _ => rfl)) (.cons rfl (.cons rfl .nil))))

theorem c13 {l : (List api_Attr)} {r : Int} (h : attr_Check l = some r) : CallOK Tryd.prog 13 [.sl (some 3) (List.map enc_api_Attr l)] (.int .i64 r) true := by
  apply ok13
  unfold attr_Check at h
  refine x_rg (RegTo.mk [(.n, .e)] ({ tm := [(0, .pv (.sl (some 3) (List.map enc_api_Attr l)))], hp := [], nx := 0 }) [] (by kernel_rfl) .nil (Sub.refl _)) ?_
  refine x_seq ?_
  refine x_rg (RegTo.mk [(.n, .e), (.n, (.len (List.length l : Int))), (.n, .e)] ({ tm := [(0, .pv (.sl (some 3) (List.map enc_api_Attr l))), (6, .pv (.sl (some 3) (List.map enc_api_Attr l))), (7, .pv (.int .i64 (List.length l : Int))), (8, .pv (.int .i64 0))], hp := [], nx := 0 }) [((List.length (List.map enc_api_Attr l) : Int) = (List.length l : Int))] (by kernel_rfl) (.cons (by rw [List.length_map]) .nil) (Sub.refl _)) ?_
  refine x_block ?_
  refine x_kw ({ tm := [(0, .pv (.sl (some 3) (List.map enc_api_Attr l))), (6, .pv (.sl (some 3) (List.map enc_api_Attr l))), (7, .pv (.int .i64 (List.length l : Int))), (8, .pv (.int .i64 0))], hp := [], nx := 0 }) (by kernel_rfl) (Sub.refl _) ?_
  refine x_loop (σ := Int) h (fun s => { tm := [(0, .pv (.sl (some 3) (List.map enc_api_Attr l))), (6, .pv (.sl (some 3) (List.map enc_api_Attr l))), (7, .pv (.int .i64 (List.length l : Int))), (8, .pv (.int .i64 s))], hp := [], nx := 0 }) (by kernel_rfl) ?_ ?_
  · rintro v6
    kernel_rfl
  · rintro v6 x7 h hx7
    replace h : attr_Check_L7 l v6 = some x7 := h
    unfold attr_Check_L7 at h
    refine x_rg (RegTo.mk [(.n, .e)] ({ tm := [(0, .pv (.sl (some 3) (List.map enc_api_Attr l))), (6, .pv (.sl (some 3) (List.map enc_api_Attr l))), (7, .pv (.int .i64 (List.length l : Int))), (8, .pv (.int .i64 v6)), (9, .pv (.bool (decide (v6 < (List.length l : Int)))))], hp := [], nx := 0 }) [] (by kernel_rfl) .nil (Sub.refl _)) ?_
    refine x_seq ?_
    refine x_cond _ rfl (fun hc8 => ?_) (fun hc8 => ?_)
    · replace h := ite_t h hc8
      refine x_kw ({ tm := [(0, .pv (.sl (some 3) (List.map enc_api_Attr l))), (6, .pv (.sl (some 3) (List.map enc_api_Attr l))), (7, .pv (.int .i64 (List.length l : Int))), (8, .pv (.int .i64 v6))], hp := [], nx := 0 }) (by kernel_rfl) (Sub.refl _) ?_
      refine x_skip ?_
      refine x_tn ?_
      refine x_seq ?_
      refine x_block ?_
      obtain ⟨x9, hx9, h⟩ := bind_some h
      refine x_rg (RegTo.mk [(.n, .e), (.n, (.pAt (enc_api_Attr x9))), (.n, .e), (.n, .e), (.n, .e), (.n, .e)] ({ tm := [(0, .pv (.sl (some 3) (List.map enc_api_Attr l))), (3, .pv (.int .i64 v6)), (4, .optr 0 0 0), (6, .pv (.sl (some 3) (List.map enc_api_Attr l))), (7, .pv (.int .i64 (List.length l : Int))), (8, .pv (.int .i64 v6))], hp := [(0, some (.p (some 3) [enc_api_Attr x9]))], nx := 1 }) [(lsAt (List.map enc_api_Attr l) v6 = some (enc_api_Attr x9))] (by kernel_rfl) (.cons (lsAt_map hx9) .nil) (Sub.refl _)) ?_
      obtain ⟨x10, hx10, h⟩ := bind_some h
      obtain ⟨x11, hx11, h⟩ := bind_some h
      refine x_rg (RegTo.mk [(.n, .e), (.n, .e), (.n, (.cutP (List.map enc_api_Attr x10))), (.n, .e), (.n, (.call [] [.sl (some 3) (List.map enc_api_Attr x10), enc_api_Attr x9] (.int .i64 x11) true)), (.n, .e)] ({ tm := [(0, .pv (.sl (some 3) (List.map enc_api_Attr l))), (5, .pv (.int .i64 x11)), (6, .pv (.sl (some 3) (List.map enc_api_Attr l))), (7, .pv (.int .i64 (List.length l : Int))), (8, .pv (.int .i64 v6))], hp := [], nx := 0 }) [(cut (List.map enc_api_Attr l) 0 v6 = some (List.map enc_api_Attr x10)), (LesA [.sl (some 3) (List.map enc_api_Attr x10), enc_api_Attr x9] [.sl (some 3) (List.map enc_api_Attr x10), enc_api_Attr x9]), (CallOK Tryd.prog 30 [.sl (some 3) (List.map enc_api_Attr x10), enc_api_Attr x9] (.int .i64 x11) true)] (by kernel_rfl) (.cons (cut_map hx10) (.cons (LesA.rfl' _) (.cons (c30 hx11) .nil))) (Sub.refl _)) ?_
      refine x_rg (RegTo.mk [(.n, .e), (.n, .e)] ({ tm := [(0, .pv (.sl (some 3) (List.map enc_api_Attr l))), (5, .pv (.int .i64 x11)), (6, .pv (.sl (some 3) (List.map enc_api_Attr l))), (7, .pv (.int .i64 (List.length l : Int))), (8, .pv (.int .i64 v6)), (19, .pv (.bool (!decide (x11 = 0))))], hp := [], nx := 0 }) [] (by kernel_rfl) .nil (Sub.refl _)) ?_
      refine x_cond _ rfl (fun hc12 => ?_) (fun hc12 => ?_)
      · replace h := ite_t h hc12
        refine x_rg (RegTo.mk [(.n, .e), (.n, .e)] ({ tm := [(2, .pv (.int .i64 x11))], hp := [], nx := 0 }) [] (by kernel_rfl) .nil (Sub.refl _)) ?_
        refine x_toret ?_
        refine x_br ?_
        refine x_tr ?_
        refine x_tr ?_
        replace h := done_leaf h hx7
        refine x_br ?_
        refine x_tr ?_
        obtain rfl := Option.some.inj h
        exact x_ret (.int .i64 x11) [] [] (by kernel_rfl) .nil (by decide) (.refl _) (fun _ => rfl)
      · replace h := ite_f h hc12
        refine x_kw ({ tm := [(0, .pv (.sl (some 3) (List.map enc_api_Attr l))), (6, .pv (.sl (some 3) (List.map enc_api_Attr l))), (7, .pv (.int .i64 (List.length l : Int))), (8, .pv (.int .i64 v6))], hp := [], nx := 0 }) (by kernel_rfl) (Sub.refl _) ?_
        refine x_skip ?_
        refine x_bn ?_
        refine x_tn ?_
        refine x_rgt (RegTo.mk [(.n, .e), (.n, .e)] ({ tm := [(0, .pv (.sl (some 3) (List.map enc_api_Attr l))), (6, .pv (.sl (some 3) (List.map enc_api_Attr l))), (7, .pv (.int .i64 (List.length l : Int))), (8, .pv (.int .i64 (IntKind.wrap .i64 (v6 + 1))))], hp := [], nx := 0 }) [] (by kernel_rfl) .nil (Sub.refl _)) ?_
        refine x_tn ?_
        exact ⟨_, (Option.some.inj h).symm, by kernel_rfl⟩
    · replace h := ite_f h hc8
      refine x_kw ({ tm := [], hp := [], nx := 0 }) (by kernel_rfl) (Sub.refl _) ?_
      refine x_exit ?_
      refine x_te ?_
      refine x_te ?_
      replace h := done_leaf h hx7
      refine x_bh ?_
      refine x_tn ?_
      refine x_rg (RegTo.mk [(.n, .e)] ({ tm := [(2, .pv (.int .i64 0))], hp := [], nx := 0 }) [] (by kernel_rfl) .nil (Sub.refl _)) ?_
      refine x_toret ?_
      obtain rfl := Option.some.inj h
      exact x_ret (.int .i64 0) [] [] (by kernel_rfl) .nil (by decide) (.refl _) (fun _ => rfl)

theorem c52 {a0 : Str} {a1 : Str} {a2 : Str} {r : Str} (h : strings_ReplaceAll a0 a1 a2 = some r) : CallOK Tryd.prog 52 [.str a0, .str a1, .str a2] (.str r) true :=
  ok_replaceAll Tryd.func52 (by kernel_rfl) (by kernel_rfl) (g := 0) (by kernel_rfl) Tryd.strings_ReplaceAll h

theorem c32 {s_ : Str} {r : Str} (h : attr_quote s_ = some r) : CallOK Tryd.prog 32 [.str s_] (.str r) true := by
  apply ok32
  unfold attr_quote at h
  refine x_rg (RegTo.mk [(.n, .e)] ({ tm := [(0, .pv (.str s_))], hp := [], nx := 0 }) [] (by kernel_rfl) .nil (Sub.refl _)) ?_
  refine x_seq ?_
  obtain ⟨t3, ht, h⟩ := bind_some h
  refine x_rg (st2 := { tm := [(0, .pv (.str s_)), (11, .pv (.bool t3))], hp := [], nx := 0 }) ?_ ?_
  · rcases Bool.eq_false_or_eq_true (!decide (s_ = [])) with hg1 | hg1
    · replace ht := ite_t ht hg1
      obtain ⟨x2, hx2, ht⟩ := bind_some ht
      have e := Option.some.inj ht
      subst e
      exact RegTo.mk [(.n, .e), (.n, .e), (.n, .e), (.y, .e), (.y, (.call [] [.str s_, .str [32, 9, 39]] (.int .i64 x2) true)), (.y, .e), (.y, .e), (.y, .e), (.n, (.pk true))] ({ tm := [(0, .pv (.str s_)), (11, .pv (.bool (decide (x2 = (List.length s_ : Int)))))], hp := [], nx := 0 }) [((!decide (s_ = [])) = true), ((!decide (s_ = [])) = true), (LesA [.str s_, .str [32, 9, 39]] [.str s_, .str [32, 9, 39]]), (CallOK Tryd.prog 47 [.str s_, .str [32, 9, 39]] (.int .i64 x2) true), ((!decide (s_ = [])) = true), ((!decide (s_ = [])) = true), ((!decide (s_ = [])) = true), ((!decide (s_ = [])) = true)] (by kernel_rfl) (.cons hg1 (.cons hg1 (.cons (LesA.rfl' _) (.cons (c47 hx2) (.cons hg1 (.cons hg1 (.cons hg1 (.cons hg1 .nil)))))))) (Sub.refl _)
    · replace ht := ite_f ht hg1
      have e := Option.some.inj ht
      subst e
      exact RegTo.mk [(.n, .e), (.n, .e), (.n, .e), (.s, .e), (.s, .e), (.s, .e), (.s, .e), (.s, .e), (.n, (.pk false))] ({ tm := [(0, .pv (.str s_)), (11, .pv (.bool false))], hp := [], nx := 0 }) [((!decide (s_ = [])) = false), ((!decide (s_ = [])) = false), ((!decide (s_ = [])) = false), ((!decide (s_ = [])) = false), ((!decide (s_ = [])) = false), ((!decide (s_ = [])) = false)] (by kernel_rfl) (.cons hg1 (.cons hg1 (.cons hg1 (.cons hg1 (.cons hg1 (.cons hg1 .nil)))))) (Sub.refl _)
  · clear ht
    refine x_cond _ rfl (fun hc4 => ?_) (fun hc4 => ?_)
    · replace h := ite_t h hc4
      refine x_rg (RegTo.mk [(.n, .e), (.n, .e)] ({ tm := [(2, .pv (.str s_))], hp := [], nx := 0 }) [] (by kernel_rfl) .nil (Sub.refl _)) ?_
      refine x_toret ?_
      refine x_tr ?_
      obtain rfl := Option.some.inj h
      exact x_ret (.str s_) [] [] (by kernel_rfl) .nil (by decide) (.refl _) (fun _ => rfl)
    · replace h := ite_f h hc4
      refine x_kw ({ tm := [(0, .pv (.str s_))], hp := [], nx := 0 }) (by kernel_rfl) (Sub.refl _) ?_
      refine x_skip ?_
      refine x_tn ?_
      obtain ⟨x5, hx5, h⟩ := bind_some h
      obtain ⟨x6, hx6, h⟩ := bind_some h
      obtain ⟨x7, hx7, h⟩ := bind_some h
      refine x_rg (RegTo.mk [(.n, .e), (.n, (.call [] [.str s_, .str [39], .str [39, 39]] (.str x5) true)), (.n, (.cat x6)), (.n, (.cat x7)), (.n, .e)] ({ tm := [(2, .pv (.str x7))], hp := [], nx := 0 }) [(LesA [.str s_, .str [39], .str [39, 39]] [.str s_, .str [39], .str [39, 39]]), (CallOK Tryd.prog 52 [.str s_, .str [39], .str [39, 39]] (.str x5) true), (catS [39] x5 = some x6), (catS x6 [39] = some x7)] (by kernel_rfl) (.cons (LesA.rfl' _) (.cons (c52 hx5) (.cons hx6 (.cons hx7 .nil)))) (Sub.refl _)) ?_
      refine x_toret ?_
      obtain rfl := Option.some.inj h
      exact x_ret (.str x7) [] [] (by kernel_rfl) .nil (by decide) (.refl _) (fun _ => rfl)

theorem c33 {a0 : (List Str)} {a1 : Str} {r : Str} (h : strings_Join a0 a1 = some r) : CallOK Tryd.prog 33 [.sl none (List.map PV.str a0), .str a1] (.str r) true :=
  ok_join Tryd.func33 (by kernel_rfl) (by kernel_rfl) Tryd.strings_Join_none Tryd.strings_Join h

theorem c15 {l : (List api_Attr)} {r : (Str × Int)} (h : attr_Print l = some r) : CallOK Tryd.prog 15 [.sl (some 3) (List.map enc_api_Attr l)] (.tup [.str r.1, .int .i64 r.2]) true := by
  apply ok15
  unfold attr_Print at h
  refine x_rg (RegTo.mk [(.n, .e), (.n, .e)] ({ tm := [(0, .pv (.sl (some 3) (List.map enc_api_Attr l)))], hp := [], nx := 0 }) [] (by kernel_rfl) .nil (Sub.refl _)) ?_
  refine x_seq ?_
  obtain ⟨x1, hx1, h⟩ := bind_some h
  refine x_rg (RegTo.mk [(.n, .e), (.n, (.call [] [.sl (some 3) (List.map enc_api_Attr l)] (.int .i64 x1) true)), (.n, .e)] ({ tm := [(0, .pv (.sl (some 3) (List.map enc_api_Attr l))), (4, .pv (.int .i64 x1))], hp := [], nx := 0 }) [(LesA [.sl (some 3) (List.map enc_api_Attr l)] [.sl (some 3) (List.map enc_api_Attr l)]), (CallOK Tryd.prog 13 [.sl (some 3) (List.map enc_api_Attr l)] (.int .i64 x1) true)] (by kernel_rfl) (.cons (LesA.rfl' _) (.cons (c13 hx1) .nil)) (Sub.refl _)) ?_
  refine x_rg (RegTo.mk [(.n, .e), (.n, .e)] ({ tm := [(0, .pv (.sl (some 3) (List.map enc_api_Attr l))), (4, .pv (.int .i64 x1)), (11, .pv (.bool (!decide (x1 = 0))))], hp := [], nx := 0 }) [] (by kernel_rfl) .nil (Sub.refl _)) ?_
  refine x_cond _ rfl (fun hc2 => ?_) (fun hc2 => ?_)
  · replace h := ite_t h hc2
    refine x_rg (RegTo.mk [(.n, .e), (.n, .e), (.n, .e)] ({ tm := [(2, .pv (.str [])), (3, .pv (.int .i64 x1))], hp := [], nx := 0 }) [] (by kernel_rfl) .nil (Sub.refl _)) ?_
    refine x_toret ?_
    refine x_tr ?_
    obtain rfl := Option.some.inj h
    exact x_ret (.tup [.str [], .int .i64 x1]) [] [] (by kernel_rfl) .nil (by decide) (.tup (.cons (.refl _) (.cons (.refl _) .nil))) (fun _ => rfl)
  · replace h := ite_f h hc2
    refine x_kw ({ tm := [(0, .pv (.sl (some 3) (List.map enc_api_Attr l)))], hp := [], nx := 0 }) (by kernel_rfl) (Sub.refl _) ?_
    refine x_skip ?_
    refine x_tn ?_
    obtain ⟨x3, hx3, h⟩ := bind_some h
    refine x_rg (RegTo.mk [(.n, .e), (.n, (.len (List.length l : Int))), (.n, (.mk (List.map PV.str x3))), (.n, .e)] ({ tm := [(0, .pv (.sl (some 3) (List.map enc_api_Attr l))), (5, .osl 0 0 (List.map PV.str x3).length)], hp := [(0, some (.p none (List.map PV.str x3)))], nx := 1 }) [((List.length (List.map enc_api_Attr l) : Int) = (List.length l : Int)), (mkC 16 (.str []) 0 (List.length l : Int) = some (List.map PV.str x3))] (by kernel_rfl) (.cons (by rw [List.length_map]) (.cons (mkC_map hx3) .nil)) (Sub.refl _)) ?_
    refine x_seq ?_
    refine x_rg (RegTo.mk [(.n, .e), (.n, (.len (List.length l : Int))), (.n, .e)] ({ tm := [(5, .osl 0 0 (List.map PV.str x3).length), (16, .pv (.sl (some 3) (List.map enc_api_Attr l))), (17, .pv (.int .i64 (List.length l : Int))), (18, .pv (.int .i64 0))], hp := [(0, some (.p none (List.map PV.str x3)))], nx := 1 }) [((List.length (List.map enc_api_Attr l) : Int) = (List.length l : Int))] (by kernel_rfl) (.cons (by rw [List.length_map]) .nil) (Sub.refl _)) ?_
    refine x_block ?_
    refine x_kw ({ tm := [(5, .osl 0 0 (List.map PV.str x3).length), (16, .pv (.sl (some 3) (List.map enc_api_Attr l))), (17, .pv (.int .i64 (List.length l : Int))), (18, .pv (.int .i64 0))], hp := [(0, some (.p none (List.map PV.str x3)))], nx := 1 }) (by kernel_rfl) (Sub.refl _) ?_
    refine x_loop (σ := (Int × (List Str))) h (fun s => { tm := [(5, .osl 0 0 (List.map PV.str s.2).length), (16, .pv (.sl (some 3) (List.map enc_api_Attr l))), (17, .pv (.int .i64 (List.length l : Int))), (18, .pv (.int .i64 s.1))], hp := [(0, some (.p none (List.map PV.str s.2)))], nx := 1 }) (by kernel_rfl) ?_ ?_
    · rintro ⟨v13, words⟩
      kernel_rfl
    · rintro ⟨v13, words⟩ x15 h hx15
      replace h : attr_Print_L15 l v13 words = some x15 := h
      unfold attr_Print_L15 at h
      refine x_rg (RegTo.mk [(.n, .e)] ({ tm := [(5, .osl 0 0 (List.map PV.str words).length), (16, .pv (.sl (some 3) (List.map enc_api_Attr l))), (17, .pv (.int .i64 (List.length l : Int))), (18, .pv (.int .i64 v13)), (19, .pv (.bool (decide (v13 < (List.length l : Int)))))], hp := [(0, some (.p none (List.map PV.str words)))], nx := 1 }) [] (by kernel_rfl) .nil (Sub.refl _)) ?_
      refine x_seq ?_
      refine x_cond _ rfl (fun hc16 => ?_) (fun hc16 => ?_)
      · replace h := ite_t h hc16
        refine x_kw ({ tm := [(5, .osl 0 0 (List.map PV.str words).length), (16, .pv (.sl (some 3) (List.map enc_api_Attr l))), (17, .pv (.int .i64 (List.length l : Int))), (18, .pv (.int .i64 v13))], hp := [(0, some (.p none (List.map PV.str words)))], nx := 1 }) (by kernel_rfl) (Sub.refl _) ?_
        refine x_skip ?_
        refine x_tn ?_
        refine x_seq ?_
        refine x_block ?_
        obtain ⟨x17, hx17, h⟩ := bind_some h
        refine x_rg (RegTo.mk [(.n, (.pAt (enc_api_Attr x17))), (.n, .e), (.n, .e), (.n, .e)] ({ tm := [(5, .osl 0 0 (List.map PV.str words).length), (7, .optr 1 0 0), (16, .pv (.sl (some 3) (List.map enc_api_Attr l))), (17, .pv (.int .i64 (List.length l : Int))), (18, .pv (.int .i64 v13))], hp := [(0, some (.p none (List.map PV.str words))), (1, some (.p (some 3) [enc_api_Attr x17]))], nx := 2 }) [(lsAt (List.map enc_api_Attr l) v13 = some (enc_api_Attr x17))] (by kernel_rfl) (.cons (lsAt_map hx17) .nil) (Sub.refl _)) ?_
        refine x_rg (RegTo.mk [(.n, .e), (.n, .e)] ({ tm := [(5, .osl 0 0 (List.map PV.str words).length), (7, .optr 1 0 0), (16, .pv (.sl (some 3) (List.map enc_api_Attr l))), (17, .pv (.int .i64 (List.length l : Int))), (18, .pv (.int .i64 v13)), (23, .pv (.bool x17.Query))], hp := [(0, some (.p none (List.map PV.str words))), (1, some (.p (some 3) [enc_api_Attr x17]))], nx := 2 }) [] (by kernel_rfl) .nil (Sub.refl _)) ?_
        refine x_cond _ rfl (fun hc18 => ?_) (fun hc18 => ?_)
        · replace h := ite_t h hc18
          obtain ⟨x19, hx19, h⟩ := bind_some h
          obtain ⟨x20, hx20, h⟩ := bind_some h
          refine x_rgt (RegTo.mk [(.n, .e), (.n, .e), (.n, .e), (.n, (.cat x19)), (.n, .e), (.n, (.app (List.map PV.str x20))), (.n, .e)] ({ tm := [(5, .osl 0 0 (List.map PV.str x20).length), (16, .pv (.sl (some 3) (List.map enc_api_Attr l))), (17, .pv (.int .i64 (List.length l : Int))), (18, .pv (.int .i64 v13))], hp := [(0, some (.p none (List.map PV.str x20)))], nx := 1 }) [(catS x17.Name [63] = some x19), (List.take (List.map PV.str words).length (List.map PV.str words) ++ List.take 1 (List.drop 0 ([.str x19] : List PV)) = (List.map PV.str x20)), (List.length (List.map PV.str x20) * 16 ≤ 140737488355328), (List.length (List.map PV.str x20) ≤ 9223372036854775807), ((List.map PV.str words).length ≤ List.length (List.map PV.str words)), (0 + 1 ≤ List.length ([.str x19] : List PV))] (by kernel_rfl) (.cons hx19 (.cons (app_ob hx20 (.all _) (.rfl _)) (.cons (by rw [List.length_map]; exact (appL_ok hx20).2.1) (.cons (by rw [List.length_map]; exact (appL_ok hx20).2.2) (.cons (Nat.le_refl _) (.cons (by simp) .nil)))))) (Sub.refl _)) ?_
          refine x_bn ?_
          refine x_tn ?_
          refine x_rgt (RegTo.mk [(.n, .e), (.n, .e)] ({ tm := [(5, .osl 0 0 (List.map PV.str x20).length), (16, .pv (.sl (some 3) (List.map enc_api_Attr l))), (17, .pv (.int .i64 (List.length l : Int))), (18, .pv (.int .i64 (IntKind.wrap .i64 (v13 + 1))))], hp := [(0, some (.p none (List.map PV.str x20)))], nx := 1 }) [] (by kernel_rfl) .nil (Sub.refl _)) ?_
          refine x_tn ?_
          exact ⟨_, (Option.some.inj h).symm, by kernel_rfl⟩
        · replace h := ite_f h hc18
          obtain ⟨x21, hx21, h⟩ := bind_some h
          obtain ⟨x22, hx22, h⟩ := bind_some h
          obtain ⟨x23, hx23, h⟩ := bind_some h
          obtain ⟨x24, hx24, h⟩ := bind_some h
          refine x_rgt (RegTo.mk [(.n, .e), (.n, .e), (.n, .e), (.n, (.cat x21)), (.n, .e), (.n, .e), (.n, (.call [] [.str x17.Value] (.str x22) true)), (.n, (.cat x23)), (.n, .e), (.n, (.app (List.map PV.str x24))), (.n, .e)] ({ tm := [(5, .osl 0 0 (List.map PV.str x24).length), (16, .pv (.sl (some 3) (List.map enc_api_Attr l))), (17, .pv (.int .i64 (List.length l : Int))), (18, .pv (.int .i64 v13))], hp := [(0, some (.p none (List.map PV.str x24)))], nx := 1 }) [(catS x17.Name [61] = some x21), (LesA [.str x17.Value] [.str x17.Value]), (CallOK Tryd.prog 32 [.str x17.Value] (.str x22) true), (catS x21 x22 = some x23), (List.take (List.map PV.str words).length (List.map PV.str words) ++ List.take 1 (List.drop 0 ([.str x23] : List PV)) = (List.map PV.str x24)), (List.length (List.map PV.str x24) * 16 ≤ 140737488355328), (List.length (List.map PV.str x24) ≤ 9223372036854775807), ((List.map PV.str words).length ≤ List.length (List.map PV.str words)), (0 + 1 ≤ List.length ([.str x23] : List PV))] (by kernel_rfl) (.cons hx21 (.cons (LesA.rfl' _) (.cons (c32 hx22) (.cons hx23 (.cons (app_ob hx24 (.all _) (.rfl _)) (.cons (by rw [List.length_map]; exact (appL_ok hx24).2.1) (.cons (by rw [List.length_map]; exact (appL_ok hx24).2.2) (.cons (Nat.le_refl _) (.cons (by simp) .nil))))))))) (Sub.refl _)) ?_
          refine x_bn ?_
          refine x_tn ?_
          refine x_rgt (RegTo.mk [(.n, .e), (.n, .e)] ({ tm := [(5, .osl 0 0 (List.map PV.str x24).length), (16, .pv (.sl (some 3) (List.map enc_api_Attr l))), (17, .pv (.int .i64 (List.length l : Int))), (18, .pv (.int .i64 (IntKind.wrap .i64 (v13 + 1))))], hp := [(0, some (.p none (List.map PV.str x24)))], nx := 1 }) [] (by kernel_rfl) .nil (Sub.refl _)) ?_
          refine x_tn ?_
          exact ⟨_, (Option.some.inj h).symm, by kernel_rfl⟩
      · replace h := ite_f h hc16
        refine x_kw ({ tm := [(5, .osl 0 0 (List.map PV.str words).length)], hp := [(0, some (.p none (List.map PV.str words)))], nx := 1 }) (by kernel_rfl) (Sub.refl _) ?_
        refine x_exit ?_
        refine x_te ?_
        refine x_te ?_
        replace h := done_map h hx15
        unfold attr_Print_A26 at h
        refine x_bh ?_
        refine x_tn ?_
        obtain ⟨x25, hx25, h⟩ := bind_some h
        refine x_rg (RegTo.mk [(.n, .e), (.n, (.call [] [.sl none (List.map PV.str words), .str [32]] (.str x25) true)), (.n, .e), (.n, .e)] ({ tm := [(2, .pv (.str x25)), (3, .pv (.int .i64 0))], hp := [], nx := 0 }) [(LesA [.sl none (List.take (List.map PV.str words).length (List.drop 0 (List.map PV.str words))), .str [32]] [.sl none (List.map PV.str words), .str [32]]), (CallOK Tryd.prog 33 [.sl none (List.map PV.str words), .str [32]] (.str x25) true), (0 + (List.map PV.str words).length ≤ List.length (List.map PV.str words))] (by kernel_rfl) (.cons (.cons (.of_eq (by rw [List.drop_zero, List.take_length])) (.cons (.refl _) .nil)) (.cons (c33 hx25) (.cons (by simp) .nil))) (Sub.refl _)) ?_
        refine x_toret ?_
        obtain rfl := Option.some.inj h
        exact x_ret (.tup [.str x25, .int .i64 0]) [] [] (by kernel_rfl) .nil (by decide) (.tup (.cons (.refl _) (.cons (.refl _) .nil))) (fun _ => rfl)

theorem c62 {a : api_Attr} {a1 : Str} {r : Bool} (h : attr_index_1 a a1 = some r) : CallOK Tryd.prog 62 [enc_api_Attr a, .rptr none (.str a1) 0] (.bool r) true := by
  apply ok62
  unfold attr_index_1 at h
  refine x_rg (RegTo.mk [(.n, .e), (.n, .e)] ({ tm := [(1, .pv (.rptr none (.str a1) 0)), (2, .optr 0 0 0)], hp := [(0, some (.p (some 3) [enc_api_Attr a]))], nx := 1 }) [] (by kernel_rfl) .nil (Sub.refl _)) ?_
  refine x_rg (st2 := { tm := [(3, .pv (.bool ((!a.Query) && (decide (a.Name = a1)))))], hp := [], nx := 0 }) ?_ ?_
  · rcases Bool.eq_false_or_eq_true (!a.Query) with hg1 | hg1
    · exact RegTo.mk [(.n, .e), (.n, .e), (.n, .e), (.n, .e), (.y, .e), (.y, .e), (.y, .e), (.y, .e), (.n, (.pk true)), (.n, .e)] ({ tm := [(3, .pv (.bool (decide (a.Name = a1))))], hp := [], nx := 0 }) [((!a.Query) = true), ((!a.Query) = true), ((!a.Query) = true), ((!a.Query) = true), ((!a.Query) = true)] (by kernel_rfl) (.cons hg1 (.cons hg1 (.cons hg1 (.cons hg1 (.cons hg1 .nil))))) (.of_eq (by simp only [hg1, Bool.true_or, Bool.false_or, Bool.true_and, Bool.false_and, Bool.or_true, Bool.or_false, Bool.and_true, Bool.and_false, Bool.false_eq_true, if_true, if_false, reduceIte]))
    · exact RegTo.mk [(.n, .e), (.n, .e), (.n, .e), (.n, .e), (.s, .e), (.s, .e), (.s, .e), (.s, .e), (.n, (.pk false)), (.n, .e)] ({ tm := [(3, .pv (.bool false))], hp := [], nx := 0 }) [((!a.Query) = false), ((!a.Query) = false), ((!a.Query) = false), ((!a.Query) = false), ((!a.Query) = false)] (by kernel_rfl) (.cons hg1 (.cons hg1 (.cons hg1 (.cons hg1 (.cons hg1 .nil))))) (.of_eq (by simp only [hg1, Bool.true_or, Bool.false_or, Bool.true_and, Bool.false_and, Bool.or_true, Bool.or_false, Bool.and_true, Bool.and_false, Bool.false_eq_true, if_true, if_false, reduceIte]))
  · refine x_toret ?_
    obtain rfl := Option.some.inj h
    exact x_ret (.bool ((!a.Query) && (decide (a.Name = a1)))) [] [] (by kernel_rfl) .nil (by decide) (.refl _) (fun _ => rfl)

theorem c60_f62 {s_ : (List api_Attr)} {f : Str} {r : Int} (h : slices_IndexFunc_api_Attr_api_Attr_f62 s_ f = some r) : CallOK Tryd.prog 60 [.sl (some 3) (List.map enc_api_Attr s_), .fn 62 [.rptr none (.str f) 0]] (.int .i64 r) true := by
  apply ok60
  unfold slices_IndexFunc_api_Attr_api_Attr_f62 at h
  refine x_rg (RegTo.mk [(.n, .e)] ({ tm := [(0, .pv (.sl (some 3) (List.map enc_api_Attr s_))), (1, .pv (.fn 62 [.rptr none (.str f) 0]))], hp := [], nx := 0 }) [] (by kernel_rfl) .nil (Sub.refl _)) ?_
  refine x_seq ?_
  refine x_rg (RegTo.mk [(.n, .e), (.n, (.len (List.length s_ : Int))), (.n, .e)] ({ tm := [(0, .pv (.sl (some 3) (List.map enc_api_Attr s_))), (1, .pv (.fn 62 [.rptr none (.str f) 0])), (7, .pv (.int .i64 (List.length s_ : Int))), (8, .pv (.int .i64 0))], hp := [], nx := 0 }) [((List.length (List.map enc_api_Attr s_) : Int) = (List.length s_ : Int))] (by kernel_rfl) (.cons (by rw [List.length_map]) .nil) (Sub.refl _)) ?_
  refine x_block ?_
  refine x_kw ({ tm := [(0, .pv (.sl (some 3) (List.map enc_api_Attr s_))), (1, .pv (.fn 62 [.rptr none (.str f) 0])), (7, .pv (.int .i64 (List.length s_ : Int))), (8, .pv (.int .i64 0))], hp := [], nx := 0 }) (by kernel_rfl) (Sub.refl _) ?_
  refine x_loop (σ := Int) h (fun s => { tm := [(0, .pv (.sl (some 3) (List.map enc_api_Attr s_))), (1, .pv (.fn 62 [.rptr none (.str f) 0])), (7, .pv (.int .i64 (List.length s_ : Int))), (8, .pv (.int .i64 s))], hp := [], nx := 0 }) (by kernel_rfl) ?_ ?_
  · rintro v5
    kernel_rfl
  · rintro v5 x6 h hx6
    replace h : slices_IndexFunc_api_Attr_api_Attr_f62_L6 s_ f v5 = some x6 := h
    unfold slices_IndexFunc_api_Attr_api_Attr_f62_L6 at h
    refine x_rg (RegTo.mk [(.n, .e)] ({ tm := [(0, .pv (.sl (some 3) (List.map enc_api_Attr s_))), (1, .pv (.fn 62 [.rptr none (.str f) 0])), (7, .pv (.int .i64 (List.length s_ : Int))), (8, .pv (.int .i64 v5)), (9, .pv (.bool (decide (v5 < (List.length s_ : Int)))))], hp := [], nx := 0 }) [] (by kernel_rfl) .nil (Sub.refl _)) ?_
    refine x_seq ?_
    refine x_cond _ rfl (fun hc7 => ?_) (fun hc7 => ?_)
    · replace h := ite_t h hc7
      refine x_kw ({ tm := [(0, .pv (.sl (some 3) (List.map enc_api_Attr s_))), (1, .pv (.fn 62 [.rptr none (.str f) 0])), (7, .pv (.int .i64 (List.length s_ : Int))), (8, .pv (.int .i64 v5))], hp := [], nx := 0 }) (by kernel_rfl) (Sub.refl _) ?_
      refine x_skip ?_
      refine x_tn ?_
      refine x_seq ?_
      refine x_block ?_
      refine x_rg (RegTo.mk [(.n, .e), (.n, .e)] ({ tm := [(0, .pv (.sl (some 3) (List.map enc_api_Attr s_))), (1, .pv (.fn 62 [.rptr none (.str f) 0])), (5, .pv (.int .i64 v5)), (7, .pv (.int .i64 (List.length s_ : Int))), (8, .pv (.int .i64 v5))], hp := [], nx := 0 }) [] (by kernel_rfl) .nil (Sub.refl _)) ?_
      obtain ⟨x8, hx8, h⟩ := bind_some h
      obtain ⟨x9, hx9, h⟩ := bind_some h
      refine x_rg (RegTo.mk [(.n, .e), (.n, .e), (.n, .e), (.n, (.pAt (enc_api_Attr x8))), (.n, .e), (.n, (.call [] [enc_api_Attr x8, .rptr none (.str f) 0] (.bool x9) true))] ({ tm := [(0, .pv (.sl (some 3) (List.map enc_api_Attr s_))), (1, .pv (.fn 62 [.rptr none (.str f) 0])), (5, .pv (.int .i64 v5)), (7, .pv (.int .i64 (List.length s_ : Int))), (8, .pv (.int .i64 v5)), (16, .pv (.bool x9))], hp := [], nx := 0 }) [(lsAt (List.map enc_api_Attr s_) v5 = some (enc_api_Attr x8)), (LesA [enc_api_Attr x8, .rptr none (.str f) 0] [enc_api_Attr x8, .rptr none (.str f) 0]), (CallOK Tryd.prog 62 [enc_api_Attr x8, .rptr none (.str f) 0] (.bool x9) true)] (by kernel_rfl) (.cons (lsAt_map hx8) (.cons (LesA.rfl' _) (.cons (c62 hx9) .nil))) (Sub.refl _)) ?_
      refine x_cond _ rfl (fun hc10 => ?_) (fun hc10 => ?_)
      · replace h := ite_t h hc10
        refine x_rg (RegTo.mk [(.n, .e), (.n, .e)] ({ tm := [(4, .pv (.int .i64 v5))], hp := [], nx := 0 }) [] (by kernel_rfl) .nil (Sub.refl _)) ?_
        refine x_toret ?_
        refine x_br ?_
        refine x_tr ?_
        refine x_tr ?_
        replace h := done_leaf h hx6
        refine x_br ?_
        refine x_tr ?_
        obtain rfl := Option.some.inj h
        exact x_ret (.int .i64 v5) [] [] (by kernel_rfl) .nil (by decide) (.refl _) (fun _ => rfl)
      · replace h := ite_f h hc10
        refine x_kw ({ tm := [(0, .pv (.sl (some 3) (List.map enc_api_Attr s_))), (1, .pv (.fn 62 [.rptr none (.str f) 0])), (7, .pv (.int .i64 (List.length s_ : Int))), (8, .pv (.int .i64 v5))], hp := [], nx := 0 }) (by kernel_rfl) (Sub.refl _) ?_
        refine x_skip ?_
        refine x_bn ?_
        refine x_tn ?_
        refine x_rgt (RegTo.mk [(.n, .e), (.n, .e)] ({ tm := [(0, .pv (.sl (some 3) (List.map enc_api_Attr s_))), (1, .pv (.fn 62 [.rptr none (.str f) 0])), (7, .pv (.int .i64 (List.length s_ : Int))), (8, .pv (.int .i64 (IntKind.wrap .i64 (v5 + 1))))], hp := [], nx := 0 }) [] (by kernel_rfl) .nil (Sub.refl _)) ?_
        refine x_tn ?_
        exact ⟨_, (Option.some.inj h).symm, by kernel_rfl⟩
    · replace h := ite_f h hc7
      refine x_kw ({ tm := [], hp := [], nx := 0 }) (by kernel_rfl) (Sub.refl _) ?_
      refine x_exit ?_
      refine x_te ?_
      refine x_te ?_
      replace h := done_leaf h hx6
      refine x_bh ?_
      refine x_tn ?_
      refine x_rg (RegTo.mk [(.n, .e)] ({ tm := [(4, .pv (.int .i64 (-1)))], hp := [], nx := 0 }) [] (by kernel_rfl) .nil (Sub.refl _)) ?_
      refine x_toret ?_
      obtain rfl := Option.some.inj h
      exact x_ret (.int .i64 (-1)) [] [] (by kernel_rfl) .nil (by decide) (.refl _) (fun _ => rfl)

theorem c44 {l : (List api_Attr)} {name : Str} {r : Int} (h : attr_index l name = some r) : CallOK Tryd.prog 44 [.sl (some 3) (List.map enc_api_Attr l), .str name] (.int .i64 r) true := by
  apply ok44
  unfold attr_index at h
  refine x_rg (RegTo.mk [(.n, .e), (.n, .e)] ({ tm := [(0, .pv (.sl (some 3) (List.map enc_api_Attr l))), (3, .optr 0 0 0)], hp := [(0, some (.p none [.str name]))], nx := 1 }) [] (by kernel_rfl) .nil (Sub.refl _)) ?_
  obtain ⟨x1, hx1, h⟩ := bind_some h
  refine x_rg (RegTo.mk [(.n, .e), (.n, .e), (.n, (.call [] [.sl (some 3) (List.map enc_api_Attr l), .fn 62 [.rptr none (.str name) 0]] (.int .i64 x1) true)), (.n, .e)] ({ tm := [(4, .pv (.int .i64 x1))], hp := [], nx := 0 }) [(LesA [.sl (some 3) (List.map enc_api_Attr l), .fn 62 [.rptr none (.str name) 0]] [.sl (some 3) (List.map enc_api_Attr l), .fn 62 [.rptr none (.str name) 0]]), (CallOK Tryd.prog 60 [.sl (some 3) (List.map enc_api_Attr l), .fn 62 [.rptr none (.str name) 0]] (.int .i64 x1) true)] (by kernel_rfl) (.cons (LesA.rfl' _) (.cons (c60_f62 hx1) .nil)) (Sub.refl _)) ?_
  refine x_toret ?_
  obtain rfl := Option.some.inj h
  exact x_ret (.int .i64 x1) [] [] (by kernel_rfl) .nil (by decide) (.refl _) (fun _ => rfl)

theorem c24 {l : (List api_Attr)} {name : Str} {r : (Str × Bool)} (h : attr_Find l name = some r) : CallOK Tryd.prog 24 [.sl (some 3) (List.map enc_api_Attr l), .str name] (.tup [.str r.1, .bool r.2]) true := by
  apply ok24
  unfold attr_Find at h
  refine x_rg (RegTo.mk [(.n, .e), (.n, .e)] ({ tm := [(0, .pv (.sl (some 3) (List.map enc_api_Attr l))), (1, .pv (.str name))], hp := [], nx := 0 }) [] (by kernel_rfl) .nil (Sub.refl _)) ?_
  obtain ⟨x1, hx1, h⟩ := bind_some h
  refine x_rg (RegTo.mk [(.n, .e), (.n, .e), (.n, (.call [] [.sl (some 3) (List.map enc_api_Attr l), .str name] (.int .i64 x1) true)), (.n, .e)] ({ tm := [(0, .pv (.sl (some 3) (List.map enc_api_Attr l))), (6, .pv (.int .i64 x1))], hp := [], nx := 0 }) [(LesA [.sl (some 3) (List.map enc_api_Attr l), .str name] [.sl (some 3) (List.map enc_api_Attr l), .str name]), (CallOK Tryd.prog 44 [.sl (some 3) (List.map enc_api_Attr l), .str name] (.int .i64 x1) true)] (by kernel_rfl) (.cons (LesA.rfl' _) (.cons (c44 hx1) .nil)) (Sub.refl _)) ?_
  refine x_seq ?_
  refine x_rg (RegTo.mk [(.n, .e), (.n, .e)] ({ tm := [(0, .pv (.sl (some 3) (List.map enc_api_Attr l))), (6, .pv (.int .i64 x1)), (11, .pv (.bool (decide (x1 < 0))))], hp := [], nx := 0 }) [] (by kernel_rfl) .nil (Sub.refl _)) ?_
  refine x_cond _ rfl (fun hc2 => ?_) (fun hc2 => ?_)
  · replace h := ite_t h hc2
    refine x_rg (RegTo.mk [(.n, .e), (.n, .e)] ({ tm := [(4, .pv (.str [])), (5, .pv (.bool false))], hp := [], nx := 0 }) [] (by kernel_rfl) .nil (Sub.refl _)) ?_
    refine x_toret ?_
    refine x_tr ?_
    obtain rfl := Option.some.inj h
    exact x_ret (.tup [.str [], .bool false]) [] [] (by kernel_rfl) .nil (by decide) (.tup (.cons (.refl _) (.cons (.refl _) .nil))) (fun _ => rfl)
  · replace h := ite_f h hc2
    refine x_kw ({ tm := [(0, .pv (.sl (some 3) (List.map enc_api_Attr l))), (6, .pv (.int .i64 x1))], hp := [], nx := 0 }) (by kernel_rfl) (Sub.refl _) ?_
    refine x_skip ?_
    refine x_tn ?_
    obtain ⟨x3, hx3, h⟩ := bind_some h
    refine x_rg (RegTo.mk [(.n, .e), (.n, .e), (.n, (.pAt (enc_api_Attr x3))), (.n, .e), (.n, .e), (.n, .e), (.n, .e)] ({ tm := [(4, .pv (.str x3.Value)), (5, .pv (.bool true))], hp := [], nx := 0 }) [(lsAt (List.map enc_api_Attr l) x1 = some (enc_api_Attr x3))] (by kernel_rfl) (.cons (lsAt_map hx3) .nil) (Sub.refl _)) ?_
    refine x_toret ?_
    obtain rfl := Option.some.inj h
    exact x_ret (.tup [.str x3.Value, .bool true]) [] [] (by kernel_rfl) .nil (by decide) (.tup (.cons (.refl _) (.cons (.refl _) .nil))) (fun _ => rfl)

theorem c40_n {r : (List api_Attr)} (h : slices_Clone_api_Attr_api_Attr_n = some r) : CallOK Tryd.prog 40 [.nilsl] (.usl (some 3) (List.map enc_api_Attr r)) true := by
  apply ok40
  unfold slices_Clone_api_Attr_api_Attr_n at h
  refine x_rg (RegTo.mk [(.n, .e)] ({ tm := [(0, .pv (.nilsl))], hp := [], nx := 0 }) [] (by kernel_rfl) .nil (Sub.refl _)) ?_
  refine x_seq ?_
  refine x_rg (RegTo.mk [(.n, .e), (.n, .e)] ({ tm := [(0, .pv (.nilsl)), (4, .pv (.bool true))], hp := [], nx := 0 }) [] (by kernel_rfl) .nil (Sub.refl _)) ?_
  refine x_cond true rfl (fun _ => ?_) (fun hc => nomatch hc)
  refine x_rg (RegTo.mk [(.n, .e)] ({ tm := [(2, .pv (.nilsl))], hp := [], nx := 0 }) [] (by kernel_rfl) .nil (Sub.refl _)) ?_
  refine x_toret ?_
  refine x_tr ?_
  obtain rfl := Option.some.inj h
  exact x_ret (.nilsl) [] [] (by kernel_rfl) .nil (by decide) (.nilUsl _) (fun _ => (usl_ns (sh := (some 3)) (fun _ => rfl)))

theorem c40_e {r : (List api_Attr)} (h : slices_Clone_api_Attr_api_Attr_e = some r) : CallOK Tryd.prog 40 [.esl (some 3)] (.usl (some 3) (List.map enc_api_Attr r)) true := by
  apply ok40
  unfold slices_Clone_api_Attr_api_Attr_e at h
  refine x_rg (RegTo.mk [(.n, .e)] ({ tm := [(0, .pv (.esl (some 3)))], hp := [], nx := 0 }) [] (by kernel_rfl) .nil (Sub.refl _)) ?_
  refine x_seq ?_
  refine x_rg (RegTo.mk [(.n, .e), (.n, .e)] ({ tm := [(0, .pv (.esl (some 3))), (4, .pv (.bool false))], hp := [], nx := 0 }) [] (by kernel_rfl) .nil (Sub.refl _)) ?_
  refine x_cond false rfl (fun hc => nomatch hc) (fun _ => ?_)
  refine x_kw ({ tm := [(0, .pv (.esl (some 3)))], hp := [], nx := 0 }) (by kernel_rfl) (Sub.refl _) ?_
  refine x_skip ?_
  refine x_tn ?_
  obtain ⟨x1, hx1, h⟩ := bind_some h
  refine x_rg (RegTo.mk [(.n, .e), (.n, .e), (.n, (.app (List.map enc_api_Attr x1))), (.n, .e)] ({ tm := [(2, .osl 0 0 (List.map enc_api_Attr x1).length)], hp := [(0, some (.p (some 3) (List.map enc_api_Attr x1)))], nx := 1 }) [(List.take 0 ([] : List PV) ++ [] = (List.map enc_api_Attr x1)), (List.length (List.map enc_api_Attr x1) * 40 ≤ 140737488355328), (List.length (List.map enc_api_Attr x1) ≤ 9223372036854775807), (0 ≤ List.length ([] : List PV))] (by kernel_rfl) (.cons (app_ob hx1 (.rfl _) (.rfl _)) (.cons (by rw [List.length_map]; exact (appL_ok hx1).2.1) (.cons (by rw [List.length_map]; exact (appL_ok hx1).2.2) (.cons (Nat.le_refl _) .nil)))) (Sub.refl _)) ?_
  refine x_toret ?_
  obtain rfl := Option.some.inj h
  exact x_ret (.usl (some 3) (List.take (List.map enc_api_Attr x1).length (List.map enc_api_Attr x1))) [0] [(List.map enc_api_Attr x1).length ≤ List.length (List.map enc_api_Attr x1)] (by kernel_rfl) (.cons (Nat.le_refl _) .nil) (by decide) (.of_eq (by rw [List.take_length])) (fun _ => (usl_ns (sh := (some 3)) (fun _ => rfl)))

theorem c40_p {s_ : (List api_Attr)} (hne : s_ ≠ []) {r : (List api_Attr)} (h : slices_Clone_api_Attr_api_Attr s_ = some r) : CallOK Tryd.prog 40 [.sl (some 3) (List.map enc_api_Attr s_)] (.usl (some 3) (List.map enc_api_Attr r)) true := by
  apply ok40
  unfold slices_Clone_api_Attr_api_Attr at h
  refine x_rg (RegTo.mk [(.n, .e)] ({ tm := [(0, .pv (.sl (some 3) (List.map enc_api_Attr s_)))], hp := [], nx := 0 }) [] (by kernel_rfl) .nil (Sub.refl _)) ?_
  refine x_seq ?_
  refine x_rg (RegTo.mk [(.n, .e), (.n, .isn)] ({ tm := [(0, .pv (.sl (some 3) (List.map enc_api_Attr s_))), (4, .pv (.bool false))], hp := [], nx := 0 }) [(List.isEmpty (List.map enc_api_Attr s_) = false)] (by kernel_rfl) (.cons (isEmptyF hne) .nil) (Sub.refl _)) ?_
  refine x_cond false rfl (fun hc => nomatch hc) (fun _ => ?_)
  refine x_kw ({ tm := [(0, .pv (.sl (some 3) (List.map enc_api_Attr s_)))], hp := [], nx := 0 }) (by kernel_rfl) (Sub.refl _) ?_
  refine x_skip ?_
  refine x_tn ?_
  obtain ⟨x1, hx1, h⟩ := bind_some h
  refine x_rg (RegTo.mk [(.n, .e), (.n, .e), (.n, (.app (List.map enc_api_Attr x1))), (.n, .e)] ({ tm := [(2, .osl 0 0 (List.map enc_api_Attr x1).length)], hp := [(0, some (.p (some 3) (List.map enc_api_Attr x1)))], nx := 1 }) [(List.take 0 ([] : List PV) ++ List.map enc_api_Attr s_ = (List.map enc_api_Attr x1)), (List.length (List.map enc_api_Attr x1) * 40 ≤ 140737488355328), (List.length (List.map enc_api_Attr x1) ≤ 9223372036854775807), (0 ≤ List.length ([] : List PV))] (by kernel_rfl) (.cons (app_ob hx1 (.rfl _) (.rfl _)) (.cons (by rw [List.length_map]; exact (appL_ok hx1).2.1) (.cons (by rw [List.length_map]; exact (appL_ok hx1).2.2) (.cons (Nat.le_refl _) .nil)))) (Sub.refl _)) ?_
  refine x_toret ?_
  obtain rfl := Option.some.inj h
  exact x_ret (.usl (some 3) (List.take (List.map enc_api_Attr x1).length (List.map enc_api_Attr x1))) [0] [(List.map enc_api_Attr x1).length ≤ List.length (List.map enc_api_Attr x1)] (by kernel_rfl) (.cons (Nat.le_refl _) .nil) (by decide) (.of_eq (by rw [List.take_length])) (fun _ => (usl_ns (sh := (some 3)) (fun _ => rfl)))

theorem c40 {s_ : (List api_Attr)} {r : (List api_Attr)} (h : slices_Clone_api_Attr_api_Attr s_ = some r) : CallOK Tryd.prog 40 [.sl (some 3) (List.map enc_api_Attr s_)] (.usl (some 3) (List.map enc_api_Attr r)) true := by
  cases s_ with
  | nil =>
    have e : r = [] := by
      simp [slices_Clone_api_Attr_api_Attr, appL] at h
      first | exact h | exact h.symm
    subst e
    exact CallOK.nilSplit (c40_n (r := []) rfl) (c40_e (r := []) (by simp [slices_Clone_api_Attr_api_Attr_e, appL]))
  | cons a l => exact c40_p (by simp) h

theorem c41 {a : api_Attr} {r : Bool} (h : attr_Public_1 a = some r) : CallOK Tryd.prog 41 [enc_api_Attr a] (.bool r) true := by
  apply ok41
  unfold attr_Public_1 at h
  refine x_rg (RegTo.mk [(.n, .e), (.n, .e)] ({ tm := [(1, .optr 0 0 0)], hp := [(0, some (.p (some 3) [enc_api_Attr a]))], nx := 1 }) [] (by kernel_rfl) .nil (Sub.refl _)) ?_
  obtain ⟨x1, hx1, h⟩ := bind_some h
  refine x_rg (RegTo.mk [(.n, .e), (.n, .e), (.n, (.call [] [.str a.Name, .str [33]] (.bool x1) true)), (.n, .e)] ({ tm := [(2, .pv (.bool x1))], hp := [], nx := 0 }) [(LesA [.str a.Name, .str [33]] [.str a.Name, .str [33]]), (CallOK Tryd.prog 42 [.str a.Name, .str [33]] (.bool x1) true)] (by kernel_rfl) (.cons (LesA.rfl' _) (.cons (c42 hx1) .nil)) (Sub.refl _)) ?_
  refine x_toret ?_
  obtain rfl := Option.some.inj h
  exact x_ret (.bool x1) [] [] (by kernel_rfl) .nil (by decide) (.refl _) (fun _ => rfl)

theorem c60_f41 {s_ : (List api_Attr)} {r : Int} (h : slices_IndexFunc_api_Attr_api_Attr_f41 s_ = some r) : CallOK Tryd.prog 60 [.sl (some 3) (List.map enc_api_Attr s_), .fn 41 []] (.int .i64 r) true := by
  apply ok60
  unfold slices_IndexFunc_api_Attr_api_Attr_f41 at h
  refine x_rg (RegTo.mk [(.n, .e)] ({ tm := [(0, .pv (.sl (some 3) (List.map enc_api_Attr s_))), (1, .pv (.fn 41 []))], hp := [], nx := 0 }) [] (by kernel_rfl) .nil (Sub.refl _)) ?_
  refine x_seq ?_
  refine x_rg (RegTo.mk [(.n, .e), (.n, (.len (List.length s_ : Int))), (.n, .e)] ({ tm := [(0, .pv (.sl (some 3) (List.map enc_api_Attr s_))), (1, .pv (.fn 41 [])), (7, .pv (.int .i64 (List.length s_ : Int))), (8, .pv (.int .i64 0))], hp := [], nx := 0 }) [((List.length (List.map enc_api_Attr s_) : Int) = (List.length s_ : Int))] (by kernel_rfl) (.cons (by rw [List.length_map]) .nil) (Sub.refl _)) ?_
  refine x_block ?_
  refine x_kw ({ tm := [(0, .pv (.sl (some 3) (List.map enc_api_Attr s_))), (1, .pv (.fn 41 [])), (7, .pv (.int .i64 (List.length s_ : Int))), (8, .pv (.int .i64 0))], hp := [], nx := 0 }) (by kernel_rfl) (Sub.refl _) ?_
  refine x_loop (σ := Int) h (fun s => { tm := [(0, .pv (.sl (some 3) (List.map enc_api_Attr s_))), (1, .pv (.fn 41 [])), (7, .pv (.int .i64 (List.length s_ : Int))), (8, .pv (.int .i64 s))], hp := [], nx := 0 }) (by kernel_rfl) ?_ ?_
  · rintro v5
    kernel_rfl
  · rintro v5 x6 h hx6
    replace h : slices_IndexFunc_api_Attr_api_Attr_f41_L6 s_ v5 = some x6 := h
    unfold slices_IndexFunc_api_Attr_api_Attr_f41_L6 at h
    refine x_rg (RegTo.mk [(.n, .e)] ({ tm := [(0, .pv (.sl (some 3) (List.map enc_api_Attr s_))), (1, .pv (.fn 41 [])), (7, .pv (.int .i64 (List.length s_ : Int))), (8, .pv (.int .i64 v5)), (9, .pv (.bool (decide (v5 < (List.length s_ : Int)))))], hp := [], nx := 0 }) [] (by kernel_rfl) .nil (Sub.refl _)) ?_
    refine x_seq ?_
    refine x_cond _ rfl (fun hc7 => ?_) (fun hc7 => ?_)
    · replace h := ite_t h hc7
      refine x_kw ({ tm := [(0, .pv (.sl (some 3) (List.map enc_api_Attr s_))), (1, .pv (.fn 41 [])), (7, .pv (.int .i64 (List.length s_ : Int))), (8, .pv (.int .i64 v5))], hp := [], nx := 0 }) (by kernel_rfl) (Sub.refl _) ?_
      refine x_skip ?_
      refine x_tn ?_
      refine x_seq ?_
      refine x_block ?_
      refine x_rg (RegTo.mk [(.n, .e), (.n, .e)] ({ tm := [(0, .pv (.sl (some 3) (List.map enc_api_Attr s_))), (1, .pv (.fn 41 [])), (5, .pv (.int .i64 v5)), (7, .pv (.int .i64 (List.length s_ : Int))), (8, .pv (.int .i64 v5))], hp := [], nx := 0 }) [] (by kernel_rfl) .nil (Sub.refl _)) ?_
      obtain ⟨x8, hx8, h⟩ := bind_some h
      obtain ⟨x9, hx9, h⟩ := bind_some h
      refine x_rg (RegTo.mk [(.n, .e), (.n, .e), (.n, .e), (.n, (.pAt (enc_api_Attr x8))), (.n, .e), (.n, (.call [] [enc_api_Attr x8] (.bool x9) true))] ({ tm := [(0, .pv (.sl (some 3) (List.map enc_api_Attr s_))), (1, .pv (.fn 41 [])), (5, .pv (.int .i64 v5)), (7, .pv (.int .i64 (List.length s_ : Int))), (8, .pv (.int .i64 v5)), (16, .pv (.bool x9))], hp := [], nx := 0 }) [(lsAt (List.map enc_api_Attr s_) v5 = some (enc_api_Attr x8)), (LesA [enc_api_Attr x8] [enc_api_Attr x8]), (CallOK Tryd.prog 41 [enc_api_Attr x8] (.bool x9) true)] (by kernel_rfl) (.cons (lsAt_map hx8) (.cons (LesA.rfl' _) (.cons (c41 hx9) .nil))) (Sub.refl _)) ?_
      refine x_cond _ rfl (fun hc10 => ?_) (fun hc10 => ?_)
      · replace h := ite_t h hc10
        refine x_rg (RegTo.mk [(.n, .e), (.n, .e)] ({ tm := [(4, .pv (.int .i64 v5))], hp := [], nx := 0 }) [] (by kernel_rfl) .nil (Sub.refl _)) ?_
        refine x_toret ?_
        refine x_br ?_
        refine x_tr ?_
        refine x_tr ?_
        replace h := done_leaf h hx6
        refine x_br ?_
        refine x_tr ?_
        obtain rfl := Option.some.inj h
        exact x_ret (.int .i64 v5) [] [] (by kernel_rfl) .nil (by decide) (.refl _) (fun _ => rfl)
      · replace h := ite_f h hc10
        refine x_kw ({ tm := [(0, .pv (.sl (some 3) (List.map enc_api_Attr s_))), (1, .pv (.fn 41 [])), (7, .pv (.int .i64 (List.length s_ : Int))), (8, .pv (.int .i64 v5))], hp := [], nx := 0 }) (by kernel_rfl) (Sub.refl _) ?_
        refine x_skip ?_
        refine x_bn ?_
        refine x_tn ?_
        refine x_rgt (RegTo.mk [(.n, .e), (.n, .e)] ({ tm := [(0, .pv (.sl (some 3) (List.map enc_api_Attr s_))), (1, .pv (.fn 41 [])), (7, .pv (.int .i64 (List.length s_ : Int))), (8, .pv (.int .i64 (IntKind.wrap .i64 (v5 + 1))))], hp := [], nx := 0 }) [] (by kernel_rfl) .nil (Sub.refl _)) ?_
        refine x_tn ?_
        exact ⟨_, (Option.some.inj h).symm, by kernel_rfl⟩
    · replace h := ite_f h hc7
      refine x_kw ({ tm := [], hp := [], nx := 0 }) (by kernel_rfl) (Sub.refl _) ?_
      refine x_exit ?_
      refine x_te ?_
      refine x_te ?_
      replace h := done_leaf h hx6
      refine x_bh ?_
      refine x_tn ?_
      refine x_rg (RegTo.mk [(.n, .e)] ({ tm := [(4, .pv (.int .i64 (-1)))], hp := [], nx := 0 }) [] (by kernel_rfl) .nil (Sub.refl _)) ?_
      refine x_toret ?_
      obtain rfl := Option.some.inj h
      exact x_ret (.int .i64 (-1)) [] [] (by kernel_rfl) .nil (by decide) (.refl _) (fun _ => rfl)

theorem c39_o_f41 {s_ : (List api_Attr)} {r : (List api_Attr)} (h : slices_DeleteFunc_api_Attr_api_Attr_o_f41 s_ = some r) : CallOK Tryd.prog 39 [.usl (some 3) (List.map enc_api_Attr s_), .fn 41 []] (.usl (some 3) (List.map enc_api_Attr r)) true := by
  apply ok39
  unfold slices_DeleteFunc_api_Attr_api_Attr_o_f41 at h
  refine x_rg (RegTo.mk [(.n, .e)] ({ tm := [(0, .osl 0 0 (List.map enc_api_Attr s_).length), (1, .pv (.fn 41 []))], hp := [(0, some (.p (some 3) (List.map enc_api_Attr s_)))], nx := 1 }) [] (by kernel_rfl) .nil (Sub.refl _)) ?_
  obtain ⟨x1, hx1, h⟩ := bind_some h
  refine x_rg (RegTo.mk [(.n, .e), (.n, .e), (.n, (.call [] [.sl (some 3) (List.map enc_api_Attr s_), .fn 41 []] (.int .i64 x1) true)), (.n, .e)] ({ tm := [(0, .osl 0 0 (List.map enc_api_Attr s_).length), (1, .pv (.fn 41 [])), (5, .pv (.int .i64 x1))], hp := [(0, some (.p (some 3) (List.map enc_api_Attr s_)))], nx := 1 }) [(LesA [.sl (some 3) (List.take (List.map enc_api_Attr s_).length (List.drop 0 (List.map enc_api_Attr s_))), .fn 41 []] [.sl (some 3) (List.map enc_api_Attr s_), .fn 41 []]), (CallOK Tryd.prog 60 [.sl (some 3) (List.map enc_api_Attr s_), .fn 41 []] (.int .i64 x1) true), (0 + (List.map enc_api_Attr s_).length ≤ List.length (List.map enc_api_Attr s_))] (by kernel_rfl) (.cons (.cons (.of_eq (by rw [List.drop_zero, List.take_length])) (.cons (.refl _) .nil)) (.cons (c60_f41 hx1) (.cons (by simp) .nil))) (Sub.refl _)) ?_
  refine x_seq ?_
  refine x_rg (RegTo.mk [(.n, .e), (.n, .e)] ({ tm := [(0, .osl 0 0 (List.map enc_api_Attr s_).length), (1, .pv (.fn 41 [])), (5, .pv (.int .i64 x1)), (12, .pv (.bool (decide (x1 = (-1)))))], hp := [(0, some (.p (some 3) (List.map enc_api_Attr s_)))], nx := 1 }) [] (by kernel_rfl) .nil (Sub.refl _)) ?_
  refine x_cond _ rfl (fun hc2 => ?_) (fun hc2 => ?_)
  · replace h := ite_t h hc2
    refine x_rg (RegTo.mk [(.n, .e), (.n, .e)] ({ tm := [(4, .osl 0 0 (List.map enc_api_Attr s_).length)], hp := [(0, some (.p (some 3) (List.map enc_api_Attr s_)))], nx := 1 }) [] (by kernel_rfl) .nil (Sub.refl _)) ?_
    refine x_toret ?_
    refine x_tr ?_
    obtain rfl := Option.some.inj h
    exact x_ret (.usl (some 3) (List.take (List.map enc_api_Attr s_).length (List.map enc_api_Attr s_))) [0] [(List.map enc_api_Attr s_).length ≤ List.length (List.map enc_api_Attr s_)] (by kernel_rfl) (.cons (Nat.le_refl _) .nil) (by decide) (.of_eq (by rw [List.take_length])) (fun _ => (usl_ns (sh := (some 3)) (fun _ => rfl)))
  · replace h := ite_f h hc2
    refine x_kw ({ tm := [(0, .osl 0 0 (List.map enc_api_Attr s_).length), (1, .pv (.fn 41 [])), (5, .pv (.int .i64 x1))], hp := [(0, some (.p (some 3) (List.map enc_api_Attr s_)))], nx := 1 }) (by kernel_rfl) (Sub.refl _) ?_
    refine x_skip ?_
    refine x_tn ?_
    refine x_seq ?_
    refine x_rg (RegTo.mk [(.n, .e), (.n, .e), (.n, .e)] ({ tm := [(0, .osl 0 0 (List.map enc_api_Attr s_).length), (1, .pv (.fn 41 [])), (5, .pv (.int .i64 x1)), (6, .pv (.int .i64 (IntKind.wrap .i64 (x1 + 1))))], hp := [(0, some (.p (some 3) (List.map enc_api_Attr s_)))], nx := 1 }) [] (by kernel_rfl) .nil (Sub.refl _)) ?_
    refine x_block ?_
    refine x_kw ({ tm := [(0, .osl 0 0 (List.map enc_api_Attr s_).length), (1, .pv (.fn 41 [])), (5, .pv (.int .i64 x1)), (6, .pv (.int .i64 (IntKind.wrap .i64 (x1 + 1))))], hp := [(0, some (.p (some 3) (List.map enc_api_Attr s_)))], nx := 1 }) (by kernel_rfl) (Sub.refl _) ?_
    refine x_loop (σ := (Int × Int × (List api_Attr))) h (fun s => { tm := [(0, .osl 0 0 (List.map enc_api_Attr s.2.2).length), (1, .pv (.fn 41 [])), (5, .pv (.int .i64 s.1)), (6, .pv (.int .i64 s.2.1))], hp := [(0, some (.p (some 3) (List.map enc_api_Attr s.2.2)))], nx := 1 }) (by kernel_rfl) ?_ ?_
    · rintro ⟨i, j, s__1⟩
      kernel_rfl
    · rintro ⟨i, j, s__1⟩ x11 h hx11
      replace h : slices_DeleteFunc_api_Attr_api_Attr_o_f41_L11 i j s__1 = some x11 := h
      unfold slices_DeleteFunc_api_Attr_api_Attr_o_f41_L11 at h
      refine x_seq ?_
      refine x_rg (RegTo.mk [(.n, .e), (.n, .e), (.n, (.len (List.length s__1 : Int))), (.n, .e)] ({ tm := [(0, .osl 0 0 (List.map enc_api_Attr s__1).length), (1, .pv (.fn 41 [])), (5, .pv (.int .i64 i)), (6, .pv (.int .i64 j)), (19, .pv (.bool (decide (j < (List.length s__1 : Int)))))], hp := [(0, some (.p (some 3) (List.map enc_api_Attr s__1)))], nx := 1 }) [((((List.map enc_api_Attr s__1).length : Nat) : Int) = (List.length s__1 : Int))] (by kernel_rfl) (.cons (by rw [List.length_map]) .nil) (Sub.refl _)) ?_
      refine x_cond _ rfl (fun hc12 => ?_) (fun hc12 => ?_)
      · replace h := ite_t h hc12
        refine x_kw ({ tm := [(0, .osl 0 0 (List.map enc_api_Attr s__1).length), (1, .pv (.fn 41 [])), (5, .pv (.int .i64 i)), (6, .pv (.int .i64 j))], hp := [(0, some (.p (some 3) (List.map enc_api_Attr s__1)))], nx := 1 }) (by kernel_rfl) (Sub.refl _) ?_
        refine x_skip ?_
        refine x_tn ?_
        refine x_seq ?_
        refine x_block ?_
        obtain ⟨x13, hx13, h⟩ := bind_some h
        refine x_rg (RegTo.mk [(.n, .e), (.n, .e), (.n, .rAt), (.n, (.ld (enc_api_Attr x13))), (.n, .e), (.n, .e)] ({ tm := [(0, .osl 0 0 (List.map enc_api_Attr s__1).length), (1, .pv (.fn 41 [])), (5, .pv (.int .i64 i)), (6, .pv (.int .i64 j)), (7, .optr 1 0 0)], hp := [(0, some (.p (some 3) (List.map enc_api_Attr s__1))), (1, some (.p (some 3) [enc_api_Attr x13]))], nx := 2 }) [(0 ≤ (j : Int) ∧ Int.toNat j < (List.map enc_api_Attr s__1).length), ((List.map enc_api_Attr s__1)[(0 + Int.toNat j)]? = some (enc_api_Attr x13))] (by kernel_rfl) (.cons (rAt_ob hx13 (by simp)) (.cons (ownAt hx13) .nil)) (Sub.refl _)) ?_
        obtain ⟨x14, hx14, h⟩ := bind_some h
        refine x_rg (RegTo.mk [(.n, .e), (.n, .e), (.n, (.call [] [enc_api_Attr x13] (.bool x14) true)), (.n, .e)] ({ tm := [(0, .osl 0 0 (List.map enc_api_Attr s__1).length), (1, .pv (.fn 41 [])), (5, .pv (.int .i64 i)), (6, .pv (.int .i64 j)), (7, .optr 1 0 0), (29, .pv (.bool (!x14)))], hp := [(0, some (.p (some 3) (List.map enc_api_Attr s__1))), (1, some (.p (some 3) [enc_api_Attr x13]))], nx := 2 }) [(LesA [enc_api_Attr x13] [enc_api_Attr x13]), (CallOK Tryd.prog 41 [enc_api_Attr x13] (.bool x14) true)] (by kernel_rfl) (.cons (LesA.rfl' _) (.cons (c41 hx14) .nil)) (Sub.refl _)) ?_
        refine x_cond _ rfl (fun hc15 => ?_) (fun hc15 => ?_)
        · replace h := ite_t h hc15
          obtain ⟨x16, hx16, h⟩ := bind_some h
          refine x_rg (st2 := { tm := [(0, .osl 0 0 (List.map enc_api_Attr (List.set s__1 (Int.toNat i) x13)).length), (1, .pv (.fn 41 [])), (5, .pv (.int .i64 i)), (6, .pv (.int .i64 j))], hp := [(0, some (.p (some 3) (List.map enc_api_Attr (List.set s__1 (Int.toNat i) x13))))], nx := 1 }) (RegTo.mk [(.n, .e), (.n, .e), (.n, .e), (.n, .rAt), (.n, (.set (enc_api_Attr x16) (List.map enc_api_Attr (List.set s__1 (Int.toNat i) x13))))] ({ tm := [(0, .osl 0 0 (List.map enc_api_Attr s__1).length), (1, .pv (.fn 41 [])), (5, .pv (.int .i64 i)), (6, .pv (.int .i64 j))], hp := [(0, some (.p (some 3) (List.map enc_api_Attr (List.set s__1 (Int.toNat i) x13))))], nx := 1 }) [(0 ≤ (i : Int) ∧ Int.toNat i < (List.map enc_api_Attr s__1).length), ((List.map enc_api_Attr s__1)[(0 + Int.toNat i)]? = some (enc_api_Attr x16)), (List.set (List.map enc_api_Attr s__1) (0 + Int.toNat i) (enc_api_Attr x13) = (List.map enc_api_Attr (List.set s__1 (Int.toNat i) x13)))] (by kernel_rfl) (.cons (rAt_ob hx16 (by simp)) (.cons (ownAt hx16) (.cons (by rw [Nat.zero_add, List.map_set]; try rfl) .nil))) (Sub.of_eq (by simp only [List.length_map, List.length_set]))) ?_
          refine x_rgt (RegTo.mk [(.n, .e), (.n, .e), (.n, .e)] ({ tm := [(0, .osl 0 0 (List.map enc_api_Attr (List.set s__1 (Int.toNat i) x13)).length), (1, .pv (.fn 41 [])), (5, .pv (.int .i64 (IntKind.wrap .i64 (i + 1)))), (6, .pv (.int .i64 j))], hp := [(0, some (.p (some 3) (List.map enc_api_Attr (List.set s__1 (Int.toNat i) x13))))], nx := 1 }) [] (by kernel_rfl) .nil (Sub.refl _)) ?_
          refine x_bn ?_
          refine x_tn ?_
          refine x_rgt (RegTo.mk [(.n, .e), (.n, .e), (.n, .e)] ({ tm := [(0, .osl 0 0 (List.map enc_api_Attr (List.set s__1 (Int.toNat i) x13)).length), (1, .pv (.fn 41 [])), (5, .pv (.int .i64 (IntKind.wrap .i64 (i + 1)))), (6, .pv (.int .i64 (IntKind.wrap .i64 (j + 1))))], hp := [(0, some (.p (some 3) (List.map enc_api_Attr (List.set s__1 (Int.toNat i) x13))))], nx := 1 }) [] (by kernel_rfl) .nil (Sub.refl _)) ?_
          refine x_tn ?_
          exact ⟨_, (Option.some.inj h).symm, by kernel_rfl⟩
        · replace h := ite_f h hc15
          refine x_kw ({ tm := [(0, .osl 0 0 (List.map enc_api_Attr s__1).length), (1, .pv (.fn 41 [])), (5, .pv (.int .i64 i)), (6, .pv (.int .i64 j))], hp := [(0, some (.p (some 3) (List.map enc_api_Attr s__1)))], nx := 1 }) (by kernel_rfl) (Sub.refl _) ?_
          refine x_skip ?_
          refine x_bn ?_
          refine x_tn ?_
          refine x_rgt (RegTo.mk [(.n, .e), (.n, .e), (.n, .e)] ({ tm := [(0, .osl 0 0 (List.map enc_api_Attr s__1).length), (1, .pv (.fn 41 [])), (5, .pv (.int .i64 i)), (6, .pv (.int .i64 (IntKind.wrap .i64 (j + 1))))], hp := [(0, some (.p (some 3) (List.map enc_api_Attr s__1)))], nx := 1 }) [] (by kernel_rfl) .nil (Sub.refl _)) ?_
          refine x_tn ?_
          exact ⟨_, (Option.some.inj h).symm, by kernel_rfl⟩
      · replace h := ite_f h hc12
        refine x_kw ({ tm := [(0, .osl 0 0 (List.map enc_api_Attr s__1).length), (5, .pv (.int .i64 i))], hp := [(0, some (.p (some 3) (List.map enc_api_Attr s__1)))], nx := 1 }) (by kernel_rfl) (Sub.refl _) ?_
        refine x_exit ?_
        refine x_te ?_
        refine x_te ?_
        replace h := done_map h hx11
        unfold slices_DeleteFunc_api_Attr_api_Attr_o_f41_A18 at h
        refine x_bh ?_
        refine x_tn ?_
        obtain ⟨x17, hx17, h⟩ := bind_some h
        refine x_rg (st2 := { tm := [(0, .osl 0 0 (List.map enc_api_Attr s__1).length), (5, .pv (.int .i64 i))], hp := [(0, some (.p (some 3) (List.map enc_api_Attr x17)))], nx := 1 }) (RegTo.mk [(.n, .e), (.n, .e), (.n, .cutR), (.n, .clr)] ({ tm := [(0, .osl 0 0 (List.map enc_api_Attr s__1).length), (5, .pv (.int .i64 i))], hp := [(0, some (.p (some 3) (List.take (0 + Int.toNat i) (List.map enc_api_Attr s__1))))], nx := 1 }) [(0 ≤ i ∧ i ≤ (((List.map enc_api_Attr s__1).length : Nat) : Int) ∧ (((List.map enc_api_Attr s__1).length : Nat) : Int) ≤ (((List.map enc_api_Attr s__1).length : Nat) : Int)), ((0 + Int.toNat i) ≤ List.length (List.map enc_api_Attr s__1))] (by kernel_rfl) (.cons (cutB_ob hx17 (by simp)) (.cons (clr_ob hx17) .nil)) (Sub.of_eq (show ({ tm := [(0, .osl 0 0 (List.map enc_api_Attr s__1).length), (5, .pv (.int .i64 i))], hp := [(0, some (.p (some 3) (List.map enc_api_Attr x17)))], nx := 1 } : VSt) = { tm := [(0, .osl 0 0 (List.map enc_api_Attr s__1).length), (5, .pv (.int .i64 i))], hp := [(0, some (.p (some 3) (List.take (0 + Int.toNat i) (List.map enc_api_Attr s__1))))], nx := 1 } from by rw [clr_row hx17]))) ?_
        refine x_rg (st2 := { tm := [(4, .osl 0 0 (List.map enc_api_Attr x17).length)], hp := [(0, some (.p (some 3) (List.map enc_api_Attr x17)))], nx := 1 }) (RegTo.mk [(.n, .e), (.n, .e), (.n, .cutR), (.n, .e)] ({ tm := [(4, .osl 0 (0 + Int.toNat 0) (Int.toNat i - Int.toNat 0))], hp := [(0, some (.p (some 3) (List.map enc_api_Attr x17)))], nx := 1 }) [(0 ≤ (0 : Int) ∧ (0 : Int) ≤ i ∧ i ≤ (((List.map enc_api_Attr s__1).length : Nat) : Int))] (by kernel_rfl) (.cons (cutR_ob hx17 (by simp)) .nil) (Sub.of_eq (show ({ tm := [(4, .osl 0 0 (List.map enc_api_Attr x17).length)], hp := [(0, some (.p (some 3) (List.map enc_api_Attr x17)))], nx := 1 } : VSt) = { tm := [(4, .osl 0 (0 + Int.toNat 0) (Int.toNat i - Int.toNat 0))], hp := [(0, some (.p (some 3) (List.map enc_api_Attr x17)))], nx := 1 } from by rw [clr_len hx17]; try rfl))) ?_
        refine x_toret ?_
        obtain rfl := Option.some.inj h
        exact x_ret (.usl (some 3) (List.take (List.map enc_api_Attr x17).length (List.map enc_api_Attr x17))) [0] [(List.map enc_api_Attr x17).length ≤ List.length (List.map enc_api_Attr x17)] (by kernel_rfl) (.cons (Nat.le_refl _) .nil) (by decide) (.of_eq (by rw [List.take_length])) (fun _ => (usl_ns (sh := (some 3)) (fun _ => rfl)))

theorem c22 {l : (List api_Attr)} {r : (List api_Attr)} (h : attr_Public l = some r) : CallOK Tryd.prog 22 [.sl (some 3) (List.map enc_api_Attr l)] (.usl (some 3) (List.map enc_api_Attr r)) true := by
  apply ok22
  unfold attr_Public at h
  refine x_rg (RegTo.mk [(.n, .e)] ({ tm := [(0, .pv (.sl (some 3) (List.map enc_api_Attr l)))], hp := [], nx := 0 }) [] (by kernel_rfl) .nil (Sub.refl _)) ?_
  obtain ⟨x1, hx1, h⟩ := bind_some h
  obtain ⟨x2, hx2, h⟩ := bind_some h
  refine x_rg (RegTo.mk [(.n, .e), (.n, (.call [] [.sl (some 3) (List.map enc_api_Attr l)] (.usl (some 3) (List.map enc_api_Attr x1)) true)), (.n, (.call [4] [.usl (some 3) (List.map enc_api_Attr x1), .fn 41 []] (.usl (some 3) (List.map enc_api_Attr x2)) true)), (.n, .e)] ({ tm := [(2, .osl 0 0 (List.map enc_api_Attr x2).length)], hp := [(0, some (.p (some 3) (List.map enc_api_Attr x2)))], nx := 1 }) [(LesA [.sl (some 3) (List.map enc_api_Attr l)] [.sl (some 3) (List.map enc_api_Attr l)]), (CallOK Tryd.prog 40 [.sl (some 3) (List.map enc_api_Attr l)] (.usl (some 3) (List.map enc_api_Attr x1)) true), (LesA [.usl (some 3) (List.take (List.map enc_api_Attr x1).length (List.map enc_api_Attr x1)), .fn 41 []] [.usl (some 3) (List.map enc_api_Attr x1), .fn 41 []]), (CallOK Tryd.prog 39 [.usl (some 3) (List.map enc_api_Attr x1), .fn 41 []] (.usl (some 3) (List.map enc_api_Attr x2)) true), ((List.map enc_api_Attr x1).length ≤ List.length (List.map enc_api_Attr x1))] (by kernel_rfl) (.cons (LesA.rfl' _) (.cons (c40 hx1) (.cons (.cons (.of_eq (by rw [List.take_length])) (.cons (.refl _) .nil)) (.cons (c39_o_f41 hx2) (.cons (Nat.le_refl _) .nil))))) (Sub.refl _)) ?_
  refine x_toret ?_
  obtain rfl := Option.some.inj h
  exact x_ret (.usl (some 3) (List.take (List.map enc_api_Attr x2).length (List.map enc_api_Attr x2))) [0] [(List.map enc_api_Attr x2).length ≤ List.length (List.map enc_api_Attr x2)] (by kernel_rfl) (.cons (Nat.le_refl _) .nil) (by decide) (.of_eq (by rw [List.take_length])) (fun _ => (usl_ns (sh := (some 3)) (fun _ => rfl)))

theorem c20 {l : (List api_Attr)} {pattern : (List api_Attr)} {r : Bool} (h : attr_Matches l pattern = some r) : CallOK Tryd.prog 20 [.sl (some 3) (List.map enc_api_Attr l), .sl (some 3) (List.map enc_api_Attr pattern)] (.bool r) true := by
  apply ok20
  unfold attr_Matches at h
  refine x_rg (RegTo.mk [(.n, .e)] ({ tm := [(0, .pv (.sl (some 3) (List.map enc_api_Attr l))), (1, .pv (.sl (some 3) (List.map enc_api_Attr pattern)))], hp := [], nx := 0 }) [] (by kernel_rfl) .nil (Sub.refl _)) ?_
  refine x_seq ?_
  refine x_rg (RegTo.mk [(.n, .e), (.n, (.len (List.length pattern : Int))), (.n, .e)] ({ tm := [(0, .pv (.sl (some 3) (List.map enc_api_Attr l))), (9, .pv (.sl (some 3) (List.map enc_api_Attr pattern))), (10, .pv (.int .i64 (List.length pattern : Int))), (11, .pv (.int .i64 0))], hp := [], nx := 0 }) [((List.length (List.map enc_api_Attr pattern) : Int) = (List.length pattern : Int))] (by kernel_rfl) (.cons (by rw [List.length_map]) .nil) (Sub.refl _)) ?_
  refine x_block ?_
  refine x_kw ({ tm := [(0, .pv (.sl (some 3) (List.map enc_api_Attr l))), (9, .pv (.sl (some 3) (List.map enc_api_Attr pattern))), (10, .pv (.int .i64 (List.length pattern : Int))), (11, .pv (.int .i64 0))], hp := [], nx := 0 }) (by kernel_rfl) (Sub.refl _) ?_
  refine x_loop (σ := Int) h (fun s => { tm := [(0, .pv (.sl (some 3) (List.map enc_api_Attr l))), (9, .pv (.sl (some 3) (List.map enc_api_Attr pattern))), (10, .pv (.int .i64 (List.length pattern : Int))), (11, .pv (.int .i64 s))], hp := [], nx := 0 }) (by kernel_rfl) ?_ ?_
  · rintro v8
    kernel_rfl
  · rintro v8 x9 h hx9
    replace h : attr_Matches_L9 l pattern v8 = some x9 := h
    unfold attr_Matches_L9 at h
    refine x_rg (RegTo.mk [(.n, .e)] ({ tm := [(0, .pv (.sl (some 3) (List.map enc_api_Attr l))), (9, .pv (.sl (some 3) (List.map enc_api_Attr pattern))), (10, .pv (.int .i64 (List.length pattern : Int))), (11, .pv (.int .i64 v8)), (12, .pv (.bool (decide (v8 < (List.length pattern : Int)))))], hp := [], nx := 0 }) [] (by kernel_rfl) .nil (Sub.refl _)) ?_
    refine x_seq ?_
    refine x_cond _ rfl (fun hc10 => ?_) (fun hc10 => ?_)
    · replace h := ite_t h hc10
      refine x_kw ({ tm := [(0, .pv (.sl (some 3) (List.map enc_api_Attr l))), (9, .pv (.sl (some 3) (List.map enc_api_Attr pattern))), (10, .pv (.int .i64 (List.length pattern : Int))), (11, .pv (.int .i64 v8))], hp := [], nx := 0 }) (by kernel_rfl) (Sub.refl _) ?_
      refine x_skip ?_
      refine x_tn ?_
      refine x_seq ?_
      refine x_block ?_
      obtain ⟨x11, hx11, h⟩ := bind_some h
      refine x_rg (RegTo.mk [(.n, (.pAt (enc_api_Attr x11))), (.n, .e), (.n, .e), (.n, .e)] ({ tm := [(0, .pv (.sl (some 3) (List.map enc_api_Attr l))), (6, .optr 0 0 0), (9, .pv (.sl (some 3) (List.map enc_api_Attr pattern))), (10, .pv (.int .i64 (List.length pattern : Int))), (11, .pv (.int .i64 v8))], hp := [(0, some (.p (some 3) [enc_api_Attr x11]))], nx := 1 }) [(lsAt (List.map enc_api_Attr pattern) v8 = some (enc_api_Attr x11))] (by kernel_rfl) (.cons (lsAt_map hx11) .nil) (Sub.refl _)) ?_
      obtain ⟨x12, hx12, h⟩ := bind_some h
      refine x_rg (RegTo.mk [(.n, .e), (.n, .e), (.n, .e), (.n, (.call [] [.sl (some 3) (List.map enc_api_Attr l), .str x11.Name] (.tup [.str x12.1, .bool x12.2]) true)), (.n, .e), (.n, .e), (.n, .e), (.n, .e), (.n, .e)] ({ tm := [(0, .pv (.sl (some 3) (List.map enc_api_Attr l))), (6, .optr 0 0 0), (7, .pv (.str x12.1)), (8, .pv (.bool x12.2)), (9, .pv (.sl (some 3) (List.map enc_api_Attr pattern))), (10, .pv (.int .i64 (List.length pattern : Int))), (11, .pv (.int .i64 v8))], hp := [(0, some (.p (some 3) [enc_api_Attr x11]))], nx := 1 }) [(LesA [.sl (some 3) (List.map enc_api_Attr l), .str x11.Name] [.sl (some 3) (List.map enc_api_Attr l), .str x11.Name]), (CallOK Tryd.prog 24 [.sl (some 3) (List.map enc_api_Attr l), .str x11.Name] (.tup [.str x12.1, .bool x12.2]) true)] (by kernel_rfl) (.cons (LesA.rfl' _) (.cons (c24 hx12) .nil)) (Sub.refl _)) ?_
      refine x_rg (st2 := { tm := [(0, .pv (.sl (some 3) (List.map enc_api_Attr l))), (9, .pv (.sl (some 3) (List.map enc_api_Attr pattern))), (10, .pv (.int .i64 (List.length pattern : Int))), (11, .pv (.int .i64 v8)), (34, .pv (.bool ((!x12.2) || ((!x11.Query) && (!decide (x12.1 = x11.Value))))))], hp := [], nx := 0 }) ?_ ?_
      · rcases Bool.eq_false_or_eq_true (!x12.2) with hg13 | hg13
        · exact RegTo.mk [(.n, .e), (.n, .e), (.n, .e), (.s, .e), (.s, .e), (.s, .e), (.s, .e), (.u, .e), (.u, .e), (.u, .e), (.u, .e), (.s, .e), (.n, (.pk true))] ({ tm := [(0, .pv (.sl (some 3) (List.map enc_api_Attr l))), (9, .pv (.sl (some 3) (List.map enc_api_Attr pattern))), (10, .pv (.int .i64 (List.length pattern : Int))), (11, .pv (.int .i64 v8)), (34, .pv (.bool true))], hp := [], nx := 0 }) [((!x12.2) = true), ((!x12.2) = true), ((!x12.2) = true), ((!x12.2) = true), ((!x12.2) = true), ((!x12.2) = true)] (by kernel_rfl) (.cons hg13 (.cons hg13 (.cons hg13 (.cons hg13 (.cons hg13 (.cons hg13 .nil)))))) (.of_eq (by simp only [hg13, Bool.true_or, Bool.false_or, Bool.true_and, Bool.false_and, Bool.or_true, Bool.or_false, Bool.and_true, Bool.and_false, Bool.false_eq_true, if_true, if_false, reduceIte]))
        · rcases Bool.eq_false_or_eq_true (!x11.Query) with hg14 | hg14
          · exact RegTo.mk [(.n, .e), (.n, .e), (.n, .e), (.y, .e), (.y, .e), (.y, .e), (.y, .e), (.y, .e), (.y, .e), (.y, .e), (.y, .e), (.y, (.pk true)), (.n, (.pk false))] ({ tm := [(0, .pv (.sl (some 3) (List.map enc_api_Attr l))), (9, .pv (.sl (some 3) (List.map enc_api_Attr pattern))), (10, .pv (.int .i64 (List.length pattern : Int))), (11, .pv (.int .i64 v8)), (34, .pv (.bool (!decide (x12.1 = x11.Value))))], hp := [], nx := 0 }) [((!x12.2) = false), ((!x12.2) = false), ((!x12.2) = false), ((!x12.2) = false), ((!x11.Query) = true), ((!x11.Query) = true), ((!x11.Query) = true), ((!x11.Query) = true), ((!x12.2) = false), ((!x11.Query) = true), ((!x12.2) = false)] (by kernel_rfl) (.cons hg13 (.cons hg13 (.cons hg13 (.cons hg13 (.cons hg14 (.cons hg14 (.cons hg14 (.cons hg14 (.cons hg13 (.cons hg14 (.cons hg13 .nil))))))))))) (.of_eq (by simp only [hg13, hg14, Bool.true_or, Bool.false_or, Bool.true_and, Bool.false_and, Bool.or_true, Bool.or_false, Bool.and_true, Bool.and_false, Bool.false_eq_true, if_true, if_false, reduceIte]))
          · exact RegTo.mk [(.n, .e), (.n, .e), (.n, .e), (.y, .e), (.y, .e), (.y, .e), (.y, .e), (.s, .e), (.s, .e), (.s, .e), (.s, .e), (.y, (.pk false)), (.n, (.pk false))] ({ tm := [(0, .pv (.sl (some 3) (List.map enc_api_Attr l))), (9, .pv (.sl (some 3) (List.map enc_api_Attr pattern))), (10, .pv (.int .i64 (List.length pattern : Int))), (11, .pv (.int .i64 v8)), (34, .pv (.bool false))], hp := [], nx := 0 }) [((!x12.2) = false), ((!x12.2) = false), ((!x12.2) = false), ((!x12.2) = false), ((!x11.Query) = false), ((!x11.Query) = false), ((!x11.Query) = false), ((!x11.Query) = false), ((!x12.2) = false), ((!x11.Query) = false), ((!x12.2) = false)] (by kernel_rfl) (.cons hg13 (.cons hg13 (.cons hg13 (.cons hg13 (.cons hg14 (.cons hg14 (.cons hg14 (.cons hg14 (.cons hg13 (.cons hg14 (.cons hg13 .nil))))))))))) (.of_eq (by simp only [hg13, hg14, Bool.true_or, Bool.false_or, Bool.true_and, Bool.false_and, Bool.or_true, Bool.or_false, Bool.and_true, Bool.and_false, Bool.false_eq_true, if_true, if_false, reduceIte]))
      · refine x_cond _ rfl (fun hc16 => ?_) (fun hc16 => ?_)
        · replace h := ite_t h hc16
          refine x_rg (RegTo.mk [(.n, .e)] ({ tm := [(4, .pv (.bool false))], hp := [], nx := 0 }) [] (by kernel_rfl) .nil (Sub.refl _)) ?_
          refine x_toret ?_
          refine x_br ?_
          refine x_tr ?_
          refine x_tr ?_
          replace h := done_leaf h hx9
          refine x_br ?_
          refine x_tr ?_
          obtain rfl := Option.some.inj h
          exact x_ret (.bool false) [] [] (by kernel_rfl) .nil (by decide) (.refl _) (fun _ => rfl)
        · replace h := ite_f h hc16
          refine x_kw ({ tm := [(0, .pv (.sl (some 3) (List.map enc_api_Attr l))), (9, .pv (.sl (some 3) (List.map enc_api_Attr pattern))), (10, .pv (.int .i64 (List.length pattern : Int))), (11, .pv (.int .i64 v8))], hp := [], nx := 0 }) (by kernel_rfl) (Sub.refl _) ?_
          refine x_skip ?_
          refine x_bn ?_
          refine x_tn ?_
          refine x_rgt (RegTo.mk [(.n, .e), (.n, .e)] ({ tm := [(0, .pv (.sl (some 3) (List.map enc_api_Attr l))), (9, .pv (.sl (some 3) (List.map enc_api_Attr pattern))), (10, .pv (.int .i64 (List.length pattern : Int))), (11, .pv (.int .i64 (IntKind.wrap .i64 (v8 + 1))))], hp := [], nx := 0 }) [] (by kernel_rfl) .nil (Sub.refl _)) ?_
          refine x_tn ?_
          exact ⟨_, (Option.some.inj h).symm, by kernel_rfl⟩
    · replace h := ite_f h hc10
      refine x_kw ({ tm := [], hp := [], nx := 0 }) (by kernel_rfl) (Sub.refl _) ?_
      refine x_exit ?_
      refine x_te ?_
      refine x_te ?_
      replace h := done_leaf h hx9
      refine x_bh ?_
      refine x_tn ?_
      refine x_rg (RegTo.mk [(.n, .e)] ({ tm := [(4, .pv (.bool true))], hp := [], nx := 0 }) [] (by kernel_rfl) .nil (Sub.refl _)) ?_
      refine x_toret ?_
      obtain rfl := Option.some.inj h
      exact x_ret (.bool true) [] [] (by kernel_rfl) .nil (by decide) (.refl _) (fun _ => rfl)

theorem c12 {r : Bool} (h : law22_awake = some r) : CallOK Tryd.prog 12 [] (.bool r) true := by
  apply ok12
  unfold law22_awake at h
  refine x_rg (RegTo.mk [(.n, .e)] ({ tm := [], hp := [], nx := 0 }) [] (by kernel_rfl) .nil (Sub.refl _)) ?_
  obtain ⟨x1, hx1, h⟩ := bind_some h
  refine x_rg (RegTo.mk [(.n, (.call [] [.str [117, 115, 101, 114, 61, 97, 110, 110, 32, 33, 115, 101, 99, 114, 101, 116, 61, 39, 105, 116, 39, 39, 115, 32, 109, 101, 39, 32, 100, 111, 109, 63]] (.tup [.usl (some 3) (List.map enc_api_Attr x1.1), .int .i64 x1.2.1, .int .i64 x1.2.2]) true)), (.n, .e), (.n, .e), (.n, .e), (.n, .e), (.n, .e), (.n, .e), (.n, .e)] ({ tm := [(1, .osl 0 0 (List.map enc_api_Attr x1.1).length), (2, .pv (.int .i64 x1.2.1)), (3, .pv (.int .i64 x1.2.2))], hp := [(0, some (.p (some 3) (List.map enc_api_Attr x1.1)))], nx := 1 }) [(LesA [.str [117, 115, 101, 114, 61, 97, 110, 110, 32, 33, 115, 101, 99, 114, 101, 116, 61, 39, 105, 116, 39, 39, 115, 32, 109, 101, 39, 32, 100, 111, 109, 63]] [.str [117, 115, 101, 114, 61, 97, 110, 110, 32, 33, 115, 101, 99, 114, 101, 116, 61, 39, 105, 116, 39, 39, 115, 32, 109, 101, 39, 32, 100, 111, 109, 63]]), (CallOK Tryd.prog 17 [.str [117, 115, 101, 114, 61, 97, 110, 110, 32, 33, 115, 101, 99, 114, 101, 116, 61, 39, 105, 116, 39, 39, 115, 32, 109, 101, 39, 32, 100, 111, 109, 63]] (.tup [.usl (some 3) (List.map enc_api_Attr x1.1), .int .i64 x1.2.1, .int .i64 x1.2.2]) true)] (by kernel_rfl) (.cons (LesA.rfl' _) (.cons (c17 hx1) .nil)) (Sub.refl _)) ?_
  refine x_seq ?_
  obtain ⟨t8, ht, h⟩ := bind_some h
  refine x_rg (st2 := { tm := [(1, .osl 0 0 (List.map enc_api_Attr x1.1).length), (36, .pv (.bool t8))], hp := [(0, some (.p (some 3) (List.map enc_api_Attr x1.1)))], nx := 1 }) ?_ ?_
  · rcases Bool.eq_false_or_eq_true (!decide (x1.2.2 = 0)) with hg2 | hg2
    · replace ht := ite_t ht hg2
      have e := Option.some.inj ht
      subst e
      exact RegTo.mk [(.n, .e), (.n, .e), (.n, .e), (.s, .e), (.s, .e), (.n, (.pk true)), (.n, .e), (.s, .e), (.s, .e), (.s, .e), (.n, .e), (.n, .e), (.s, .e), (.s, .e), (.s, .e), (.s, .e), (.s, .e), (.n, .e), (.n, .e), (.s, .e), (.s, .e), (.s, .e), (.s, .e), (.s, .e), (.n, .e)] ({ tm := [(1, .osl 0 0 (List.map enc_api_Attr x1.1).length), (36, .pv (.bool true))], hp := [(0, some (.p (some 3) (List.map enc_api_Attr x1.1)))], nx := 1 }) [((!decide (x1.2.2 = 0)) = true), ((!decide (x1.2.2 = 0)) = true), ((!decide (x1.2.2 = 0)) = true), (true = true), (true = true), (true = true), (true = true), (true = true), (true = true), (true = true), (true = true), (true = true), (true = true), (true = true), (true = true), (true = true)] (by kernel_rfl) (.cons hg2 (.cons hg2 (.cons hg2 (.cons rfl (.cons rfl (.cons rfl (.cons rfl (.cons rfl (.cons rfl (.cons rfl (.cons rfl (.cons rfl (.cons rfl (.cons rfl (.cons rfl (.cons rfl .nil)))))))))))))))) (Sub.refl _)
    · replace ht := ite_f ht hg2
      rcases Bool.eq_false_or_eq_true (!decide (x1.2.1 = 0)) with hg3 | hg3
      · replace ht := ite_t ht hg3
        have e := Option.some.inj ht
        subst e
        exact RegTo.mk [(.n, .e), (.n, .e), (.n, .e), (.y, .e), (.y, .e), (.n, (.pk false)), (.n, .e), (.s, .e), (.s, .e), (.s, .e), (.n, (.pk true)), (.n, .e), (.s, .e), (.s, .e), (.s, .e), (.s, .e), (.s, .e), (.n, .e), (.n, .e), (.s, .e), (.s, .e), (.s, .e), (.s, .e), (.s, .e), (.n, .e)] ({ tm := [(1, .osl 0 0 (List.map enc_api_Attr x1.1).length), (36, .pv (.bool true))], hp := [(0, some (.p (some 3) (List.map enc_api_Attr x1.1)))], nx := 1 }) [((!decide (x1.2.2 = 0)) = false), ((!decide (x1.2.2 = 0)) = false), ((!decide (x1.2.2 = 0)) = false), ((!decide (x1.2.1 = 0)) = true), ((!decide (x1.2.1 = 0)) = true), ((!decide (x1.2.1 = 0)) = true), ((!decide (x1.2.1 = 0)) = true), (true = true), (true = true), (true = true), (true = true), (true = true), (true = true), (true = true), (true = true), (true = true), (true = true)] (by kernel_rfl) (.cons hg2 (.cons hg2 (.cons hg2 (.cons hg3 (.cons hg3 (.cons hg3 (.cons hg3 (.cons rfl (.cons rfl (.cons rfl (.cons rfl (.cons rfl (.cons rfl (.cons rfl (.cons rfl (.cons rfl (.cons rfl .nil))))))))))))))))) (Sub.refl _)
      · replace ht := ite_f ht hg3
        rcases Bool.eq_false_or_eq_true (!decide ((List.length x1.1 : Int) = 3)) with hg4 | hg4
        · replace ht := ite_t ht hg4
          have e := Option.some.inj ht
          subst e
          exact RegTo.mk [(.n, .e), (.n, .e), (.n, .e), (.y, .e), (.y, .e), (.n, (.pk false)), (.n, .e), (.y, .e), (.y, (.len (List.length x1.1 : Int))), (.y, .e), (.n, (.pk false)), (.n, .e), (.s, .e), (.s, .e), (.s, .e), (.s, .e), (.s, .e), (.n, (.pk true)), (.n, .e), (.s, .e), (.s, .e), (.s, .e), (.s, .e), (.s, .e), (.n, .e)] ({ tm := [(1, .osl 0 0 (List.map enc_api_Attr x1.1).length), (36, .pv (.bool true))], hp := [(0, some (.p (some 3) (List.map enc_api_Attr x1.1)))], nx := 1 }) [((!decide (x1.2.2 = 0)) = false), ((!decide (x1.2.2 = 0)) = false), ((!decide (x1.2.2 = 0)) = false), ((!decide (x1.2.1 = 0)) = false), ((!decide (x1.2.1 = 0)) = false), ((((List.map enc_api_Attr x1.1).length : Nat) : Int) = (List.length x1.1 : Int)), ((!decide (x1.2.1 = 0)) = false), ((!decide (x1.2.1 = 0)) = false), ((!decide ((List.length x1.1 : Int) = 3)) = true), ((!decide ((List.length x1.1 : Int) = 3)) = true), ((!decide ((List.length x1.1 : Int) = 3)) = true), ((!decide ((List.length x1.1 : Int) = 3)) = true), ((!decide ((List.length x1.1 : Int) = 3)) = true), ((!decide ((List.length x1.1 : Int) = 3)) = true), (true = true), (true = true), (true = true), (true = true), (true = true)] (by kernel_rfl) (.cons hg2 (.cons hg2 (.cons hg2 (.cons hg3 (.cons hg3 (.cons (by rw [List.length_map]) (.cons hg3 (.cons hg3 (.cons hg4 (.cons hg4 (.cons hg4 (.cons hg4 (.cons hg4 (.cons hg4 (.cons rfl (.cons rfl (.cons rfl (.cons rfl (.cons rfl .nil))))))))))))))))))) (Sub.refl _)
        · replace ht := ite_f ht hg4
          obtain ⟨x5, hx5, ht⟩ := bind_some ht
          rcases Bool.eq_false_or_eq_true (!decide (x5.Value = [105, 116, 39, 115, 32, 109, 101])) with hg6 | hg6
          · replace ht := ite_t ht hg6
            have e := Option.some.inj ht
            subst e
            exact RegTo.mk [(.n, .e), (.n, .e), (.n, .e), (.y, .e), (.y, .e), (.n, (.pk false)), (.n, .e), (.y, .e), (.y, (.len (List.length x1.1 : Int))), (.y, .e), (.n, (.pk false)), (.n, .e), (.y, .e), (.y, .rAt), (.y, .e), (.y, (.ld (enc_api_Attr x5))), (.y, .e), (.n, (.pk false)), (.n, .e), (.s, .e), (.s, .e), (.s, .e), (.s, .e), (.s, .e), (.n, (.pk true))] ({ tm := [(1, .osl 0 0 (List.map enc_api_Attr x1.1).length), (36, .pv (.bool true))], hp := [(0, some (.p (some 3) (List.map enc_api_Attr x1.1)))], nx := 1 }) [((!decide (x1.2.2 = 0)) = false), ((!decide (x1.2.2 = 0)) = false), ((!decide (x1.2.2 = 0)) = false), ((!decide (x1.2.1 = 0)) = false), ((!decide (x1.2.1 = 0)) = false), ((((List.map enc_api_Attr x1.1).length : Nat) : Int) = (List.length x1.1 : Int)), ((!decide (x1.2.1 = 0)) = false), ((!decide (x1.2.1 = 0)) = false), ((!decide ((List.length x1.1 : Int) = 3)) = false), ((!decide ((List.length x1.1 : Int) = 3)) = false), (0 ≤ (1 : Int) ∧ Int.toNat 1 < (List.map enc_api_Attr x1.1).length), ((!decide ((List.length x1.1 : Int) = 3)) = false), ((!decide ((List.length x1.1 : Int) = 3)) = false), ((List.map enc_api_Attr x1.1)[(0 + Int.toNat 1)]? = some (enc_api_Attr x5)), ((!decide ((List.length x1.1 : Int) = 3)) = false), ((!decide ((List.length x1.1 : Int) = 3)) = false), ((!decide (x5.Value = [105, 116, 39, 115, 32, 109, 101])) = true), ((!decide (x5.Value = [105, 116, 39, 115, 32, 109, 101])) = true), ((!decide (x5.Value = [105, 116, 39, 115, 32, 109, 101])) = true), ((!decide (x5.Value = [105, 116, 39, 115, 32, 109, 101])) = true), ((!decide (x5.Value = [105, 116, 39, 115, 32, 109, 101])) = true), ((!decide (x5.Value = [105, 116, 39, 115, 32, 109, 101])) = true)] (by kernel_rfl) (.cons hg2 (.cons hg2 (.cons hg2 (.cons hg3 (.cons hg3 (.cons (by rw [List.length_map]) (.cons hg3 (.cons hg3 (.cons hg4 (.cons hg4 (.cons (rAt_ob hx5 (by simp)) (.cons hg4 (.cons hg4 (.cons (ownAt hx5) (.cons hg4 (.cons hg4 (.cons hg6 (.cons hg6 (.cons hg6 (.cons hg6 (.cons hg6 (.cons hg6 .nil)))))))))))))))))))))) (Sub.refl _)
          · replace ht := ite_f ht hg6
            obtain ⟨x7, hx7, ht⟩ := bind_some ht
            have e := Option.some.inj ht
            subst e
            exact RegTo.mk [(.n, .e), (.n, .e), (.n, .e), (.y, .e), (.y, .e), (.n, (.pk false)), (.n, .e), (.y, .e), (.y, (.len (List.length x1.1 : Int))), (.y, .e), (.n, (.pk false)), (.n, .e), (.y, .e), (.y, .rAt), (.y, .e), (.y, (.ld (enc_api_Attr x5))), (.y, .e), (.n, (.pk false)), (.n, .e), (.y, .e), (.y, .rAt), (.y, .e), (.y, (.ld (enc_api_Attr x7))), (.y, .e), (.n, (.pk false))] ({ tm := [(1, .osl 0 0 (List.map enc_api_Attr x1.1).length), (36, .pv (.bool (!x7.Query)))], hp := [(0, some (.p (some 3) (List.map enc_api_Attr x1.1)))], nx := 1 }) [((!decide (x1.2.2 = 0)) = false), ((!decide (x1.2.2 = 0)) = false), ((!decide (x1.2.2 = 0)) = false), ((!decide (x1.2.1 = 0)) = false), ((!decide (x1.2.1 = 0)) = false), ((((List.map enc_api_Attr x1.1).length : Nat) : Int) = (List.length x1.1 : Int)), ((!decide (x1.2.1 = 0)) = false), ((!decide (x1.2.1 = 0)) = false), ((!decide ((List.length x1.1 : Int) = 3)) = false), ((!decide ((List.length x1.1 : Int) = 3)) = false), (0 ≤ (1 : Int) ∧ Int.toNat 1 < (List.map enc_api_Attr x1.1).length), ((!decide ((List.length x1.1 : Int) = 3)) = false), ((!decide ((List.length x1.1 : Int) = 3)) = false), ((List.map enc_api_Attr x1.1)[(0 + Int.toNat 1)]? = some (enc_api_Attr x5)), ((!decide ((List.length x1.1 : Int) = 3)) = false), ((!decide ((List.length x1.1 : Int) = 3)) = false), ((!decide (x5.Value = [105, 116, 39, 115, 32, 109, 101])) = false), ((!decide (x5.Value = [105, 116, 39, 115, 32, 109, 101])) = false), (0 ≤ (2 : Int) ∧ Int.toNat 2 < (List.map enc_api_Attr x1.1).length), ((!decide (x5.Value = [105, 116, 39, 115, 32, 109, 101])) = false), ((!decide (x5.Value = [105, 116, 39, 115, 32, 109, 101])) = false), ((List.map enc_api_Attr x1.1)[(0 + Int.toNat 2)]? = some (enc_api_Attr x7)), ((!decide (x5.Value = [105, 116, 39, 115, 32, 109, 101])) = false), ((!decide (x5.Value = [105, 116, 39, 115, 32, 109, 101])) = false)] (by kernel_rfl) (.cons hg2 (.cons hg2 (.cons hg2 (.cons hg3 (.cons hg3 (.cons (by rw [List.length_map]) (.cons hg3 (.cons hg3 (.cons hg4 (.cons hg4 (.cons (rAt_ob hx5 (by simp)) (.cons hg4 (.cons hg4 (.cons (ownAt hx5) (.cons hg4 (.cons hg4 (.cons hg6 (.cons hg6 (.cons (rAt_ob hx7 (by simp)) (.cons hg6 (.cons hg6 (.cons (ownAt hx7) (.cons hg6 (.cons hg6 .nil)))))))))))))))))))))))) (Sub.refl _)
  · clear ht
    refine x_cond _ rfl (fun hc9 => ?_) (fun hc9 => ?_)
    · replace h := ite_t h hc9
      refine x_rg (RegTo.mk [(.n, .e)] ({ tm := [(0, .pv (.bool false))], hp := [], nx := 0 }) [] (by kernel_rfl) .nil (Sub.refl _)) ?_
      refine x_toret ?_
      refine x_tr ?_
      obtain rfl := Option.some.inj h
      exact x_ret (.bool false) [] [] (by kernel_rfl) .nil (by decide) (.refl _) (fun _ => rfl)
    · replace h := ite_f h hc9
      refine x_kw ({ tm := [(1, .osl 0 0 (List.map enc_api_Attr x1.1).length)], hp := [(0, some (.p (some 3) (List.map enc_api_Attr x1.1)))], nx := 1 }) (by kernel_rfl) (Sub.refl _) ?_
      refine x_skip ?_
      refine x_tn ?_
      obtain ⟨x10, hx10, h⟩ := bind_some h
      refine x_rg (RegTo.mk [(.n, .e), (.n, (.call [] [.sl (some 3) (List.map enc_api_Attr x1.1)] (.tup [.str x10.1, .int .i64 x10.2]) true)), (.n, .e), (.n, .e), (.n, .e), (.n, .e), (.n, .e)] ({ tm := [(1, .osl 0 0 (List.map enc_api_Attr x1.1).length), (3, .pv (.int .i64 x10.2)), (4, .pv (.str x10.1))], hp := [(0, some (.p (some 3) (List.map enc_api_Attr x1.1)))], nx := 1 }) [(LesA [.sl (some 3) (List.take (List.map enc_api_Attr x1.1).length (List.drop 0 (List.map enc_api_Attr x1.1)))] [.sl (some 3) (List.map enc_api_Attr x1.1)]), (CallOK Tryd.prog 15 [.sl (some 3) (List.map enc_api_Attr x1.1)] (.tup [.str x10.1, .int .i64 x10.2]) true), (0 + (List.map enc_api_Attr x1.1).length ≤ List.length (List.map enc_api_Attr x1.1))] (by kernel_rfl) (.cons (.cons (.of_eq (by rw [List.drop_zero, List.take_length])) .nil) (.cons (c15 hx10) (.cons (by simp) .nil))) (Sub.refl _)) ?_
      obtain ⟨x11, hx11, h⟩ := bind_some h
      refine x_rg (RegTo.mk [(.n, .e), (.n, (.call [] [.sl (some 3) (List.map enc_api_Attr x1.1), .str [117, 115, 101, 114]] (.tup [.str x11.1, .bool x11.2]) true)), (.n, .e), (.n, .e), (.n, .e), (.n, .e), (.n, .e)] ({ tm := [(1, .osl 0 0 (List.map enc_api_Attr x1.1).length), (3, .pv (.int .i64 x10.2)), (4, .pv (.str x10.1)), (5, .pv (.str x11.1)), (6, .pv (.bool x11.2))], hp := [(0, some (.p (some 3) (List.map enc_api_Attr x1.1)))], nx := 1 }) [(LesA [.sl (some 3) (List.take (List.map enc_api_Attr x1.1).length (List.drop 0 (List.map enc_api_Attr x1.1))), .str [117, 115, 101, 114]] [.sl (some 3) (List.map enc_api_Attr x1.1), .str [117, 115, 101, 114]]), (CallOK Tryd.prog 24 [.sl (some 3) (List.map enc_api_Attr x1.1), .str [117, 115, 101, 114]] (.tup [.str x11.1, .bool x11.2]) true), (0 + (List.map enc_api_Attr x1.1).length ≤ List.length (List.map enc_api_Attr x1.1))] (by kernel_rfl) (.cons (.cons (.of_eq (by rw [List.drop_zero, List.take_length])) (.cons (.refl _) .nil)) (.cons (c24 hx11) (.cons (by simp) .nil))) (Sub.refl _)) ?_
      obtain ⟨t22, ht, h⟩ := bind_some h
      refine x_rg (st2 := { tm := [(0, .pv (.bool t22))], hp := [], nx := 0 }) ?_ ?_
      · rcases Bool.eq_false_or_eq_true (decide (x10.1 = [117, 115, 101, 114, 61, 97, 110, 110, 32, 33, 115, 101, 99, 114, 101, 116, 61, 39, 105, 116, 39, 39, 115, 32, 109, 101, 39, 32, 100, 111, 109, 63])) with hg12 | hg12
        · replace ht := ite_t ht hg12
          rcases Bool.eq_false_or_eq_true (decide (x10.2 = 0)) with hg13 | hg13
          · replace ht := ite_t ht hg13
            rcases Bool.eq_false_or_eq_true (decide (x11.1 = [97, 110, 110])) with hg14 | hg14
            · replace ht := ite_t ht hg14
              rcases Bool.eq_false_or_eq_true x11.2 with hg15 | hg15
              · replace ht := ite_t ht hg15
                obtain ⟨x16, hx16, ht⟩ := bind_some ht
                rcases Bool.eq_false_or_eq_true (decide ((List.length x16 : Int) = 2)) with hg17 | hg17
                · replace ht := ite_t ht hg17
                  obtain ⟨x18, hx18, ht⟩ := bind_some ht
                  obtain ⟨x19, hx19, ht⟩ := bind_some ht
                  rcases Bool.eq_false_or_eq_true x19 with hg20 | hg20
                  · replace ht := ite_t ht hg20
                    obtain ⟨x21, hx21, ht⟩ := bind_some ht
                    have e := Option.some.inj ht
                    subst e
                    exact RegTo.mk [(.n, .e), (.n, .e), (.n, .e), (.y, .e), (.y, .e), (.n, (.pk true)), (.n, .e), (.y, .e), (.y, .e), (.n, (.pk true)), (.n, .e), (.y, .e), (.n, (.pk true)), (.n, .e), (.y, .e), (.y, (.call [] [.sl (some 3) (List.map enc_api_Attr x1.1)] (.usl (some 3) (List.map enc_api_Attr x16)) true)), (.y, (.len (List.length x16 : Int))), (.y, .e), (.n, (.pk true)), (.n, .e), (.y, .e), (.y, .e), (.y, .cutR), (.y, (.call [] [.sl (some 3) (List.map enc_api_Attr x1.1), .sl (some 3) (List.map enc_api_Attr x18)] (.bool x19) true)), (.n, (.pk true)), (.n, .e), (.y, .e), (.y, .e), (.y, (.call [] [.sl (some 3) (List.map enc_api_Attr x1.1), .sl (some 3) (List.map enc_api_Attr x1.1)] (.bool x21) true)), (.y, .e), (.n, (.pk true)), (.n, .e)] ({ tm := [(0, .pv (.bool (!x21)))], hp := [], nx := 0 }) [((decide (x10.1 = [117, 115, 101, 114, 61, 97, 110, 110, 32, 33, 115, 101, 99, 114, 101, 116, 61, 39, 105, 116, 39, 39, 115, 32, 109, 101, 39, 32, 100, 111, 109, 63])) = true), ((decide (x10.1 = [117, 115, 101, 114, 61, 97, 110, 110, 32, 33, 115, 101, 99, 114, 101, 116, 61, 39, 105, 116, 39, 39, 115, 32, 109, 101, 39, 32, 100, 111, 109, 63])) = true), ((decide (x10.1 = [117, 115, 101, 114, 61, 97, 110, 110, 32, 33, 115, 101, 99, 114, 101, 116, 61, 39, 105, 116, 39, 39, 115, 32, 109, 101, 39, 32, 100, 111, 109, 63])) = true), ((decide (x10.2 = 0)) = true), ((decide (x10.2 = 0)) = true), ((decide (x10.2 = 0)) = true), ((decide (x11.1 = [97, 110, 110])) = true), ((decide (x11.1 = [97, 110, 110])) = true), (x11.2 = true), (x11.2 = true), (LesA [.sl (some 3) (List.take (List.map enc_api_Attr x1.1).length (List.drop 0 (List.map enc_api_Attr x1.1)))] [.sl (some 3) (List.map enc_api_Attr x1.1)]), (CallOK Tryd.prog 22 [.sl (some 3) (List.map enc_api_Attr x1.1)] (.usl (some 3) (List.map enc_api_Attr x16)) true), (0 + (List.map enc_api_Attr x1.1).length ≤ List.length (List.map enc_api_Attr x1.1)), (x11.2 = true), ((((List.map enc_api_Attr x16).length : Nat) : Int) = (List.length x16 : Int)), (x11.2 = true), (x11.2 = true), ((decide ((List.length x16 : Int) = 2)) = true), ((decide ((List.length x16 : Int) = 2)) = true), ((decide ((List.length x16 : Int) = 2)) = true), (0 ≤ (0 : Int) ∧ (0 : Int) ≤ 1 ∧ 1 ≤ (((List.map enc_api_Attr x1.1).length : Nat) : Int)), ((decide ((List.length x16 : Int) = 2)) = true), (LesA [.sl (some 3) (List.take (List.map enc_api_Attr x1.1).length (List.drop 0 (List.map enc_api_Attr x1.1))), .sl (some 3) (List.take (Int.toNat 1 - Int.toNat 0) (List.drop (0 + Int.toNat 0) (List.map enc_api_Attr x1.1)))] [.sl (some 3) (List.map enc_api_Attr x1.1), .sl (some 3) (List.map enc_api_Attr x18)]), (CallOK Tryd.prog 20 [.sl (some 3) (List.map enc_api_Attr x1.1), .sl (some 3) (List.map enc_api_Attr x18)] (.bool x19) true), (0 + (List.map enc_api_Attr x1.1).length ≤ List.length (List.map enc_api_Attr x1.1)), ((0 + Int.toNat 0) + (Int.toNat 1 - Int.toNat 0) ≤ List.length (List.map enc_api_Attr x1.1)), ((decide ((List.length x16 : Int) = 2)) = true), (x19 = true), (x19 = true), (x19 = true), (LesA [.sl (some 3) (List.take (List.map enc_api_Attr x1.1).length (List.drop 0 (List.map enc_api_Attr x1.1))), .sl (some 3) (List.take (List.map enc_api_Attr x1.1).length (List.drop 0 (List.map enc_api_Attr x1.1)))] [.sl (some 3) (List.map enc_api_Attr x1.1), .sl (some 3) (List.map enc_api_Attr x1.1)]), (CallOK Tryd.prog 20 [.sl (some 3) (List.map enc_api_Attr x1.1), .sl (some 3) (List.map enc_api_Attr x1.1)] (.bool x21) true), (0 + (List.map enc_api_Attr x1.1).length ≤ List.length (List.map enc_api_Attr x1.1)), (0 + (List.map enc_api_Attr x1.1).length ≤ List.length (List.map enc_api_Attr x1.1)), (x19 = true), (x19 = true)] (by kernel_rfl) (.cons hg12 (.cons hg12 (.cons hg12 (.cons hg13 (.cons hg13 (.cons hg13 (.cons hg14 (.cons hg14 (.cons hg15 (.cons hg15 (.cons (.cons (.of_eq (by rw [List.drop_zero, List.take_length])) .nil) (.cons (c22 hx16) (.cons (by simp) (.cons hg15 (.cons (by rw [List.length_map]) (.cons hg15 (.cons hg15 (.cons hg17 (.cons hg17 (.cons hg17 (.cons (cutR_ob hx18 (by simp)) (.cons hg17 (.cons (.cons (.of_eq (by rw [List.drop_zero, List.take_length])) (.cons (.of_eq (congrArg (PV.sl (some 3)) (cutR_arg hx18))) .nil)) (.cons (c20 hx19) (.cons (by simp) (.cons (cutR_bound hx18) (.cons hg17 (.cons hg20 (.cons hg20 (.cons hg20 (.cons (.cons (.of_eq (by rw [List.drop_zero, List.take_length])) (.cons (.of_eq (by rw [List.drop_zero, List.take_length])) .nil)) (.cons (c20 hx21) (.cons (by simp) (.cons (by simp) (.cons hg20 (.cons hg20 .nil)))))))))))))))))))))))))))))))))))) (Sub.refl _)
                  · replace ht := ite_f ht hg20
                    have e := Option.some.inj ht
                    subst e
                    exact RegTo.mk [(.n, .e), (.n, .e), (.n, .e), (.y, .e), (.y, .e), (.n, (.pk true)), (.n, .e), (.y, .e), (.y, .e), (.n, (.pk true)), (.n, .e), (.y, .e), (.n, (.pk true)), (.n, .e), (.y, .e), (.y, (.call [] [.sl (some 3) (List.map enc_api_Attr x1.1)] (.usl (some 3) (List.map enc_api_Attr x16)) true)), (.y, (.len (List.length x16 : Int))), (.y, .e), (.n, (.pk true)), (.n, .e), (.y, .e), (.y, .e), (.y, .cutR), (.y, (.call [] [.sl (some 3) (List.map enc_api_Attr x1.1), .sl (some 3) (List.map enc_api_Attr x18)] (.bool x19) true)), (.n, (.pk true)), (.n, .e), (.s, .e), (.s, .e), (.s, .e), (.s, .e), (.n, (.pk false)), (.n, .e)] ({ tm := [(0, .pv (.bool false))], hp := [], nx := 0 }) [((decide (x10.1 = [117, 115, 101, 114, 61, 97, 110, 110, 32, 33, 115, 101, 99, 114, 101, 116, 61, 39, 105, 116, 39, 39, 115, 32, 109, 101, 39, 32, 100, 111, 109, 63])) = true), ((decide (x10.1 = [117, 115, 101, 114, 61, 97, 110, 110, 32, 33, 115, 101, 99, 114, 101, 116, 61, 39, 105, 116, 39, 39, 115, 32, 109, 101, 39, 32, 100, 111, 109, 63])) = true), ((decide (x10.1 = [117, 115, 101, 114, 61, 97, 110, 110, 32, 33, 115, 101, 99, 114, 101, 116, 61, 39, 105, 116, 39, 39, 115, 32, 109, 101, 39, 32, 100, 111, 109, 63])) = true), ((decide (x10.2 = 0)) = true), ((decide (x10.2 = 0)) = true), ((decide (x10.2 = 0)) = true), ((decide (x11.1 = [97, 110, 110])) = true), ((decide (x11.1 = [97, 110, 110])) = true), (x11.2 = true), (x11.2 = true), (LesA [.sl (some 3) (List.take (List.map enc_api_Attr x1.1).length (List.drop 0 (List.map enc_api_Attr x1.1)))] [.sl (some 3) (List.map enc_api_Attr x1.1)]), (CallOK Tryd.prog 22 [.sl (some 3) (List.map enc_api_Attr x1.1)] (.usl (some 3) (List.map enc_api_Attr x16)) true), (0 + (List.map enc_api_Attr x1.1).length ≤ List.length (List.map enc_api_Attr x1.1)), (x11.2 = true), ((((List.map enc_api_Attr x16).length : Nat) : Int) = (List.length x16 : Int)), (x11.2 = true), (x11.2 = true), ((decide ((List.length x16 : Int) = 2)) = true), ((decide ((List.length x16 : Int) = 2)) = true), ((decide ((List.length x16 : Int) = 2)) = true), (0 ≤ (0 : Int) ∧ (0 : Int) ≤ 1 ∧ 1 ≤ (((List.map enc_api_Attr x1.1).length : Nat) : Int)), ((decide ((List.length x16 : Int) = 2)) = true), (LesA [.sl (some 3) (List.take (List.map enc_api_Attr x1.1).length (List.drop 0 (List.map enc_api_Attr x1.1))), .sl (some 3) (List.take (Int.toNat 1 - Int.toNat 0) (List.drop (0 + Int.toNat 0) (List.map enc_api_Attr x1.1)))] [.sl (some 3) (List.map enc_api_Attr x1.1), .sl (some 3) (List.map enc_api_Attr x18)]), (CallOK Tryd.prog 20 [.sl (some 3) (List.map enc_api_Attr x1.1), .sl (some 3) (List.map enc_api_Attr x18)] (.bool x19) true), (0 + (List.map enc_api_Attr x1.1).length ≤ List.length (List.map enc_api_Attr x1.1)), ((0 + Int.toNat 0) + (Int.toNat 1 - Int.toNat 0) ≤ List.length (List.map enc_api_Attr x1.1)), ((decide ((List.length x16 : Int) = 2)) = true), (x19 = false), (x19 = false), (x19 = false), (x19 = false), (x19 = false)] (by kernel_rfl) (.cons hg12 (.cons hg12 (.cons hg12 (.cons hg13 (.cons hg13 (.cons hg13 (.cons hg14 (.cons hg14 (.cons hg15 (.cons hg15 (.cons (.cons (.of_eq (by rw [List.drop_zero, List.take_length])) .nil) (.cons (c22 hx16) (.cons (by simp) (.cons hg15 (.cons (by rw [List.length_map]) (.cons hg15 (.cons hg15 (.cons hg17 (.cons hg17 (.cons hg17 (.cons (cutR_ob hx18 (by simp)) (.cons hg17 (.cons (.cons (.of_eq (by rw [List.drop_zero, List.take_length])) (.cons (.of_eq (congrArg (PV.sl (some 3)) (cutR_arg hx18))) .nil)) (.cons (c20 hx19) (.cons (by simp) (.cons (cutR_bound hx18) (.cons hg17 (.cons hg20 (.cons hg20 (.cons hg20 (.cons hg20 (.cons hg20 .nil)))))))))))))))))))))))))))))))) (Sub.refl _)
                · replace ht := ite_f ht hg17
                  have e := Option.some.inj ht
                  subst e
                  exact RegTo.mk [(.n, .e), (.n, .e), (.n, .e), (.y, .e), (.y, .e), (.n, (.pk true)), (.n, .e), (.y, .e), (.y, .e), (.n, (.pk true)), (.n, .e), (.y, .e), (.n, (.pk true)), (.n, .e), (.y, .e), (.y, (.call [] [.sl (some 3) (List.map enc_api_Attr x1.1)] (.usl (some 3) (List.map enc_api_Attr x16)) true)), (.y, (.len (List.length x16 : Int))), (.y, .e), (.n, (.pk true)), (.n, .e), (.s, .e), (.s, .e), (.s, .e), (.s, .e), (.n, (.pk false)), (.n, .e), (.s, .e), (.s, .e), (.s, .e), (.s, .e), (.n, .e), (.n, .e)] ({ tm := [(0, .pv (.bool false))], hp := [], nx := 0 }) [((decide (x10.1 = [117, 115, 101, 114, 61, 97, 110, 110, 32, 33, 115, 101, 99, 114, 101, 116, 61, 39, 105, 116, 39, 39, 115, 32, 109, 101, 39, 32, 100, 111, 109, 63])) = true), ((decide (x10.1 = [117, 115, 101, 114, 61, 97, 110, 110, 32, 33, 115, 101, 99, 114, 101, 116, 61, 39, 105, 116, 39, 39, 115, 32, 109, 101, 39, 32, 100, 111, 109, 63])) = true), ((decide (x10.1 = [117, 115, 101, 114, 61, 97, 110, 110, 32, 33, 115, 101, 99, 114, 101, 116, 61, 39, 105, 116, 39, 39, 115, 32, 109, 101, 39, 32, 100, 111, 109, 63])) = true), ((decide (x10.2 = 0)) = true), ((decide (x10.2 = 0)) = true), ((decide (x10.2 = 0)) = true), ((decide (x11.1 = [97, 110, 110])) = true), ((decide (x11.1 = [97, 110, 110])) = true), (x11.2 = true), (x11.2 = true), (LesA [.sl (some 3) (List.take (List.map enc_api_Attr x1.1).length (List.drop 0 (List.map enc_api_Attr x1.1)))] [.sl (some 3) (List.map enc_api_Attr x1.1)]), (CallOK Tryd.prog 22 [.sl (some 3) (List.map enc_api_Attr x1.1)] (.usl (some 3) (List.map enc_api_Attr x16)) true), (0 + (List.map enc_api_Attr x1.1).length ≤ List.length (List.map enc_api_Attr x1.1)), (x11.2 = true), ((((List.map enc_api_Attr x16).length : Nat) : Int) = (List.length x16 : Int)), (x11.2 = true), (x11.2 = true), ((decide ((List.length x16 : Int) = 2)) = false), ((decide ((List.length x16 : Int) = 2)) = false), ((decide ((List.length x16 : Int) = 2)) = false), ((decide ((List.length x16 : Int) = 2)) = false), ((decide ((List.length x16 : Int) = 2)) = false), (false = false), (false = false), (false = false), (false = false)] (by kernel_rfl) (.cons hg12 (.cons hg12 (.cons hg12 (.cons hg13 (.cons hg13 (.cons hg13 (.cons hg14 (.cons hg14 (.cons hg15 (.cons hg15 (.cons (.cons (.of_eq (by rw [List.drop_zero, List.take_length])) .nil) (.cons (c22 hx16) (.cons (by simp) (.cons hg15 (.cons (by rw [List.length_map]) (.cons hg15 (.cons hg15 (.cons hg17 (.cons hg17 (.cons hg17 (.cons hg17 (.cons hg17 (.cons rfl (.cons rfl (.cons rfl (.cons rfl .nil)))))))))))))))))))))))))) (Sub.refl _)
              · replace ht := ite_f ht hg15
                have e := Option.some.inj ht
                subst e
                exact RegTo.mk [(.n, .e), (.n, .e), (.n, .e), (.y, .e), (.y, .e), (.n, (.pk true)), (.n, .e), (.y, .e), (.y, .e), (.n, (.pk true)), (.n, .e), (.y, .e), (.n, (.pk true)), (.n, .e), (.s, .e), (.s, .e), (.s, .e), (.s, .e), (.n, (.pk false)), (.n, .e), (.s, .e), (.s, .e), (.s, .e), (.s, .e), (.n, .e), (.n, .e), (.s, .e), (.s, .e), (.s, .e), (.s, .e), (.n, .e), (.n, .e)] ({ tm := [(0, .pv (.bool false))], hp := [], nx := 0 }) [((decide (x10.1 = [117, 115, 101, 114, 61, 97, 110, 110, 32, 33, 115, 101, 99, 114, 101, 116, 61, 39, 105, 116, 39, 39, 115, 32, 109, 101, 39, 32, 100, 111, 109, 63])) = true), ((decide (x10.1 = [117, 115, 101, 114, 61, 97, 110, 110, 32, 33, 115, 101, 99, 114, 101, 116, 61, 39, 105, 116, 39, 39, 115, 32, 109, 101, 39, 32, 100, 111, 109, 63])) = true), ((decide (x10.1 = [117, 115, 101, 114, 61, 97, 110, 110, 32, 33, 115, 101, 99, 114, 101, 116, 61, 39, 105, 116, 39, 39, 115, 32, 109, 101, 39, 32, 100, 111, 109, 63])) = true), ((decide (x10.2 = 0)) = true), ((decide (x10.2 = 0)) = true), ((decide (x10.2 = 0)) = true), ((decide (x11.1 = [97, 110, 110])) = true), ((decide (x11.1 = [97, 110, 110])) = true), (x11.2 = false), (x11.2 = false), (x11.2 = false), (x11.2 = false), (x11.2 = false), (false = false), (false = false), (false = false), (false = false), (false = false), (false = false), (false = false), (false = false)] (by kernel_rfl) (.cons hg12 (.cons hg12 (.cons hg12 (.cons hg13 (.cons hg13 (.cons hg13 (.cons hg14 (.cons hg14 (.cons hg15 (.cons hg15 (.cons hg15 (.cons hg15 (.cons hg15 (.cons rfl (.cons rfl (.cons rfl (.cons rfl (.cons rfl (.cons rfl (.cons rfl (.cons rfl .nil))))))))))))))))))))) (Sub.refl _)
            · replace ht := ite_f ht hg14
              have e := Option.some.inj ht
              subst e
              exact RegTo.mk [(.n, .e), (.n, .e), (.n, .e), (.y, .e), (.y, .e), (.n, (.pk true)), (.n, .e), (.y, .e), (.y, .e), (.n, (.pk true)), (.n, .e), (.s, .e), (.n, (.pk false)), (.n, .e), (.s, .e), (.s, .e), (.s, .e), (.s, .e), (.n, .e), (.n, .e), (.s, .e), (.s, .e), (.s, .e), (.s, .e), (.n, .e), (.n, .e), (.s, .e), (.s, .e), (.s, .e), (.s, .e), (.n, .e), (.n, .e)] ({ tm := [(0, .pv (.bool false))], hp := [], nx := 0 }) [((decide (x10.1 = [117, 115, 101, 114, 61, 97, 110, 110, 32, 33, 115, 101, 99, 114, 101, 116, 61, 39, 105, 116, 39, 39, 115, 32, 109, 101, 39, 32, 100, 111, 109, 63])) = true), ((decide (x10.1 = [117, 115, 101, 114, 61, 97, 110, 110, 32, 33, 115, 101, 99, 114, 101, 116, 61, 39, 105, 116, 39, 39, 115, 32, 109, 101, 39, 32, 100, 111, 109, 63])) = true), ((decide (x10.1 = [117, 115, 101, 114, 61, 97, 110, 110, 32, 33, 115, 101, 99, 114, 101, 116, 61, 39, 105, 116, 39, 39, 115, 32, 109, 101, 39, 32, 100, 111, 109, 63])) = true), ((decide (x10.2 = 0)) = true), ((decide (x10.2 = 0)) = true), ((decide (x10.2 = 0)) = true), ((decide (x11.1 = [97, 110, 110])) = false), ((decide (x11.1 = [97, 110, 110])) = false), (false = false), (false = false), (false = false), (false = false), (false = false), (false = false), (false = false), (false = false), (false = false), (false = false), (false = false), (false = false)] (by kernel_rfl) (.cons hg12 (.cons hg12 (.cons hg12 (.cons hg13 (.cons hg13 (.cons hg13 (.cons hg14 (.cons hg14 (.cons rfl (.cons rfl (.cons rfl (.cons rfl (.cons rfl (.cons rfl (.cons rfl (.cons rfl (.cons rfl (.cons rfl (.cons rfl (.cons rfl .nil)))))))))))))))))))) (Sub.refl _)
          · replace ht := ite_f ht hg13
            have e := Option.some.inj ht
            subst e
            exact RegTo.mk [(.n, .e), (.n, .e), (.n, .e), (.y, .e), (.y, .e), (.n, (.pk true)), (.n, .e), (.s, .e), (.s, .e), (.n, (.pk false)), (.n, .e), (.s, .e), (.n, .e), (.n, .e), (.s, .e), (.s, .e), (.s, .e), (.s, .e), (.n, .e), (.n, .e), (.s, .e), (.s, .e), (.s, .e), (.s, .e), (.n, .e), (.n, .e), (.s, .e), (.s, .e), (.s, .e), (.s, .e), (.n, .e), (.n, .e)] ({ tm := [(0, .pv (.bool false))], hp := [], nx := 0 }) [((decide (x10.1 = [117, 115, 101, 114, 61, 97, 110, 110, 32, 33, 115, 101, 99, 114, 101, 116, 61, 39, 105, 116, 39, 39, 115, 32, 109, 101, 39, 32, 100, 111, 109, 63])) = true), ((decide (x10.1 = [117, 115, 101, 114, 61, 97, 110, 110, 32, 33, 115, 101, 99, 114, 101, 116, 61, 39, 105, 116, 39, 39, 115, 32, 109, 101, 39, 32, 100, 111, 109, 63])) = true), ((decide (x10.1 = [117, 115, 101, 114, 61, 97, 110, 110, 32, 33, 115, 101, 99, 114, 101, 116, 61, 39, 105, 116, 39, 39, 115, 32, 109, 101, 39, 32, 100, 111, 109, 63])) = true), ((decide (x10.2 = 0)) = false), ((decide (x10.2 = 0)) = false), ((decide (x10.2 = 0)) = false), (false = false), (false = false), (false = false), (false = false), (false = false), (false = false), (false = false), (false = false), (false = false), (false = false), (false = false), (false = false), (false = false)] (by kernel_rfl) (.cons hg12 (.cons hg12 (.cons hg12 (.cons hg13 (.cons hg13 (.cons hg13 (.cons rfl (.cons rfl (.cons rfl (.cons rfl (.cons rfl (.cons rfl (.cons rfl (.cons rfl (.cons rfl (.cons rfl (.cons rfl (.cons rfl (.cons rfl .nil))))))))))))))))))) (Sub.refl _)
        · replace ht := ite_f ht hg12
          have e := Option.some.inj ht
          subst e
          exact RegTo.mk [(.n, .e), (.n, .e), (.n, .e), (.s, .e), (.s, .e), (.n, (.pk false)), (.n, .e), (.s, .e), (.s, .e), (.n, .e), (.n, .e), (.s, .e), (.n, .e), (.n, .e), (.s, .e), (.s, .e), (.s, .e), (.s, .e), (.n, .e), (.n, .e), (.s, .e), (.s, .e), (.s, .e), (.s, .e), (.n, .e), (.n, .e), (.s, .e), (.s, .e), (.s, .e), (.s, .e), (.n, .e), (.n, .e)] ({ tm := [(0, .pv (.bool false))], hp := [], nx := 0 }) [((decide (x10.1 = [117, 115, 101, 114, 61, 97, 110, 110, 32, 33, 115, 101, 99, 114, 101, 116, 61, 39, 105, 116, 39, 39, 115, 32, 109, 101, 39, 32, 100, 111, 109, 63])) = false), ((decide (x10.1 = [117, 115, 101, 114, 61, 97, 110, 110, 32, 33, 115, 101, 99, 114, 101, 116, 61, 39, 105, 116, 39, 39, 115, 32, 109, 101, 39, 32, 100, 111, 109, 63])) = false), ((decide (x10.1 = [117, 115, 101, 114, 61, 97, 110, 110, 32, 33, 115, 101, 99, 114, 101, 116, 61, 39, 105, 116, 39, 39, 115, 32, 109, 101, 39, 32, 100, 111, 109, 63])) = false), (false = false), (false = false), (false = false), (false = false), (false = false), (false = false), (false = false), (false = false), (false = false), (false = false), (false = false), (false = false), (false = false), (false = false), (false = false)] (by kernel_rfl) (.cons hg12 (.cons hg12 (.cons hg12 (.cons rfl (.cons rfl (.cons rfl (.cons rfl (.cons rfl (.cons rfl (.cons rfl (.cons rfl (.cons rfl (.cons rfl (.cons rfl (.cons rfl (.cons rfl (.cons rfl (.cons rfl .nil)))))))))))))))))) (Sub.refl _)
      · clear ht
        refine x_toret ?_
        obtain rfl := Option.some.inj h
        exact x_ret (.bool t22) [] [] (by kernel_rfl) .nil (by decide) (.refl _) (fun _ => rfl)

theorem c43 {name : Str} {r : Bool} (h : ref22_Secret name = some r) : CallOK Tryd.prog 43 [.str name] (.bool r) true := by
  apply ok43
  unfold ref22_Secret at h
  refine x_rg (RegTo.mk [(.n, .e)] ({ tm := [(0, .pv (.str name))], hp := [], nx := 0 }) [] (by kernel_rfl) .nil (Sub.refl _)) ?_
  obtain ⟨t3, ht, h⟩ := bind_some h
  refine x_rg (st2 := { tm := [(2, .pv (.bool t3))], hp := [], nx := 0 }) ?_ ?_
  · rcases Bool.eq_false_or_eq_true (decide (0 < (List.length name : Int))) with hg1 | hg1
    · replace ht := ite_t ht hg1
      obtain ⟨c2, hc2, ht⟩ := bind_some ht
      have e := Option.some.inj ht
      subst e
      exact RegTo.mk [(.n, .e), (.n, .e), (.n, .e), (.n, .e), (.y, .e), (.y, (.sAt c2)), (.y, .e), (.n, (.pk true)), (.n, .e)] ({ tm := [(2, .pv (.bool (decide ((c2.toNat : Int) = 33))))], hp := [], nx := 0 }) [((decide (0 < (List.length name : Int))) = true), ((decide (0 < (List.length name : Int))) = true), (strAt name 0 = some c2), ((decide (0 < (List.length name : Int))) = true), ((decide (0 < (List.length name : Int))) = true)] (by kernel_rfl) (.cons hg1 (.cons hg1 (.cons hc2 (.cons hg1 (.cons hg1 .nil))))) (Sub.refl _)
    · replace ht := ite_f ht hg1
      have e := Option.some.inj ht
      subst e
      exact RegTo.mk [(.n, .e), (.n, .e), (.n, .e), (.n, .e), (.s, .e), (.s, .e), (.s, .e), (.n, (.pk false)), (.n, .e)] ({ tm := [(2, .pv (.bool false))], hp := [], nx := 0 }) [((decide (0 < (List.length name : Int))) = false), ((decide (0 < (List.length name : Int))) = false), ((decide (0 < (List.length name : Int))) = false), ((decide (0 < (List.length name : Int))) = false)] (by kernel_rfl) (.cons hg1 (.cons hg1 (.cons hg1 (.cons hg1 .nil)))) (Sub.refl _)
  · clear ht
    refine x_toret ?_
    obtain rfl := Option.some.inj h
    exact x_ret (.bool t3) [] [] (by kernel_rfl) .nil (by decide) (.refl _) (fun _ => rfl)

theorem c50 {s_ : Str} {r : Bool} (h : ref22_Name s_ = some r) : CallOK Tryd.prog 50 [.str s_] (.bool r) true := by
  apply ok50
  unfold ref22_Name at h
  refine x_rg (RegTo.mk [(.n, .e)] ({ tm := [(0, .pv (.str s_))], hp := [], nx := 0 }) [] (by kernel_rfl) .nil (Sub.refl _)) ?_
  refine x_join (τ := Str) (fun t => ref22_Name_K1 t = some r) (fun t => { tm := [(0, .pv (.str t))], hp := [], nx := 0 }) ?_ ?_
  · rintro p2 h
    replace h : ref22_Name_K1 p2 = some r := h
    unfold ref22_Name_K1 at h
    refine x_seq ?_
    refine x_rg (RegTo.mk [(.n, .e)] ({ tm := [(0, .pv (.str p2)), (3, .pv (.int .i64 0))], hp := [], nx := 0 }) [] (by kernel_rfl) .nil (Sub.refl _)) ?_
    refine x_block ?_
    refine x_kw ({ tm := [(0, .pv (.str p2)), (3, .pv (.int .i64 0))], hp := [], nx := 0 }) (by kernel_rfl) (Sub.refl _) ?_
    refine x_loop (σ := Int) h (fun s => { tm := [(0, .pv (.str p2)), (3, .pv (.int .i64 s))], hp := [], nx := 0 }) (by kernel_rfl) ?_ ?_
    · rintro i
      kernel_rfl
    · rintro i x12 h hx12
      replace h : ref22_Name_L12 p2 i = some x12 := h
      unfold ref22_Name_L12 at h
      refine x_seq ?_
      refine x_rg (RegTo.mk [(.n, .e), (.n, .e), (.n, .e), (.n, .e)] ({ tm := [(0, .pv (.str p2)), (3, .pv (.int .i64 i)), (12, .pv (.bool (decide (i < (List.length p2 : Int)))))], hp := [], nx := 0 }) [] (by kernel_rfl) .nil (Sub.refl _)) ?_
      refine x_cond _ rfl (fun hc13 => ?_) (fun hc13 => ?_)
      · replace h := ite_t h hc13
        refine x_kw ({ tm := [(0, .pv (.str p2)), (3, .pv (.int .i64 i))], hp := [], nx := 0 }) (by kernel_rfl) (Sub.refl _) ?_
        refine x_skip ?_
        refine x_tn ?_
        refine x_seq ?_
        refine x_block ?_
        obtain ⟨c14, hc14, h⟩ := bind_some h
        obtain ⟨t17, ht, h⟩ := bind_some h
        refine x_rg (st2 := { tm := [(0, .pv (.str p2)), (3, .pv (.int .i64 i)), (4, .pv (.bool t17))], hp := [], nx := 0 }) ?_ ?_
        · rcases Bool.eq_false_or_eq_true (decide (97 ≤ (c14.toNat : Int))) with hg15 | hg15
          · replace ht := ite_t ht hg15
            obtain ⟨c16, hc16, ht⟩ := bind_some ht
            have e := Option.some.inj ht
            subst e
            exact RegTo.mk [(.n, .e), (.n, .e), (.n, (.sAt c14)), (.n, .e), (.n, .e), (.y, .e), (.y, .e), (.y, (.sAt c16)), (.y, .e), (.n, (.pk true)), (.n, .e)] ({ tm := [(0, .pv (.str p2)), (3, .pv (.int .i64 i)), (4, .pv (.bool (decide ((c16.toNat : Int) ≤ 122))))], hp := [], nx := 0 }) [(strAt p2 i = some c14), ((decide (97 ≤ (c14.toNat : Int))) = true), ((decide (97 ≤ (c14.toNat : Int))) = true), ((decide (97 ≤ (c14.toNat : Int))) = true), (strAt p2 i = some c16), ((decide (97 ≤ (c14.toNat : Int))) = true), ((decide (97 ≤ (c14.toNat : Int))) = true)] (by kernel_rfl) (.cons hc14 (.cons hg15 (.cons hg15 (.cons hg15 (.cons hc16 (.cons hg15 (.cons hg15 .nil))))))) (Sub.refl _)
          · replace ht := ite_f ht hg15
            have e := Option.some.inj ht
            subst e
            exact RegTo.mk [(.n, .e), (.n, .e), (.n, (.sAt c14)), (.n, .e), (.n, .e), (.s, .e), (.s, .e), (.s, .e), (.s, .e), (.n, (.pk false)), (.n, .e)] ({ tm := [(0, .pv (.str p2)), (3, .pv (.int .i64 i)), (4, .pv (.bool false))], hp := [], nx := 0 }) [(strAt p2 i = some c14), ((decide (97 ≤ (c14.toNat : Int))) = false), ((decide (97 ≤ (c14.toNat : Int))) = false), ((decide (97 ≤ (c14.toNat : Int))) = false), ((decide (97 ≤ (c14.toNat : Int))) = false), ((decide (97 ≤ (c14.toNat : Int))) = false)] (by kernel_rfl) (.cons hc14 (.cons hg15 (.cons hg15 (.cons hg15 (.cons hg15 (.cons hg15 .nil)))))) (Sub.refl _)
        · clear ht
          obtain ⟨t30, ht, h⟩ := bind_some h
          refine x_rg (st2 := { tm := [(0, .pv (.str p2)), (3, .pv (.int .i64 i)), (55, .pv (.bool t30))], hp := [], nx := 0 }) ?_ ?_
          · rcases Bool.eq_false_or_eq_true (!t17) with hg18 | hg18
            · replace ht := ite_t ht hg18
              rcases Bool.eq_false_or_eq_true (decide (i = 0)) with hg19 | hg19
              · replace ht := ite_t ht hg19
                have e := Option.some.inj ht
                subst e
                exact RegTo.mk [(.n, .e), (.n, .e), (.n, .e), (.y, .e), (.y, .e), (.y, .e), (.s, .e), (.s, .e), (.s, .e), (.s, .e), (.s, .e), (.u, .e), (.u, .e), (.u, .e), (.u, .e), (.s, .e), (.s, .e), (.u, .e), (.u, .e), (.u, .e), (.u, .e), (.s, .e), (.s, .e), (.u, .e), (.u, .e), (.u, .e), (.u, .e), (.s, .e), (.s, .e), (.y, (.pk true)), (.n, (.pk true))] ({ tm := [(0, .pv (.str p2)), (3, .pv (.int .i64 i)), (55, .pv (.bool true))], hp := [], nx := 0 }) [((!t17) = true), ((!t17) = true), ((!t17) = true), ((decide (i = 0)) = true), ((decide (i = 0)) = true), ((decide (i = 0)) = true), ((decide (i = 0)) = true), ((decide (i = 0)) = true), ((decide (i = 0)) = true), ((decide (i = 0)) = true), ((decide (i = 0)) = true), ((decide (i = 0)) = true), ((decide (i = 0)) = true), ((decide (i = 0)) = true), ((!t17) = true), ((decide (i = 0)) = true), ((!t17) = true)] (by kernel_rfl) (.cons hg18 (.cons hg18 (.cons hg18 (.cons hg19 (.cons hg19 (.cons hg19 (.cons hg19 (.cons hg19 (.cons hg19 (.cons hg19 (.cons hg19 (.cons hg19 (.cons hg19 (.cons hg19 (.cons hg18 (.cons hg19 (.cons hg18 .nil))))))))))))))))) (Sub.refl _)
              · replace ht := ite_f ht hg19
                obtain ⟨c20, hc20, ht⟩ := bind_some ht
                rcases Bool.eq_false_or_eq_true (decide (48 ≤ (c20.toNat : Int))) with hg21 | hg21
                · replace ht := ite_t ht hg21
                  obtain ⟨c22, hc22, ht⟩ := bind_some ht
                  rcases Bool.eq_false_or_eq_true (decide ((c22.toNat : Int) ≤ 57)) with hg23 | hg23
                  · replace ht := ite_t ht hg23
                    have e := Option.some.inj ht
                    subst e
                    exact RegTo.mk [(.n, .e), (.n, .e), (.n, .e), (.y, .e), (.y, .e), (.y, .e), (.y, .e), (.y, .e), (.y, (.sAt c20)), (.y, .e), (.y, .e), (.y, .e), (.y, .e), (.y, (.sAt c22)), (.y, .e), (.y, (.pk true)), (.y, .e), (.s, .e), (.s, .e), (.s, .e), (.s, .e), (.y, (.pk true)), (.y, .e), (.s, .e), (.s, .e), (.s, .e), (.s, .e), (.y, .e), (.y, .e), (.y, (.pk false)), (.n, (.pk true))] ({ tm := [(0, .pv (.str p2)), (3, .pv (.int .i64 i)), (55, .pv (.bool false))], hp := [], nx := 0 }) [((!t17) = true), ((!t17) = true), ((!t17) = true), ((decide (i = 0)) = false), ((decide (i = 0)) = false), ((decide (i = 0)) = false), (strAt p2 i = some c20), ((decide (i = 0)) = false), ((decide (i = 0)) = false), ((decide (48 ≤ (c20.toNat : Int))) = true), ((decide (48 ≤ (c20.toNat : Int))) = true), ((decide (48 ≤ (c20.toNat : Int))) = true), (strAt p2 i = some c22), ((decide (48 ≤ (c20.toNat : Int))) = true), ((decide (i = 0)) = false), ((decide (48 ≤ (c20.toNat : Int))) = true), ((decide (i = 0)) = false), ((decide ((c22.toNat : Int) ≤ 57)) = true), ((decide ((c22.toNat : Int) ≤ 57)) = true), ((decide ((c22.toNat : Int) ≤ 57)) = true), ((decide ((c22.toNat : Int) ≤ 57)) = true), ((decide (i = 0)) = false), ((decide ((c22.toNat : Int) ≤ 57)) = true), ((decide (i = 0)) = false), (true = true), (true = true), (true = true), (true = true), ((decide (i = 0)) = false), ((decide (i = 0)) = false), ((!t17) = true), ((decide (i = 0)) = false), ((!t17) = true)] (by kernel_rfl) (.cons hg18 (.cons hg18 (.cons hg18 (.cons hg19 (.cons hg19 (.cons hg19 (.cons hc20 (.cons hg19 (.cons hg19 (.cons hg21 (.cons hg21 (.cons hg21 (.cons hc22 (.cons hg21 (.cons hg19 (.cons hg21 (.cons hg19 (.cons hg23 (.cons hg23 (.cons hg23 (.cons hg23 (.cons hg19 (.cons hg23 (.cons hg19 (.cons rfl (.cons rfl (.cons rfl (.cons rfl (.cons hg19 (.cons hg19 (.cons hg18 (.cons hg19 (.cons hg18 .nil))))))))))))))))))))))))))))))))) (Sub.refl _)
                  · replace ht := ite_f ht hg23
                    obtain ⟨c24, hc24, ht⟩ := bind_some ht
                    rcases Bool.eq_false_or_eq_true (decide ((c24.toNat : Int) = 45)) with hg25 | hg25
                    · replace ht := ite_t ht hg25
                      have e := Option.some.inj ht
                      subst e
                      exact RegTo.mk [(.n, .e), (.n, .e), (.n, .e), (.y, .e), (.y, .e), (.y, .e), (.y, .e), (.y, .e), (.y, (.sAt c20)), (.y, .e), (.y, .e), (.y, .e), (.y, .e), (.y, (.sAt c22)), (.y, .e), (.y, (.pk true)), (.y, .e), (.y, .e), (.y, .e), (.y, (.sAt c24)), (.y, .e), (.y, (.pk false)), (.y, .e), (.s, .e), (.s, .e), (.s, .e), (.s, .e), (.y, (.pk true)), (.y, .e), (.y, (.pk false)), (.n, (.pk true))] ({ tm := [(0, .pv (.str p2)), (3, .pv (.int .i64 i)), (55, .pv (.bool false))], hp := [], nx := 0 }) [((!t17) = true), ((!t17) = true), ((!t17) = true), ((decide (i = 0)) = false), ((decide (i = 0)) = false), ((decide (i = 0)) = false), (strAt p2 i = some c20), ((decide (i = 0)) = false), ((decide (i = 0)) = false), ((decide (48 ≤ (c20.toNat : Int))) = true), ((decide (48 ≤ (c20.toNat : Int))) = true), ((decide (48 ≤ (c20.toNat : Int))) = true), (strAt p2 i = some c22), ((decide (48 ≤ (c20.toNat : Int))) = true), ((decide (i = 0)) = false), ((decide (48 ≤ (c20.toNat : Int))) = true), ((decide (i = 0)) = false), ((decide ((c22.toNat : Int) ≤ 57)) = false), ((decide ((c22.toNat : Int) ≤ 57)) = false), ((decide ((c22.toNat : Int) ≤ 57)) = false), (strAt p2 i = some c24), ((decide ((c22.toNat : Int) ≤ 57)) = false), ((decide (i = 0)) = false), ((decide ((c22.toNat : Int) ≤ 57)) = false), ((decide (i = 0)) = false), ((decide ((c24.toNat : Int) = 45)) = true), ((decide ((c24.toNat : Int) = 45)) = true), ((decide ((c24.toNat : Int) = 45)) = true), ((decide ((c24.toNat : Int) = 45)) = true), ((decide (i = 0)) = false), ((decide ((c24.toNat : Int) = 45)) = true), ((decide (i = 0)) = false), ((!t17) = true), ((decide (i = 0)) = false), ((!t17) = true)] (by kernel_rfl) (.cons hg18 (.cons hg18 (.cons hg18 (.cons hg19 (.cons hg19 (.cons hg19 (.cons hc20 (.cons hg19 (.cons hg19 (.cons hg21 (.cons hg21 (.cons hg21 (.cons hc22 (.cons hg21 (.cons hg19 (.cons hg21 (.cons hg19 (.cons hg23 (.cons hg23 (.cons hg23 (.cons hc24 (.cons hg23 (.cons hg19 (.cons hg23 (.cons hg19 (.cons hg25 (.cons hg25 (.cons hg25 (.cons hg25 (.cons hg19 (.cons hg25 (.cons hg19 (.cons hg18 (.cons hg19 (.cons hg18 .nil))))))))))))))))))))))))))))))))))) (Sub.refl _)
                    · replace ht := ite_f ht hg25
                      obtain ⟨c26, hc26, ht⟩ := bind_some ht
                      have e := Option.some.inj ht
                      subst e
                      exact RegTo.mk [(.n, .e), (.n, .e), (.n, .e), (.y, .e), (.y, .e), (.y, .e), (.y, .e), (.y, .e), (.y, (.sAt c20)), (.y, .e), (.y, .e), (.y, .e), (.y, .e), (.y, (.sAt c22)), (.y, .e), (.y, (.pk true)), (.y, .e), (.y, .e), (.y, .e), (.y, (.sAt c24)), (.y, .e), (.y, (.pk false)), (.y, .e), (.y, .e), (.y, .e), (.y, (.sAt c26)), (.y, .e), (.y, (.pk false)), (.y, .e), (.y, (.pk false)), (.n, (.pk true))] ({ tm := [(0, .pv (.str p2)), (3, .pv (.int .i64 i)), (55, .pv (.bool (!(decide ((c26.toNat : Int) = 95)))))], hp := [], nx := 0 }) [((!t17) = true), ((!t17) = true), ((!t17) = true), ((decide (i = 0)) = false), ((decide (i = 0)) = false), ((decide (i = 0)) = false), (strAt p2 i = some c20), ((decide (i = 0)) = false), ((decide (i = 0)) = false), ((decide (48 ≤ (c20.toNat : Int))) = true), ((decide (48 ≤ (c20.toNat : Int))) = true), ((decide (48 ≤ (c20.toNat : Int))) = true), (strAt p2 i = some c22), ((decide (48 ≤ (c20.toNat : Int))) = true), ((decide (i = 0)) = false), ((decide (48 ≤ (c20.toNat : Int))) = true), ((decide (i = 0)) = false), ((decide ((c22.toNat : Int) ≤ 57)) = false), ((decide ((c22.toNat : Int) ≤ 57)) = false), ((decide ((c22.toNat : Int) ≤ 57)) = false), (strAt p2 i = some c24), ((decide ((c22.toNat : Int) ≤ 57)) = false), ((decide (i = 0)) = false), ((decide ((c22.toNat : Int) ≤ 57)) = false), ((decide (i = 0)) = false), ((decide ((c24.toNat : Int) = 45)) = false), ((decide ((c24.toNat : Int) = 45)) = false), ((decide ((c24.toNat : Int) = 45)) = false), (strAt p2 i = some c26), ((decide ((c24.toNat : Int) = 45)) = false), ((decide (i = 0)) = false), ((decide ((c24.toNat : Int) = 45)) = false), ((decide (i = 0)) = false), ((!t17) = true), ((decide (i = 0)) = false), ((!t17) = true)] (by kernel_rfl) (.cons hg18 (.cons hg18 (.cons hg18 (.cons hg19 (.cons hg19 (.cons hg19 (.cons hc20 (.cons hg19 (.cons hg19 (.cons hg21 (.cons hg21 (.cons hg21 (.cons hc22 (.cons hg21 (.cons hg19 (.cons hg21 (.cons hg19 (.cons hg23 (.cons hg23 (.cons hg23 (.cons hc24 (.cons hg23 (.cons hg19 (.cons hg23 (.cons hg19 (.cons hg25 (.cons hg25 (.cons hg25 (.cons hc26 (.cons hg25 (.cons hg19 (.cons hg25 (.cons hg19 (.cons hg18 (.cons hg19 (.cons hg18 .nil)))))))))))))))))))))))))))))))))))) (Sub.refl _)
                · replace ht := ite_f ht hg21
                  obtain ⟨c27, hc27, ht⟩ := bind_some ht
                  rcases Bool.eq_false_or_eq_true (decide ((c27.toNat : Int) = 45)) with hg28 | hg28
                  · replace ht := ite_t ht hg28
                    have e := Option.some.inj ht
                    subst e
                    exact RegTo.mk [(.n, .e), (.n, .e), (.n, .e), (.y, .e), (.y, .e), (.y, .e), (.y, .e), (.y, .e), (.y, (.sAt c20)), (.y, .e), (.y, .e), (.s, .e), (.s, .e), (.s, .e), (.s, .e), (.y, (.pk false)), (.y, .e), (.y, .e), (.y, .e), (.y, (.sAt c27)), (.y, .e), (.y, .e), (.y, .e), (.s, .e), (.s, .e), (.s, .e), (.s, .e), (.y, (.pk true)), (.y, .e), (.y, (.pk false)), (.n, (.pk true))] ({ tm := [(0, .pv (.str p2)), (3, .pv (.int .i64 i)), (55, .pv (.bool false))], hp := [], nx := 0 }) [((!t17) = true), ((!t17) = true), ((!t17) = true), ((decide (i = 0)) = false), ((decide (i = 0)) = false), ((decide (i = 0)) = false), (strAt p2 i = some c20), ((decide (i = 0)) = false), ((decide (i = 0)) = false), ((decide (48 ≤ (c20.toNat : Int))) = false), ((decide (48 ≤ (c20.toNat : Int))) = false), ((decide (48 ≤ (c20.toNat : Int))) = false), ((decide (48 ≤ (c20.toNat : Int))) = false), ((decide (i = 0)) = false), ((decide (48 ≤ (c20.toNat : Int))) = false), ((decide (i = 0)) = false), (false = false), (false = false), (false = false), (strAt p2 i = some c27), (false = false), ((decide (i = 0)) = false), ((decide (i = 0)) = false), ((decide ((c27.toNat : Int) = 45)) = true), ((decide ((c27.toNat : Int) = 45)) = true), ((decide ((c27.toNat : Int) = 45)) = true), ((decide ((c27.toNat : Int) = 45)) = true), ((decide (i = 0)) = false), ((decide ((c27.toNat : Int) = 45)) = true), ((decide (i = 0)) = false), ((!t17) = true), ((decide (i = 0)) = false), ((!t17) = true)] (by kernel_rfl) (.cons hg18 (.cons hg18 (.cons hg18 (.cons hg19 (.cons hg19 (.cons hg19 (.cons hc20 (.cons hg19 (.cons hg19 (.cons hg21 (.cons hg21 (.cons hg21 (.cons hg21 (.cons hg19 (.cons hg21 (.cons hg19 (.cons rfl (.cons rfl (.cons rfl (.cons hc27 (.cons rfl (.cons hg19 (.cons hg19 (.cons hg28 (.cons hg28 (.cons hg28 (.cons hg28 (.cons hg19 (.cons hg28 (.cons hg19 (.cons hg18 (.cons hg19 (.cons hg18 .nil))))))))))))))))))))))))))))))))) (Sub.refl _)
                  · replace ht := ite_f ht hg28
                    obtain ⟨c29, hc29, ht⟩ := bind_some ht
                    have e := Option.some.inj ht
                    subst e
                    exact RegTo.mk [(.n, .e), (.n, .e), (.n, .e), (.y, .e), (.y, .e), (.y, .e), (.y, .e), (.y, .e), (.y, (.sAt c20)), (.y, .e), (.y, .e), (.s, .e), (.s, .e), (.s, .e), (.s, .e), (.y, (.pk false)), (.y, .e), (.y, .e), (.y, .e), (.y, (.sAt c27)), (.y, .e), (.y, .e), (.y, .e), (.y, .e), (.y, .e), (.y, (.sAt c29)), (.y, .e), (.y, (.pk false)), (.y, .e), (.y, (.pk false)), (.n, (.pk true))] ({ tm := [(0, .pv (.str p2)), (3, .pv (.int .i64 i)), (55, .pv (.bool (!(decide ((c29.toNat : Int) = 95)))))], hp := [], nx := 0 }) [((!t17) = true), ((!t17) = true), ((!t17) = true), ((decide (i = 0)) = false), ((decide (i = 0)) = false), ((decide (i = 0)) = false), (strAt p2 i = some c20), ((decide (i = 0)) = false), ((decide (i = 0)) = false), ((decide (48 ≤ (c20.toNat : Int))) = false), ((decide (48 ≤ (c20.toNat : Int))) = false), ((decide (48 ≤ (c20.toNat : Int))) = false), ((decide (48 ≤ (c20.toNat : Int))) = false), ((decide (i = 0)) = false), ((decide (48 ≤ (c20.toNat : Int))) = false), ((decide (i = 0)) = false), (false = false), (false = false), (false = false), (strAt p2 i = some c27), (false = false), ((decide (i = 0)) = false), ((decide (i = 0)) = false), ((decide ((c27.toNat : Int) = 45)) = false), ((decide ((c27.toNat : Int) = 45)) = false), ((decide ((c27.toNat : Int) = 45)) = false), (strAt p2 i = some c29), ((decide ((c27.toNat : Int) = 45)) = false), ((decide (i = 0)) = false), ((decide ((c27.toNat : Int) = 45)) = false), ((decide (i = 0)) = false), ((!t17) = true), ((decide (i = 0)) = false), ((!t17) = true)] (by kernel_rfl) (.cons hg18 (.cons hg18 (.cons hg18 (.cons hg19 (.cons hg19 (.cons hg19 (.cons hc20 (.cons hg19 (.cons hg19 (.cons hg21 (.cons hg21 (.cons hg21 (.cons hg21 (.cons hg19 (.cons hg21 (.cons hg19 (.cons rfl (.cons rfl (.cons rfl (.cons hc27 (.cons rfl (.cons hg19 (.cons hg19 (.cons hg28 (.cons hg28 (.cons hg28 (.cons hc29 (.cons hg28 (.cons hg19 (.cons hg28 (.cons hg19 (.cons hg18 (.cons hg19 (.cons hg18 .nil)))))))))))))))))))))))))))))))))) (Sub.refl _)
            · replace ht := ite_f ht hg18
              have e := Option.some.inj ht
              subst e
              exact RegTo.mk [(.n, .e), (.n, .e), (.n, .e), (.s, .e), (.s, .e), (.s, .e), (.u, .e), (.u, .e), (.u, .e), (.u, .e), (.u, .e), (.u, .e), (.u, .e), (.u, .e), (.u, .e), (.u, .e), (.u, .e), (.u, .e), (.u, .e), (.u, .e), (.u, .e), (.u, .e), (.u, .e), (.u, .e), (.u, .e), (.u, .e), (.u, .e), (.u, .e), (.u, .e), (.s, .e), (.n, (.pk false))] ({ tm := [(0, .pv (.str p2)), (3, .pv (.int .i64 i)), (55, .pv (.bool false))], hp := [], nx := 0 }) [((!t17) = false), ((!t17) = false), ((!t17) = false), ((!t17) = false), ((!t17) = false)] (by kernel_rfl) (.cons hg18 (.cons hg18 (.cons hg18 (.cons hg18 (.cons hg18 .nil))))) (Sub.refl _)
          · clear ht
            refine x_cond _ rfl (fun hc31 => ?_) (fun hc31 => ?_)
            · replace h := ite_t h hc31
              refine x_rg (RegTo.mk [(.n, .e)] ({ tm := [(2, .pv (.bool false))], hp := [], nx := 0 }) [] (by kernel_rfl) .nil (Sub.refl _)) ?_
              refine x_toret ?_
              refine x_br ?_
              refine x_tr ?_
              refine x_tr ?_
              replace h := done_leaf h hx12
              refine x_br ?_
              refine x_tr ?_
              obtain rfl := Option.some.inj h
              exact x_ret (.bool false) [] [] (by kernel_rfl) .nil (by decide) (.refl _) (fun _ => rfl)
            · replace h := ite_f h hc31
              refine x_kw ({ tm := [(0, .pv (.str p2)), (3, .pv (.int .i64 i))], hp := [], nx := 0 }) (by kernel_rfl) (Sub.refl _) ?_
              refine x_skip ?_
              refine x_bn ?_
              refine x_tn ?_
              refine x_rgt (RegTo.mk [(.n, .e), (.n, .e), (.n, .e)] ({ tm := [(0, .pv (.str p2)), (3, .pv (.int .i64 (IntKind.wrap .i64 (i + 1))))], hp := [], nx := 0 }) [] (by kernel_rfl) .nil (Sub.refl _)) ?_
              refine x_tn ?_
              exact ⟨_, (Option.some.inj h).symm, by kernel_rfl⟩
      · replace h := ite_f h hc13
        refine x_kw ({ tm := [(0, .pv (.str p2))], hp := [], nx := 0 }) (by kernel_rfl) (Sub.refl _) ?_
        refine x_exit ?_
        refine x_te ?_
        refine x_te ?_
        replace h := done_leaf h hx12
        refine x_bh ?_
        refine x_tn ?_
        refine x_rg (st2 := { tm := [(2, .pv (.bool ((decide (1 ≤ (List.length p2 : Int))) && (decide ((List.length p2 : Int) ≤ 32)))))], hp := [], nx := 0 }) ?_ ?_
        · rcases Bool.eq_false_or_eq_true (decide (1 ≤ (List.length p2 : Int))) with hg32 | hg32
          · exact RegTo.mk [(.n, .e), (.n, .e), (.n, .e), (.n, .e), (.y, .e), (.y, .e), (.y, .e), (.n, (.pk true)), (.n, .e)] ({ tm := [(2, .pv (.bool (decide ((List.length p2 : Int) ≤ 32))))], hp := [], nx := 0 }) [((decide (1 ≤ (List.length p2 : Int))) = true), ((decide (1 ≤ (List.length p2 : Int))) = true), ((decide (1 ≤ (List.length p2 : Int))) = true), ((decide (1 ≤ (List.length p2 : Int))) = true)] (by kernel_rfl) (.cons hg32 (.cons hg32 (.cons hg32 (.cons hg32 .nil)))) (.of_eq (by simp only [hg32, Bool.true_or, Bool.false_or, Bool.true_and, Bool.false_and, Bool.or_true, Bool.or_false, Bool.and_true, Bool.and_false, Bool.false_eq_true, if_true, if_false, reduceIte]))
          · exact RegTo.mk [(.n, .e), (.n, .e), (.n, .e), (.n, .e), (.s, .e), (.s, .e), (.s, .e), (.n, (.pk false)), (.n, .e)] ({ tm := [(2, .pv (.bool false))], hp := [], nx := 0 }) [((decide (1 ≤ (List.length p2 : Int))) = false), ((decide (1 ≤ (List.length p2 : Int))) = false), ((decide (1 ≤ (List.length p2 : Int))) = false), ((decide (1 ≤ (List.length p2 : Int))) = false)] (by kernel_rfl) (.cons hg32 (.cons hg32 (.cons hg32 (.cons hg32 .nil)))) (.of_eq (by simp only [hg32, Bool.true_or, Bool.false_or, Bool.true_and, Bool.false_and, Bool.or_true, Bool.or_false, Bool.and_true, Bool.and_false, Bool.false_eq_true, if_true, if_false, reduceIte]))
        · refine x_toret ?_
          obtain rfl := Option.some.inj h
          exact x_ret (.bool ((decide (1 ≤ (List.length p2 : Int))) && (decide ((List.length p2 : Int) ≤ 32)))) [] [] (by kernel_rfl) .nil (by decide) (.refl _) (fun _ => rfl)
  · obtain ⟨x34, hx34, h⟩ := bind_some h
    refine x_rg (RegTo.mk [(.n, .e), (.n, (.call [] [.str s_] (.bool x34) true))] ({ tm := [(0, .pv (.str s_)), (6, .pv (.bool x34))], hp := [], nx := 0 }) [(LesA [.str s_] [.str s_]), (CallOK Tryd.prog 43 [.str s_] (.bool x34) true)] (by kernel_rfl) (.cons (LesA.rfl' _) (.cons (c43 hx34) .nil)) (Sub.refl _)) ?_
    refine x_cond _ rfl (fun hc35 => ?_) (fun hc35 => ?_)
    · replace h := ite_t h hc35
      obtain ⟨x36, hx36, h⟩ := bind_some h
      refine x_rgt (RegTo.mk [(.n, .e), (.n, (.cutS x36)), (.n, .e)] ({ tm := [(0, .pv (.str x36))], hp := [], nx := 0 }) [(cut s_ 1 (List.length s_ : Int) = some x36)] (by kernel_rfl) (.cons hx36 .nil) (Sub.refl _)) ?_
      refine x_tn ?_
      exact ⟨x36, h, by kernel_rfl⟩
    · replace h := ite_f h hc35
      refine x_kw ({ tm := [(0, .pv (.str s_))], hp := [], nx := 0 }) (by kernel_rfl) (Sub.refl _) ?_
      refine x_skip ?_
      refine x_tn ?_
      exact ⟨s_, h, by kernel_rfl⟩

theorem c51 {s_ : Str} {r : Bool} (h : ref22_plain s_ = some r) : CallOK Tryd.prog 51 [.str s_] (.bool r) true := by
  apply ok51
  unfold ref22_plain at h
  refine x_rg (RegTo.mk [(.n, .e)] ({ tm := [(0, .pv (.str s_))], hp := [], nx := 0 }) [] (by kernel_rfl) .nil (Sub.refl _)) ?_
  refine x_seq ?_
  refine x_rg (RegTo.mk [(.n, .e)] ({ tm := [(0, .pv (.str s_)), (3, .pv (.int .i64 0))], hp := [], nx := 0 }) [] (by kernel_rfl) .nil (Sub.refl _)) ?_
  refine x_block ?_
  refine x_kw ({ tm := [(0, .pv (.str s_)), (3, .pv (.int .i64 0))], hp := [], nx := 0 }) (by kernel_rfl) (Sub.refl _) ?_
  refine x_loop (σ := Int) h (fun s => { tm := [(0, .pv (.str s_)), (3, .pv (.int .i64 s))], hp := [], nx := 0 }) (by kernel_rfl) ?_ ?_
  · rintro i
    kernel_rfl
  · rintro i x10 h hx10
    replace h : ref22_plain_L10 s_ i = some x10 := h
    unfold ref22_plain_L10 at h
    refine x_seq ?_
    refine x_rg (RegTo.mk [(.n, .e), (.n, .e), (.n, .e), (.n, .e)] ({ tm := [(0, .pv (.str s_)), (3, .pv (.int .i64 i)), (7, .pv (.bool (decide (i < (List.length s_ : Int)))))], hp := [], nx := 0 }) [] (by kernel_rfl) .nil (Sub.refl _)) ?_
    refine x_cond _ rfl (fun hc11 => ?_) (fun hc11 => ?_)
    · replace h := ite_t h hc11
      refine x_kw ({ tm := [(0, .pv (.str s_)), (3, .pv (.int .i64 i))], hp := [], nx := 0 }) (by kernel_rfl) (Sub.refl _) ?_
      refine x_skip ?_
      refine x_tn ?_
      refine x_seq ?_
      refine x_block ?_
      obtain ⟨c12, hc12, h⟩ := bind_some h
      obtain ⟨t17, ht, h⟩ := bind_some h
      refine x_rg (st2 := { tm := [(0, .pv (.str s_)), (3, .pv (.int .i64 i)), (25, .pv (.bool t17))], hp := [], nx := 0 }) ?_ ?_
      · rcases Bool.eq_false_or_eq_true (decide ((c12.toNat : Int) = 0)) with hg13 | hg13
        · replace ht := ite_t ht hg13
          have e := Option.some.inj ht
          subst e
          exact RegTo.mk [(.n, .e), (.n, .e), (.n, (.sAt c12)), (.n, .e), (.n, .e), (.s, .e), (.s, .e), (.s, .e), (.s, .e), (.n, (.pk true)), (.n, .e), (.s, .e), (.s, .e), (.s, .e), (.s, .e), (.n, .e)] ({ tm := [(0, .pv (.str s_)), (3, .pv (.int .i64 i)), (25, .pv (.bool true))], hp := [], nx := 0 }) [(strAt s_ i = some c12), ((decide ((c12.toNat : Int) = 0)) = true), ((decide ((c12.toNat : Int) = 0)) = true), ((decide ((c12.toNat : Int) = 0)) = true), ((decide ((c12.toNat : Int) = 0)) = true), ((decide ((c12.toNat : Int) = 0)) = true), (true = true), (true = true), (true = true), (true = true)] (by kernel_rfl) (.cons hc12 (.cons hg13 (.cons hg13 (.cons hg13 (.cons hg13 (.cons hg13 (.cons rfl (.cons rfl (.cons rfl (.cons rfl .nil)))))))))) (Sub.refl _)
        · replace ht := ite_f ht hg13
          obtain ⟨c14, hc14, ht⟩ := bind_some ht
          rcases Bool.eq_false_or_eq_true (decide ((c14.toNat : Int) = 10)) with hg15 | hg15
          · replace ht := ite_t ht hg15
            have e := Option.some.inj ht
            subst e
            exact RegTo.mk [(.n, .e), (.n, .e), (.n, (.sAt c12)), (.n, .e), (.n, .e), (.y, .e), (.y, .e), (.y, (.sAt c14)), (.y, .e), (.n, (.pk false)), (.n, .e), (.s, .e), (.s, .e), (.s, .e), (.s, .e), (.n, (.pk true))] ({ tm := [(0, .pv (.str s_)), (3, .pv (.int .i64 i)), (25, .pv (.bool true))], hp := [], nx := 0 }) [(strAt s_ i = some c12), ((decide ((c12.toNat : Int) = 0)) = false), ((decide ((c12.toNat : Int) = 0)) = false), ((decide ((c12.toNat : Int) = 0)) = false), (strAt s_ i = some c14), ((decide ((c12.toNat : Int) = 0)) = false), ((decide ((c12.toNat : Int) = 0)) = false), ((decide ((c14.toNat : Int) = 10)) = true), ((decide ((c14.toNat : Int) = 10)) = true), ((decide ((c14.toNat : Int) = 10)) = true), ((decide ((c14.toNat : Int) = 10)) = true), ((decide ((c14.toNat : Int) = 10)) = true)] (by kernel_rfl) (.cons hc12 (.cons hg13 (.cons hg13 (.cons hg13 (.cons hc14 (.cons hg13 (.cons hg13 (.cons hg15 (.cons hg15 (.cons hg15 (.cons hg15 (.cons hg15 .nil)))))))))))) (Sub.refl _)
          · replace ht := ite_f ht hg15
            obtain ⟨c16, hc16, ht⟩ := bind_some ht
            have e := Option.some.inj ht
            subst e
            exact RegTo.mk [(.n, .e), (.n, .e), (.n, (.sAt c12)), (.n, .e), (.n, .e), (.y, .e), (.y, .e), (.y, (.sAt c14)), (.y, .e), (.n, (.pk false)), (.n, .e), (.y, .e), (.y, .e), (.y, (.sAt c16)), (.y, .e), (.n, (.pk false))] ({ tm := [(0, .pv (.str s_)), (3, .pv (.int .i64 i)), (25, .pv (.bool (decide ((c16.toNat : Int) = 13))))], hp := [], nx := 0 }) [(strAt s_ i = some c12), ((decide ((c12.toNat : Int) = 0)) = false), ((decide ((c12.toNat : Int) = 0)) = false), ((decide ((c12.toNat : Int) = 0)) = false), (strAt s_ i = some c14), ((decide ((c12.toNat : Int) = 0)) = false), ((decide ((c12.toNat : Int) = 0)) = false), ((decide ((c14.toNat : Int) = 10)) = false), ((decide ((c14.toNat : Int) = 10)) = false), ((decide ((c14.toNat : Int) = 10)) = false), (strAt s_ i = some c16), ((decide ((c14.toNat : Int) = 10)) = false), ((decide ((c14.toNat : Int) = 10)) = false)] (by kernel_rfl) (.cons hc12 (.cons hg13 (.cons hg13 (.cons hg13 (.cons hc14 (.cons hg13 (.cons hg13 (.cons hg15 (.cons hg15 (.cons hg15 (.cons hc16 (.cons hg15 (.cons hg15 .nil))))))))))))) (Sub.refl _)
      · clear ht
        refine x_cond _ rfl (fun hc18 => ?_) (fun hc18 => ?_)
        · replace h := ite_t h hc18
          refine x_rg (RegTo.mk [(.n, .e)] ({ tm := [(2, .pv (.bool false))], hp := [], nx := 0 }) [] (by kernel_rfl) .nil (Sub.refl _)) ?_
          refine x_toret ?_
          refine x_br ?_
          refine x_tr ?_
          refine x_tr ?_
          replace h := done_leaf h hx10
          refine x_br ?_
          refine x_tr ?_
          obtain rfl := Option.some.inj h
          exact x_ret (.bool false) [] [] (by kernel_rfl) .nil (by decide) (.refl _) (fun _ => rfl)
        · replace h := ite_f h hc18
          refine x_kw ({ tm := [(0, .pv (.str s_)), (3, .pv (.int .i64 i))], hp := [], nx := 0 }) (by kernel_rfl) (Sub.refl _) ?_
          refine x_skip ?_
          refine x_bn ?_
          refine x_tn ?_
          refine x_rgt (RegTo.mk [(.n, .e), (.n, .e), (.n, .e)] ({ tm := [(0, .pv (.str s_)), (3, .pv (.int .i64 (IntKind.wrap .i64 (i + 1))))], hp := [], nx := 0 }) [] (by kernel_rfl) .nil (Sub.refl _)) ?_
          refine x_tn ?_
          exact ⟨_, (Option.some.inj h).symm, by kernel_rfl⟩
    · replace h := ite_f h hc11
      refine x_kw ({ tm := [], hp := [], nx := 0 }) (by kernel_rfl) (Sub.refl _) ?_
      refine x_exit ?_
      refine x_te ?_
      refine x_te ?_
      replace h := done_leaf h hx10
      refine x_bh ?_
      refine x_tn ?_
      refine x_rg (RegTo.mk [(.n, .e)] ({ tm := [(2, .pv (.bool true))], hp := [], nx := 0 }) [] (by kernel_rfl) .nil (Sub.refl _)) ?_
      refine x_toret ?_
      obtain rfl := Option.some.inj h
      exact x_ret (.bool true) [] [] (by kernel_rfl) .nil (by decide) (.refl _) (fun _ => rfl)

theorem c31 {before : (List api_Attr)} {a : api_Attr} {r : Int} (h : ref22_one before a = some r) : CallOK Tryd.prog 31 [.sl (some 3) (List.map enc_api_Attr before), enc_api_Attr a] (.int .i64 r) true := by
  apply ok31
  unfold ref22_one at h
  refine x_rg (RegTo.mk [(.n, .e), (.n, .e)] ({ tm := [(0, .pv (.sl (some 3) (List.map enc_api_Attr before))), (3, .optr 0 0 0)], hp := [(0, some (.p (some 3) [enc_api_Attr a]))], nx := 1 }) [] (by kernel_rfl) .nil (Sub.refl _)) ?_
  refine x_seq ?_
  refine x_block ?_
  refine x_rg (RegTo.mk [(.n, .e), (.n, (.len (List.length before : Int))), (.n, .e), (.n, .e)] ({ tm := [(0, .pv (.sl (some 3) (List.map enc_api_Attr before))), (3, .optr 0 0 0), (6, .pv (.bool (decide (32 ≤ (List.length before : Int)))))], hp := [(0, some (.p (some 3) [enc_api_Attr a]))], nx := 1 }) [((List.length (List.map enc_api_Attr before) : Int) = (List.length before : Int))] (by kernel_rfl) (.cons (by rw [List.length_map]) .nil) (Sub.refl _)) ?_
  refine x_cond _ rfl (fun hc1 => ?_) (fun hc1 => ?_)
  · replace h := ite_t h hc1
    refine x_rg (RegTo.mk [(.n, .e)] ({ tm := [(4, .pv (.int .i64 22))], hp := [], nx := 0 }) [] (by kernel_rfl) .nil (Sub.refl _)) ?_
    refine x_toret ?_
    refine x_br ?_
    refine x_tr ?_
    obtain rfl := Option.some.inj h
    exact x_ret (.int .i64 22) [] [] (by kernel_rfl) .nil (by decide) (.refl _) (fun _ => rfl)
  · replace h := ite_f h hc1
    obtain ⟨x2, hx2, h⟩ := bind_some h
    refine x_rg (RegTo.mk [(.n, .e), (.n, .e), (.n, (.call [] [.str a.Name] (.bool x2) true)), (.n, .e), (.n, .e)] ({ tm := [(0, .pv (.sl (some 3) (List.map enc_api_Attr before))), (3, .optr 0 0 0), (10, .pv (.bool (!x2)))], hp := [(0, some (.p (some 3) [enc_api_Attr a]))], nx := 1 }) [(LesA [.str a.Name] [.str a.Name]), (CallOK Tryd.prog 50 [.str a.Name] (.bool x2) true)] (by kernel_rfl) (.cons (LesA.rfl' _) (.cons (c50 hx2) .nil)) (Sub.refl _)) ?_
    refine x_cond _ rfl (fun hc3 => ?_) (fun hc3 => ?_)
    · replace h := ite_t h hc3
      refine x_rg (RegTo.mk [(.n, .e)] ({ tm := [(4, .pv (.int .i64 6))], hp := [], nx := 0 }) [] (by kernel_rfl) .nil (Sub.refl _)) ?_
      refine x_toret ?_
      refine x_br ?_
      refine x_tr ?_
      obtain rfl := Option.some.inj h
      exact x_ret (.int .i64 6) [] [] (by kernel_rfl) .nil (by decide) (.refl _) (fun _ => rfl)
    · replace h := ite_f h hc3
      obtain ⟨t8, ht, h⟩ := bind_some h
      refine x_rg (st2 := { tm := [(0, .pv (.sl (some 3) (List.map enc_api_Attr before))), (3, .optr 0 0 0), (15, .pv (.bool t8))], hp := [(0, some (.p (some 3) [enc_api_Attr a]))], nx := 1 }) ?_ ?_
      · rcases Bool.eq_false_or_eq_true a.Query with hg4 | hg4
        · replace ht := ite_t ht hg4
          rcases Bool.eq_false_or_eq_true (!decide (a.Value = [])) with hg5 | hg5
          · replace ht := ite_t ht hg5
            have e := Option.some.inj ht
            subst e
            exact RegTo.mk [(.n, .e), (.n, .e), (.n, .e), (.y, .e), (.y, .e), (.y, .e), (.n, (.pk true)), (.n, .e), (.s, .e), (.s, .e), (.s, .e), (.s, .e), (.n, (.pk true)), (.n, .e)] ({ tm := [(0, .pv (.sl (some 3) (List.map enc_api_Attr before))), (3, .optr 0 0 0), (15, .pv (.bool true))], hp := [(0, some (.p (some 3) [enc_api_Attr a]))], nx := 1 }) [(a.Query = true), (a.Query = true), (a.Query = true), (a.Query = true), ((!decide (a.Value = [])) = true), ((!decide (a.Value = [])) = true), ((!decide (a.Value = [])) = true), ((!decide (a.Value = [])) = true), ((!decide (a.Value = [])) = true)] (by kernel_rfl) (.cons hg4 (.cons hg4 (.cons hg4 (.cons hg4 (.cons hg5 (.cons hg5 (.cons hg5 (.cons hg5 (.cons hg5 .nil))))))))) (Sub.refl _)
          · replace ht := ite_f ht hg5
            obtain ⟨x6, hx6, ht⟩ := bind_some ht
            have e := Option.some.inj ht
            subst e
            exact RegTo.mk [(.n, .e), (.n, .e), (.n, .e), (.y, .e), (.y, .e), (.y, .e), (.n, (.pk true)), (.n, .e), (.y, .e), (.y, .e), (.y, (.call [] [.str a.Value] (.bool x6) true)), (.y, .e), (.n, (.pk false)), (.n, .e)] ({ tm := [(0, .pv (.sl (some 3) (List.map enc_api_Attr before))), (3, .optr 0 0 0), (15, .pv (.bool (!x6)))], hp := [(0, some (.p (some 3) [enc_api_Attr a]))], nx := 1 }) [(a.Query = true), (a.Query = true), (a.Query = true), (a.Query = true), ((!decide (a.Value = [])) = false), ((!decide (a.Value = [])) = false), ((!decide (a.Value = [])) = false), (LesA [.str a.Value] [.str a.Value]), (CallOK Tryd.prog 51 [.str a.Value] (.bool x6) true), ((!decide (a.Value = [])) = false), ((!decide (a.Value = [])) = false)] (by kernel_rfl) (.cons hg4 (.cons hg4 (.cons hg4 (.cons hg4 (.cons hg5 (.cons hg5 (.cons hg5 (.cons (LesA.rfl' _) (.cons (c51 hx6) (.cons hg5 (.cons hg5 .nil))))))))))) (Sub.refl _)
        · replace ht := ite_f ht hg4
          obtain ⟨x7, hx7, ht⟩ := bind_some ht
          have e := Option.some.inj ht
          subst e
          exact RegTo.mk [(.n, .e), (.n, .e), (.n, .e), (.s, .e), (.s, .e), (.s, .e), (.n, (.pk false)), (.n, .e), (.y, .e), (.y, .e), (.y, (.call [] [.str a.Value] (.bool x7) true)), (.y, .e), (.n, .e), (.n, .e)] ({ tm := [(0, .pv (.sl (some 3) (List.map enc_api_Attr before))), (3, .optr 0 0 0), (15, .pv (.bool (!x7)))], hp := [(0, some (.p (some 3) [enc_api_Attr a]))], nx := 1 }) [(a.Query = false), (a.Query = false), (a.Query = false), (a.Query = false), (false = false), (false = false), (false = false), (LesA [.str a.Value] [.str a.Value]), (CallOK Tryd.prog 51 [.str a.Value] (.bool x7) true), (false = false)] (by kernel_rfl) (.cons hg4 (.cons hg4 (.cons hg4 (.cons hg4 (.cons rfl (.cons rfl (.cons rfl (.cons (LesA.rfl' _) (.cons (c51 hx7) (.cons rfl .nil)))))))))) (Sub.refl _)
      · clear ht
        refine x_cond _ rfl (fun hc9 => ?_) (fun hc9 => ?_)
        · replace h := ite_t h hc9
          refine x_rg (RegTo.mk [(.n, .e)] ({ tm := [(4, .pv (.int .i64 2))], hp := [], nx := 0 }) [] (by kernel_rfl) .nil (Sub.refl _)) ?_
          refine x_toret ?_
          refine x_br ?_
          refine x_tr ?_
          obtain rfl := Option.some.inj h
          exact x_ret (.int .i64 2) [] [] (by kernel_rfl) .nil (by decide) (.refl _) (fun _ => rfl)
        · replace h := ite_f h hc9
          refine x_rg (RegTo.mk [(.n, .e), (.n, .e), (.n, .e), (.n, .e), (.n, .e)] ({ tm := [(0, .pv (.sl (some 3) (List.map enc_api_Attr before))), (3, .optr 0 0 0), (29, .pv (.bool (decide (1024 < (List.length a.Value : Int)))))], hp := [(0, some (.p (some 3) [enc_api_Attr a]))], nx := 1 }) [] (by kernel_rfl) .nil (Sub.refl _)) ?_
          refine x_cond _ rfl (fun hc10 => ?_) (fun hc10 => ?_)
          · replace h := ite_t h hc10
            refine x_rg (RegTo.mk [(.n, .e)] ({ tm := [(4, .pv (.int .i64 4))], hp := [], nx := 0 }) [] (by kernel_rfl) .nil (Sub.refl _)) ?_
            refine x_toret ?_
            refine x_br ?_
            refine x_tr ?_
            obtain rfl := Option.some.inj h
            exact x_ret (.int .i64 4) [] [] (by kernel_rfl) .nil (by decide) (.refl _) (fun _ => rfl)
          · replace h := ite_f h hc10
            refine x_kw ({ tm := [(0, .pv (.sl (some 3) (List.map enc_api_Attr before))), (3, .optr 0 0 0)], hp := [(0, some (.p (some 3) [enc_api_Attr a]))], nx := 1 }) (by kernel_rfl) (Sub.refl _) ?_
            refine x_skip ?_
            refine x_bn ?_
            refine x_tn ?_
            refine x_seq ?_
            refine x_rg (RegTo.mk [(.n, .e)] ({ tm := [(0, .pv (.sl (some 3) (List.map enc_api_Attr before))), (3, .optr 0 0 0), (5, .pv (.int .i64 0))], hp := [(0, some (.p (some 3) [enc_api_Attr a]))], nx := 1 }) [] (by kernel_rfl) .nil (Sub.refl _)) ?_
            refine x_block ?_
            refine x_kw ({ tm := [(0, .pv (.sl (some 3) (List.map enc_api_Attr before))), (3, .optr 0 0 0), (5, .pv (.int .i64 0))], hp := [(0, some (.p (some 3) [enc_api_Attr a]))], nx := 1 }) (by kernel_rfl) (Sub.refl _) ?_
            refine x_loop (σ := Int) h (fun s => { tm := [(0, .pv (.sl (some 3) (List.map enc_api_Attr before))), (3, .optr 0 0 0), (5, .pv (.int .i64 s))], hp := [(0, some (.p (some 3) [enc_api_Attr a]))], nx := 1 }) (by kernel_rfl) ?_ ?_
            · rintro i
              kernel_rfl
            · rintro i x15 h hx15
              replace h : ref22_one_L15 before a i = some x15 := h
              unfold ref22_one_L15 at h
              refine x_seq ?_
              refine x_rg (RegTo.mk [(.n, .e), (.n, .e), (.n, (.len (List.length before : Int))), (.n, .e)] ({ tm := [(0, .pv (.sl (some 3) (List.map enc_api_Attr before))), (3, .optr 0 0 0), (5, .pv (.int .i64 i)), (37, .pv (.bool (decide (i < (List.length before : Int)))))], hp := [(0, some (.p (some 3) [enc_api_Attr a]))], nx := 1 }) [((List.length (List.map enc_api_Attr before) : Int) = (List.length before : Int))] (by kernel_rfl) (.cons (by rw [List.length_map]) .nil) (Sub.refl _)) ?_
              refine x_cond _ rfl (fun hc16 => ?_) (fun hc16 => ?_)
              · replace h := ite_t h hc16
                refine x_kw ({ tm := [(0, .pv (.sl (some 3) (List.map enc_api_Attr before))), (3, .optr 0 0 0), (5, .pv (.int .i64 i))], hp := [(0, some (.p (some 3) [enc_api_Attr a]))], nx := 1 }) (by kernel_rfl) (Sub.refl _) ?_
                refine x_skip ?_
                refine x_tn ?_
                refine x_seq ?_
                refine x_block ?_
                obtain ⟨x17, hx17, h⟩ := bind_some h
                refine x_rg (RegTo.mk [(.n, .e), (.n, .e), (.n, (.pAt (enc_api_Attr x17))), (.n, .e), (.n, .e), (.n, .e), (.n, .e), (.n, .e)] ({ tm := [(0, .pv (.sl (some 3) (List.map enc_api_Attr before))), (3, .optr 0 0 0), (5, .pv (.int .i64 i)), (47, .pv (.bool (decide (x17.Name = a.Name))))], hp := [(0, some (.p (some 3) [enc_api_Attr a]))], nx := 1 }) [(lsAt (List.map enc_api_Attr before) i = some (enc_api_Attr x17))] (by kernel_rfl) (.cons (lsAt_map hx17) .nil) (Sub.refl _)) ?_
                refine x_cond _ rfl (fun hc18 => ?_) (fun hc18 => ?_)
                · replace h := ite_t h hc18
                  refine x_rg (RegTo.mk [(.n, .e)] ({ tm := [(4, .pv (.int .i64 7))], hp := [], nx := 0 }) [] (by kernel_rfl) .nil (Sub.refl _)) ?_
                  refine x_toret ?_
                  refine x_br ?_
                  refine x_tr ?_
                  refine x_tr ?_
                  replace h := done_leaf h hx15
                  refine x_br ?_
                  refine x_tr ?_
                  obtain rfl := Option.some.inj h
                  exact x_ret (.int .i64 7) [] [] (by kernel_rfl) .nil (by decide) (.refl _) (fun _ => rfl)
                · replace h := ite_f h hc18
                  refine x_kw ({ tm := [(0, .pv (.sl (some 3) (List.map enc_api_Attr before))), (3, .optr 0 0 0), (5, .pv (.int .i64 i))], hp := [(0, some (.p (some 3) [enc_api_Attr a]))], nx := 1 }) (by kernel_rfl) (Sub.refl _) ?_
                  refine x_skip ?_
                  refine x_bn ?_
                  refine x_tn ?_
                  refine x_rgt (RegTo.mk [(.n, .e), (.n, .e), (.n, .e)] ({ tm := [(0, .pv (.sl (some 3) (List.map enc_api_Attr before))), (3, .optr 0 0 0), (5, .pv (.int .i64 (IntKind.wrap .i64 (i + 1))))], hp := [(0, some (.p (some 3) [enc_api_Attr a]))], nx := 1 }) [] (by kernel_rfl) .nil (Sub.refl _)) ?_
                  refine x_tn ?_
                  exact ⟨_, (Option.some.inj h).symm, by kernel_rfl⟩
              · replace h := ite_f h hc16
                refine x_kw ({ tm := [], hp := [], nx := 0 }) (by kernel_rfl) (Sub.refl _) ?_
                refine x_exit ?_
                refine x_te ?_
                refine x_te ?_
                replace h := done_leaf h hx15
                refine x_bh ?_
                refine x_tn ?_
                refine x_rg (RegTo.mk [(.n, .e)] ({ tm := [(4, .pv (.int .i64 0))], hp := [], nx := 0 }) [] (by kernel_rfl) .nil (Sub.refl _)) ?_
                refine x_toret ?_
                obtain rfl := Option.some.inj h
                exact x_ret (.int .i64 0) [] [] (by kernel_rfl) .nil (by decide) (.refl _) (fun _ => rfl)

theorem c14 {l : (List api_Attr)} {r : Int} (h : ref22_Check l = some r) : CallOK Tryd.prog 14 [.sl (some 3) (List.map enc_api_Attr l)] (.int .i64 r) true := by
  apply ok14
  unfold ref22_Check at h
  refine x_rg (RegTo.mk [(.n, .e)] ({ tm := [(0, .pv (.sl (some 3) (List.map enc_api_Attr l)))], hp := [], nx := 0 }) [] (by kernel_rfl) .nil (Sub.refl _)) ?_
  refine x_seq ?_
  refine x_rg (RegTo.mk [(.n, .e)] ({ tm := [(0, .pv (.sl (some 3) (List.map enc_api_Attr l))), (3, .pv (.int .i64 0))], hp := [], nx := 0 }) [] (by kernel_rfl) .nil (Sub.refl _)) ?_
  refine x_block ?_
  refine x_kw ({ tm := [(0, .pv (.sl (some 3) (List.map enc_api_Attr l))), (3, .pv (.int .i64 0))], hp := [], nx := 0 }) (by kernel_rfl) (Sub.refl _) ?_
  refine x_loop (σ := Int) h (fun s => { tm := [(0, .pv (.sl (some 3) (List.map enc_api_Attr l))), (3, .pv (.int .i64 s))], hp := [], nx := 0 }) (by kernel_rfl) ?_ ?_
  · rintro i
    kernel_rfl
  · rintro i x7 h hx7
    replace h : ref22_Check_L7 l i = some x7 := h
    unfold ref22_Check_L7 at h
    refine x_seq ?_
    refine x_rg (RegTo.mk [(.n, .e), (.n, .e), (.n, (.len (List.length l : Int))), (.n, .e)] ({ tm := [(0, .pv (.sl (some 3) (List.map enc_api_Attr l))), (3, .pv (.int .i64 i)), (8, .pv (.bool (decide (i < (List.length l : Int)))))], hp := [], nx := 0 }) [((List.length (List.map enc_api_Attr l) : Int) = (List.length l : Int))] (by kernel_rfl) (.cons (by rw [List.length_map]) .nil) (Sub.refl _)) ?_
    refine x_cond _ rfl (fun hc8 => ?_) (fun hc8 => ?_)
    · replace h := ite_t h hc8
      refine x_kw ({ tm := [(0, .pv (.sl (some 3) (List.map enc_api_Attr l))), (3, .pv (.int .i64 i))], hp := [], nx := 0 }) (by kernel_rfl) (Sub.refl _) ?_
      refine x_skip ?_
      refine x_tn ?_
      refine x_seq ?_
      refine x_block ?_
      obtain ⟨x9, hx9, h⟩ := bind_some h
      obtain ⟨x10, hx10, h⟩ := bind_some h
      obtain ⟨x11, hx11, h⟩ := bind_some h
      refine x_rg (RegTo.mk [(.n, .e), (.n, .e), (.n, (.cutP (List.map enc_api_Attr x9))), (.n, .e), (.n, .e), (.n, (.pAt (enc_api_Attr x10))), (.n, .e), (.n, (.call [] [.sl (some 3) (List.map enc_api_Attr x9), enc_api_Attr x10] (.int .i64 x11) true)), (.n, .e)] ({ tm := [(0, .pv (.sl (some 3) (List.map enc_api_Attr l))), (3, .pv (.int .i64 i)), (4, .pv (.int .i64 x11))], hp := [], nx := 0 }) [(cut (List.map enc_api_Attr l) 0 i = some (List.map enc_api_Attr x9)), (lsAt (List.map enc_api_Attr l) i = some (enc_api_Attr x10)), (LesA [.sl (some 3) (List.map enc_api_Attr x9), enc_api_Attr x10] [.sl (some 3) (List.map enc_api_Attr x9), enc_api_Attr x10]), (CallOK Tryd.prog 31 [.sl (some 3) (List.map enc_api_Attr x9), enc_api_Attr x10] (.int .i64 x11) true)] (by kernel_rfl) (.cons (cut_map hx9) (.cons (lsAt_map hx10) (.cons (LesA.rfl' _) (.cons (c31 hx11) .nil)))) (Sub.refl _)) ?_
      refine x_rg (RegTo.mk [(.n, .e), (.n, .e)] ({ tm := [(0, .pv (.sl (some 3) (List.map enc_api_Attr l))), (3, .pv (.int .i64 i)), (4, .pv (.int .i64 x11)), (20, .pv (.bool (!decide (x11 = 0))))], hp := [], nx := 0 }) [] (by kernel_rfl) .nil (Sub.refl _)) ?_
      refine x_cond _ rfl (fun hc12 => ?_) (fun hc12 => ?_)
      · replace h := ite_t h hc12
        refine x_rg (RegTo.mk [(.n, .e), (.n, .e)] ({ tm := [(2, .pv (.int .i64 x11))], hp := [], nx := 0 }) [] (by kernel_rfl) .nil (Sub.refl _)) ?_
        refine x_toret ?_
        refine x_br ?_
        refine x_tr ?_
        refine x_tr ?_
        replace h := done_leaf h hx7
        refine x_br ?_
        refine x_tr ?_
        obtain rfl := Option.some.inj h
        exact x_ret (.int .i64 x11) [] [] (by kernel_rfl) .nil (by decide) (.refl _) (fun _ => rfl)
      · replace h := ite_f h hc12
        refine x_kw ({ tm := [(0, .pv (.sl (some 3) (List.map enc_api_Attr l))), (3, .pv (.int .i64 i))], hp := [], nx := 0 }) (by kernel_rfl) (Sub.refl _) ?_
        refine x_skip ?_
        refine x_bn ?_
        refine x_tn ?_
        refine x_rgt (RegTo.mk [(.n, .e), (.n, .e), (.n, .e)] ({ tm := [(0, .pv (.sl (some 3) (List.map enc_api_Attr l))), (3, .pv (.int .i64 (IntKind.wrap .i64 (i + 1))))], hp := [], nx := 0 }) [] (by kernel_rfl) .nil (Sub.refl _)) ?_
        refine x_tn ?_
        exact ⟨_, (Option.some.inj h).symm, by kernel_rfl⟩
    · replace h := ite_f h hc8
      refine x_kw ({ tm := [], hp := [], nx := 0 }) (by kernel_rfl) (Sub.refl _) ?_
      refine x_exit ?_
      refine x_te ?_
      refine x_te ?_
      replace h := done_leaf h hx7
      refine x_bh ?_
      refine x_tn ?_
      refine x_rg (RegTo.mk [(.n, .e)] ({ tm := [(2, .pv (.int .i64 0))], hp := [], nx := 0 }) [] (by kernel_rfl) .nil (Sub.refl _)) ?_
      refine x_toret ?_
      obtain rfl := Option.some.inj h
      exact x_ret (.int .i64 0) [] [] (by kernel_rfl) .nil (by decide) (.refl _) (fun _ => rfl)

theorem c34 {s_ : Str} {r : Str} (h : ref22_Quote s_ = some r) : CallOK Tryd.prog 34 [.str s_] (.str r) true := by
  apply ok34
  unfold ref22_Quote at h
  refine x_rg (RegTo.mk [(.n, .e)] ({ tm := [(0, .pv (.str s_))], hp := [], nx := 0 }) [] (by kernel_rfl) .nil (Sub.refl _)) ?_
  refine x_rg (RegTo.mk [(.n, .e), (.n, .e), (.n, .e), (.n, .e)] ({ tm := [(0, .pv (.str s_)), (3, .pv (.str [])), (4, .pv (.bool (decide (s_ = []))))], hp := [], nx := 0 }) [] (by kernel_rfl) .nil (Sub.refl _)) ?_
  refine x_seq ?_
  refine x_rg (RegTo.mk [(.n, .e)] ({ tm := [(0, .pv (.str s_)), (3, .pv (.str [])), (4, .pv (.bool (decide (s_ = [])))), (5, .pv (.int .i64 0))], hp := [], nx := 0 }) [] (by kernel_rfl) .nil (Sub.refl _)) ?_
  refine x_block ?_
  refine x_kw ({ tm := [(0, .pv (.str s_)), (3, .pv (.str [])), (4, .pv (.bool (decide (s_ = [])))), (5, .pv (.int .i64 0))], hp := [], nx := 0 }) (by kernel_rfl) (Sub.refl _) ?_
  refine x_loop (σ := (Str × Bool × Int)) h (fun s => { tm := [(0, .pv (.str s_)), (3, .pv (.str s.1)), (4, .pv (.bool s.2.1)), (5, .pv (.int .i64 s.2.2))], hp := [], nx := 0 }) (by kernel_rfl) ?_ ?_
  · rintro ⟨out, odd, i⟩
    kernel_rfl
  · rintro ⟨out, odd, i⟩ x17 h hx17
    replace h : ref22_Quote_L17 s_ out odd i = some x17 := h
    unfold ref22_Quote_L17 at h
    refine x_seq ?_
    refine x_rg (RegTo.mk [(.n, .e), (.n, .e), (.n, .e), (.n, .e)] ({ tm := [(0, .pv (.str s_)), (3, .pv (.str out)), (4, .pv (.bool odd)), (5, .pv (.int .i64 i)), (11, .pv (.bool (decide (i < (List.length s_ : Int)))))], hp := [], nx := 0 }) [] (by kernel_rfl) .nil (Sub.refl _)) ?_
    refine x_cond _ rfl (fun hc18 => ?_) (fun hc18 => ?_)
    · replace h := ite_t h hc18
      refine x_kw ({ tm := [(0, .pv (.str s_)), (3, .pv (.str out)), (4, .pv (.bool odd)), (5, .pv (.int .i64 i))], hp := [], nx := 0 }) (by kernel_rfl) (Sub.refl _) ?_
      refine x_skip ?_
      refine x_tn ?_
      refine x_seq ?_
      refine x_block ?_
      obtain ⟨t25, ht, h⟩ := bind_some h
      refine x_rg (st2 := { tm := [(0, .pv (.str s_)), (3, .pv (.str out)), (4, .pv (.bool t25)), (5, .pv (.int .i64 i))], hp := [], nx := 0 }) ?_ ?_
      · rcases Bool.eq_false_or_eq_true odd with hg19 | hg19
        · replace ht := ite_t ht hg19
          have e := Option.some.inj ht
          subst e
          exact RegTo.mk [(.n, .e), (.n, .e), (.s, .e), (.s, .e), (.s, .e), (.s, .e), (.n, (.pk true)), (.n, .e), (.s, .e), (.s, .e), (.s, .e), (.s, .e), (.n, .e), (.n, .e), (.s, .e), (.s, .e), (.s, .e), (.s, .e), (.n, .e), (.n, .e)] ({ tm := [(0, .pv (.str s_)), (3, .pv (.str out)), (4, .pv (.bool true)), (5, .pv (.int .i64 i))], hp := [], nx := 0 }) [(odd = true), (odd = true), (odd = true), (odd = true), (odd = true), (true = true), (true = true), (true = true), (true = true), (true = true), (true = true), (true = true), (true = true)] (by kernel_rfl) (.cons hg19 (.cons hg19 (.cons hg19 (.cons hg19 (.cons hg19 (.cons rfl (.cons rfl (.cons rfl (.cons rfl (.cons rfl (.cons rfl (.cons rfl (.cons rfl .nil))))))))))))) (Sub.refl _)
        · replace ht := ite_f ht hg19
          obtain ⟨c20, hc20, ht⟩ := bind_some ht
          rcases Bool.eq_false_or_eq_true (decide ((c20.toNat : Int) = 32)) with hg21 | hg21
          · replace ht := ite_t ht hg21
            have e := Option.some.inj ht
            subst e
            exact RegTo.mk [(.n, .e), (.n, .e), (.y, .e), (.y, .e), (.y, (.sAt c20)), (.y, .e), (.n, (.pk false)), (.n, .e), (.s, .e), (.s, .e), (.s, .e), (.s, .e), (.n, (.pk true)), (.n, .e), (.s, .e), (.s, .e), (.s, .e), (.s, .e), (.n, .e), (.n, .e)] ({ tm := [(0, .pv (.str s_)), (3, .pv (.str out)), (4, .pv (.bool true)), (5, .pv (.int .i64 i))], hp := [], nx := 0 }) [(odd = false), (odd = false), (odd = false), (strAt s_ i = some c20), (odd = false), (odd = false), ((decide ((c20.toNat : Int) = 32)) = true), ((decide ((c20.toNat : Int) = 32)) = true), ((decide ((c20.toNat : Int) = 32)) = true), ((decide ((c20.toNat : Int) = 32)) = true), ((decide ((c20.toNat : Int) = 32)) = true), (true = true), (true = true), (true = true), (true = true)] (by kernel_rfl) (.cons hg19 (.cons hg19 (.cons hg19 (.cons hc20 (.cons hg19 (.cons hg19 (.cons hg21 (.cons hg21 (.cons hg21 (.cons hg21 (.cons hg21 (.cons rfl (.cons rfl (.cons rfl (.cons rfl .nil))))))))))))))) (Sub.refl _)
          · replace ht := ite_f ht hg21
            obtain ⟨c22, hc22, ht⟩ := bind_some ht
            rcases Bool.eq_false_or_eq_true (decide ((c22.toNat : Int) = 9)) with hg23 | hg23
            · replace ht := ite_t ht hg23
              have e := Option.some.inj ht
              subst e
              exact RegTo.mk [(.n, .e), (.n, .e), (.y, .e), (.y, .e), (.y, (.sAt c20)), (.y, .e), (.n, (.pk false)), (.n, .e), (.y, .e), (.y, .e), (.y, (.sAt c22)), (.y, .e), (.n, (.pk false)), (.n, .e), (.s, .e), (.s, .e), (.s, .e), (.s, .e), (.n, (.pk true)), (.n, .e)] ({ tm := [(0, .pv (.str s_)), (3, .pv (.str out)), (4, .pv (.bool true)), (5, .pv (.int .i64 i))], hp := [], nx := 0 }) [(odd = false), (odd = false), (odd = false), (strAt s_ i = some c20), (odd = false), (odd = false), ((decide ((c20.toNat : Int) = 32)) = false), ((decide ((c20.toNat : Int) = 32)) = false), ((decide ((c20.toNat : Int) = 32)) = false), (strAt s_ i = some c22), ((decide ((c20.toNat : Int) = 32)) = false), ((decide ((c20.toNat : Int) = 32)) = false), ((decide ((c22.toNat : Int) = 9)) = true), ((decide ((c22.toNat : Int) = 9)) = true), ((decide ((c22.toNat : Int) = 9)) = true), ((decide ((c22.toNat : Int) = 9)) = true), ((decide ((c22.toNat : Int) = 9)) = true)] (by kernel_rfl) (.cons hg19 (.cons hg19 (.cons hg19 (.cons hc20 (.cons hg19 (.cons hg19 (.cons hg21 (.cons hg21 (.cons hg21 (.cons hc22 (.cons hg21 (.cons hg21 (.cons hg23 (.cons hg23 (.cons hg23 (.cons hg23 (.cons hg23 .nil))))))))))))))))) (Sub.refl _)
            · replace ht := ite_f ht hg23
              obtain ⟨c24, hc24, ht⟩ := bind_some ht
              have e := Option.some.inj ht
              subst e
              exact RegTo.mk [(.n, .e), (.n, .e), (.y, .e), (.y, .e), (.y, (.sAt c20)), (.y, .e), (.n, (.pk false)), (.n, .e), (.y, .e), (.y, .e), (.y, (.sAt c22)), (.y, .e), (.n, (.pk false)), (.n, .e), (.y, .e), (.y, .e), (.y, (.sAt c24)), (.y, .e), (.n, (.pk false)), (.n, .e)] ({ tm := [(0, .pv (.str s_)), (3, .pv (.str out)), (4, .pv (.bool (decide ((c24.toNat : Int) = 39)))), (5, .pv (.int .i64 i))], hp := [], nx := 0 }) [(odd = false), (odd = false), (odd = false), (strAt s_ i = some c20), (odd = false), (odd = false), ((decide ((c20.toNat : Int) = 32)) = false), ((decide ((c20.toNat : Int) = 32)) = false), ((decide ((c20.toNat : Int) = 32)) = false), (strAt s_ i = some c22), ((decide ((c20.toNat : Int) = 32)) = false), ((decide ((c20.toNat : Int) = 32)) = false), ((decide ((c22.toNat : Int) = 9)) = false), ((decide ((c22.toNat : Int) = 9)) = false), ((decide ((c22.toNat : Int) = 9)) = false), (strAt s_ i = some c24), ((decide ((c22.toNat : Int) = 9)) = false), ((decide ((c22.toNat : Int) = 9)) = false)] (by kernel_rfl) (.cons hg19 (.cons hg19 (.cons hg19 (.cons hc20 (.cons hg19 (.cons hg19 (.cons hg21 (.cons hg21 (.cons hg21 (.cons hc22 (.cons hg21 (.cons hg21 (.cons hg23 (.cons hg23 (.cons hg23 (.cons hc24 (.cons hg23 (.cons hg23 .nil)))))))))))))))))) (Sub.refl _)
      · clear ht
        obtain ⟨x26, hx26, h⟩ := bind_some h
        obtain ⟨x27, hx27, h⟩ := bind_some h
        refine x_rg (RegTo.mk [(.n, .e), (.n, .e), (.n, .e), (.n, .e), (.n, .e), (.n, (.cutS x26)), (.n, (.cat x27)), (.n, .e)] ({ tm := [(0, .pv (.str s_)), (3, .pv (.str x27)), (4, .pv (.bool t25)), (5, .pv (.int .i64 i))], hp := [], nx := 0 }) [(cut s_ i (IntKind.wrap .i64 (i + 1)) = some x26), (catS out x26 = some x27)] (by kernel_rfl) (.cons hx26 (.cons hx27 .nil)) (Sub.refl _)) ?_
        obtain ⟨c28, hc28, h⟩ := bind_some h
        refine x_rg (RegTo.mk [(.n, .e), (.n, .e), (.n, (.sAt c28)), (.n, .e)] ({ tm := [(0, .pv (.str s_)), (3, .pv (.str x27)), (4, .pv (.bool t25)), (5, .pv (.int .i64 i)), (43, .pv (.bool (decide ((c28.toNat : Int) = 39))))], hp := [], nx := 0 }) [(strAt s_ i = some c28)] (by kernel_rfl) (.cons hc28 .nil) (Sub.refl _)) ?_
        refine x_cond _ rfl (fun hc29 => ?_) (fun hc29 => ?_)
        · replace h := ite_t h hc29
          obtain ⟨x30, hx30, h⟩ := bind_some h
          refine x_rgt (RegTo.mk [(.n, .e), (.n, (.cat x30)), (.n, .e)] ({ tm := [(0, .pv (.str s_)), (3, .pv (.str x30)), (4, .pv (.bool t25)), (5, .pv (.int .i64 i))], hp := [], nx := 0 }) [(catS x27 [39] = some x30)] (by kernel_rfl) (.cons hx30 .nil) (Sub.refl _)) ?_
          refine x_bn ?_
          refine x_tn ?_
          refine x_rgt (RegTo.mk [(.n, .e), (.n, .e), (.n, .e)] ({ tm := [(0, .pv (.str s_)), (3, .pv (.str x30)), (4, .pv (.bool t25)), (5, .pv (.int .i64 (IntKind.wrap .i64 (i + 1))))], hp := [], nx := 0 }) [] (by kernel_rfl) .nil (Sub.refl _)) ?_
          refine x_tn ?_
          exact ⟨_, (Option.some.inj h).symm, by kernel_rfl⟩
        · replace h := ite_f h hc29
          refine x_kw ({ tm := [(0, .pv (.str s_)), (3, .pv (.str x27)), (4, .pv (.bool t25)), (5, .pv (.int .i64 i))], hp := [], nx := 0 }) (by kernel_rfl) (Sub.refl _) ?_
          refine x_skip ?_
          refine x_bn ?_
          refine x_tn ?_
          refine x_rgt (RegTo.mk [(.n, .e), (.n, .e), (.n, .e)] ({ tm := [(0, .pv (.str s_)), (3, .pv (.str x27)), (4, .pv (.bool t25)), (5, .pv (.int .i64 (IntKind.wrap .i64 (i + 1))))], hp := [], nx := 0 }) [] (by kernel_rfl) .nil (Sub.refl _)) ?_
          refine x_tn ?_
          exact ⟨_, (Option.some.inj h).symm, by kernel_rfl⟩
    · replace h := ite_f h hc18
      refine x_kw ({ tm := [(0, .pv (.str s_)), (3, .pv (.str out)), (4, .pv (.bool odd))], hp := [], nx := 0 }) (by kernel_rfl) (Sub.refl _) ?_
      refine x_exit ?_
      refine x_te ?_
      refine x_te ?_
      replace h := done_map h hx17
      unfold ref22_Quote_A34 at h
      refine x_bh ?_
      refine x_tn ?_
      refine x_seq ?_
      refine x_rg (RegTo.mk [(.n, .e)] ({ tm := [(0, .pv (.str s_)), (3, .pv (.str out)), (46, .pv (.bool odd))], hp := [], nx := 0 }) [] (by kernel_rfl) .nil (Sub.refl _)) ?_
      refine x_cond _ rfl (fun hc31 => ?_) (fun hc31 => ?_)
      · replace h := ite_t h hc31
        obtain ⟨x32, hx32, h⟩ := bind_some h
        obtain ⟨x33, hx33, h⟩ := bind_some h
        refine x_rg (RegTo.mk [(.n, .e), (.n, (.cat x32)), (.n, (.cat x33)), (.n, .e)] ({ tm := [(2, .pv (.str x33))], hp := [], nx := 0 }) [(catS [39] out = some x32), (catS x32 [39] = some x33)] (by kernel_rfl) (.cons hx32 (.cons hx33 .nil)) (Sub.refl _)) ?_
        refine x_toret ?_
        refine x_tr ?_
        obtain rfl := Option.some.inj h
        exact x_ret (.str x33) [] [] (by kernel_rfl) .nil (by decide) (.refl _) (fun _ => rfl)
      · replace h := ite_f h hc31
        refine x_kw ({ tm := [(0, .pv (.str s_))], hp := [], nx := 0 }) (by kernel_rfl) (Sub.refl _) ?_
        refine x_skip ?_
        refine x_tn ?_
        refine x_rg (RegTo.mk [(.n, .e), (.n, .e)] ({ tm := [(2, .pv (.str s_))], hp := [], nx := 0 }) [] (by kernel_rfl) .nil (Sub.refl _)) ?_
        refine x_toret ?_
        obtain rfl := Option.some.inj h
        exact x_ret (.str s_) [] [] (by kernel_rfl) .nil (by decide) (.refl _) (fun _ => rfl)

end Go.Proofs.YtjlbepebaegmeaaDoor
