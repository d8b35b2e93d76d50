/- The functions of the program compute what their plain forms compute; printed by a program of the claim's author. -/
import Derived.Test.YtheeafnmkboblaaDoorV
import Derived.Test.YtheeafnmkboblaaDoorS
import Derived.Test.YtheeafnmkboblaaDoorShelf
import Derived.Test.YtheeafnmkboblaaDoorVmE
namespace Go.Proofs.YtheeafnmkboblaaDoor
open Go.Vm
set_option autoImplicit false
set_option linter.unusedVariables false
set_option linter.unusedSimpArgs false
set_option maxRecDepth 100000

theorem c45 {s_ : Str} {r : Int} (h : unicode_utf8_RuneCountInString s_ = some r) : CallOK Tryd.prog 45 [.str s_] (.int .i64 r) true := by
  apply ok45
  unfold unicode_utf8_RuneCountInString at h
  refine x_rg (st2 := { tm := [(0, .pv (.str s_)), (2, .pv (.int .i64 0))], hp := [], nx := 0 }) (RegTo.mk [(.n, .e)] ({ tm := [(0, .pv (.str s_)), (2, .pv (.int .i64 0))], hp := [], nx := 0 }) [] (by kernel_rfl) .nil (Sub.refl _)) ?_
  refine x_seq ?_
  cases h

theorem c51 {s_ : Str} {r : (Int × Int)} (h : unicode_utf8_decodeRuneInStringSlow s_ = some r) : CallOK Tryd.prog 51 [.str s_] (.tup [.int .i32 r.1, .int .i64 r.2]) true := by
  apply ok51
  unfold unicode_utf8_decodeRuneInStringSlow at h
  refine x_rg (st2 := { tm := [(0, .pv (.str s_))], hp := [], nx := 0 }) (RegTo.mk [(.n, .e), (.n, .e)] ({ tm := [(0, .pv (.str s_))], hp := [], nx := 0 }) [] (by kernel_rfl) .nil (Sub.refl _)) ?_
  refine x_rg (st2 := { tm := [(0, .pv (.str s_)), (4, .pv (.int .i64 (List.length s_ : Int)))], hp := [], nx := 0 }) (RegTo.mk [(.n, .e), (.n, .e), (.n, .e)] ({ tm := [(0, .pv (.str s_)), (4, .pv (.int .i64 (List.length s_ : Int)))], hp := [], nx := 0 }) [] (by kernel_rfl) .nil (Sub.refl _)) ?_
  refine x_seq ?_
  refine x_rg (st2 := { tm := [(0, .pv (.str s_)), (4, .pv (.int .i64 (List.length s_ : Int))), (16, .pv (.bool (decide ((List.length s_ : Int) < 1))))], hp := [], nx := 0 }) (RegTo.mk [(.n, .e), (.n, .e)] ({ tm := [(0, .pv (.str s_)), (4, .pv (.int .i64 (List.length s_ : Int))), (16, .pv (.bool (decide ((List.length s_ : Int) < 1))))], hp := [], nx := 0 }) [] (by kernel_rfl) .nil (Sub.refl _)) ?_
  refine x_cond _ rfl (fun hc1 => ?_) (fun hc1 => ?_)
  · replace h := ite_t h hc1
    refine x_rg (st2 := { tm := [(2, .pv (.int .i32 65533)), (3, .pv (.int .i64 0))], hp := [], nx := 0 }) (RegTo.mk [(.n, .e), (.n, .e)] ({ tm := [(2, .pv (.int .i32 65533)), (3, .pv (.int .i64 0))], hp := [], nx := 0 }) [] (by kernel_rfl) .nil (Sub.refl _)) ?_
    refine x_toret ?_
    refine x_tr ?_
    obtain rfl := Option.some.inj h
    exact x_ret (.tup [.int .i32 65533, .int .i64 0]) [] [] (by kernel_rfl) .nil (by decide) (.tup (.cons (.refl _) (.cons (.refl _) .nil))) (fun _ => rfl)
  · replace h := ite_f h hc1
    refine x_kw (st2 := { tm := [(0, .pv (.str s_)), (4, .pv (.int .i64 (List.length s_ : Int)))], hp := [], nx := 0 }) ({ tm := [(0, .pv (.str s_)), (4, .pv (.int .i64 (List.length s_ : Int)))], hp := [], nx := 0 }) (by kernel_rfl) (Sub.refl _) ?_
    refine x_skip ?_
    refine x_tn ?_
    obtain ⟨c2, hc2, h⟩ := bind_some h
    refine x_rg (st2 := { tm := [(0, .pv (.str s_)), (4, .pv (.int .i64 (List.length s_ : Int))), (5, .pv (.int .u8 (c2.toNat : Int)))], hp := [], nx := 0 }) (RegTo.mk [(.n, .e), (.n, (.sAt c2)), (.n, .e)] ({ tm := [(0, .pv (.str s_)), (4, .pv (.int .i64 (List.length s_ : Int))), (5, .pv (.int .u8 (c2.toNat : Int)))], hp := [], nx := 0 }) [(strAt s_ 0 = some c2)] (by kernel_rfl) (.cons hc2 .nil) (Sub.refl _)) ?_
    cases h

theorem c46 {s_ : Str} {r : (Int × Int)} (h : unicode_utf8_DecodeRuneInString s_ = some r) : CallOK Tryd.prog 46 [.str s_] (.tup [.int .i32 r.1, .int .i64 r.2]) true := by
  apply ok46
  unfold unicode_utf8_DecodeRuneInString at h
  refine x_rg (st2 := { tm := [(0, .pv (.str s_))], hp := [], nx := 0 }) (RegTo.mk [(.n, .e), (.n, .e)] ({ tm := [(0, .pv (.str s_))], hp := [], nx := 0 }) [] (by kernel_rfl) .nil (Sub.refl _)) ?_
  refine x_seq ?_
  obtain ⟨t3, ht, h⟩ := bind_some h
  refine x_rg (st2 := { tm := [(0, .pv (.str s_)), (10, .pv (.bool t3))], hp := [], nx := 0 }) ?_ ?_
  · rcases Bool.eq_false_or_eq_true (!decide (s_ = [])) with hg1 | hg1
    · replace ht := ite_t ht hg1
      obtain ⟨c2, hc2, ht⟩ := bind_some ht
      have e := Option.some.inj ht
      subst e
      exact RegTo.mk [(.n, .e), (.n, .e), (.n, .e), (.y, .e), (.y, (.sAt c2)), (.y, .e), (.n, (.pk true))] ({ tm := [(0, .pv (.str s_)), (10, .pv (.bool (decide ((c2.toNat : Int) < 128))))], hp := [], nx := 0 }) [((!decide (s_ = [])) = true), ((!decide (s_ = [])) = true), (strAt s_ 0 = some c2), ((!decide (s_ = [])) = true), ((!decide (s_ = [])) = true)] (by kernel_rfl) (.cons hg1 (.cons hg1 (.cons hc2 (.cons hg1 (.cons hg1 .nil))))) (Sub.refl _)
    · replace ht := ite_f ht hg1
      have e := Option.some.inj ht
      subst e
      exact RegTo.mk [(.n, .e), (.n, .e), (.n, .e), (.s, .e), (.s, .e), (.s, .e), (.n, (.pk false))] ({ tm := [(0, .pv (.str s_)), (10, .pv (.bool false))], hp := [], nx := 0 }) [((!decide (s_ = [])) = false), ((!decide (s_ = [])) = false), ((!decide (s_ = [])) = false), ((!decide (s_ = [])) = false)] (by kernel_rfl) (.cons hg1 (.cons hg1 (.cons hg1 (.cons hg1 .nil)))) (Sub.refl _)
  · clear ht
    refine x_cond _ rfl (fun hc4 => ?_) (fun hc4 => ?_)
    · replace h := ite_t h hc4
      obtain ⟨c5, hc5, h⟩ := bind_some h
      refine x_rg (st2 := { tm := [(2, .pv (.int .i32 (IntKind.wrap .i32 (c5.toNat : Int)))), (3, .pv (.int .i64 1))], hp := [], nx := 0 }) (RegTo.mk [(.n, .e), (.n, (.sAt c5)), (.n, .e), (.n, .e), (.n, .e)] ({ tm := [(2, .pv (.int .i32 (IntKind.wrap .i32 (c5.toNat : Int)))), (3, .pv (.int .i64 1))], hp := [], nx := 0 }) [(strAt s_ 0 = some c5)] (by kernel_rfl) (.cons hc5 .nil) (Sub.refl _)) ?_
      refine x_toret ?_
      refine x_tr ?_
      obtain rfl := Option.some.inj h
      exact x_ret (.tup [.int .i32 (IntKind.wrap .i32 (c5.toNat : Int)), .int .i64 1]) [] [] (by kernel_rfl) .nil (by decide) (.tup (.cons (.refl _) (.cons (.refl _) .nil))) (fun _ => rfl)
    · replace h := ite_f h hc4
      obtain ⟨x6, hx6, h⟩ := bind_some h
      refine x_rgt (st2 := { tm := [(2, .pv (.int .i32 x6.1)), (3, .pv (.int .i64 x6.2))], hp := [], nx := 0 }) (RegTo.mk [(.n, .e), (.n, (.call [.str s_] (.tup [.int .i32 x6.1, .int .i64 x6.2]) true)), (.n, .e), (.n, .e), (.n, .e), (.n, .e), (.n, .e)] ({ tm := [(2, .pv (.int .i32 x6.1)), (3, .pv (.int .i64 x6.2))], hp := [], nx := 0 }) [(LesA [.str s_] [.str s_]), (CallOK Tryd.prog 51 [.str s_] (.tup [.int .i32 x6.1, .int .i64 x6.2]) true)] (by kernel_rfl) (.cons (LesA.rfl' _) (.cons (c51 hx6) .nil)) (Sub.refl _)) ?_
      refine x_tn ?_
      refine x_toret ?_
      obtain rfl := Option.some.inj h
      exact x_ret (.tup [.int .i32 x6.1, .int .i64 x6.2]) [] [] (by kernel_rfl) .nil (by decide) (.tup (.cons (.refl _) (.cons (.refl _) .nil))) (fun _ => rfl)

theorem c40 {s_ : Str} {n : Int} {r : (List Str)} (h : strings_explode s_ n = some r) : CallOK Tryd.prog 40 [.str s_, .int .i64 n] (.usl none (List.map PV.str r)) true := by
  apply ok40
  unfold strings_explode at h
  refine x_rg (st2 := { tm := [(0, .pv (.str s_)), (1, .pv (.int .i64 n))], hp := [], nx := 0 }) (RegTo.mk [(.n, .e)] ({ tm := [(0, .pv (.str s_)), (1, .pv (.int .i64 n))], hp := [], nx := 0 }) [] (by kernel_rfl) .nil (Sub.refl _)) ?_
  obtain ⟨x1, hx1, h⟩ := bind_some h
  refine x_rg (st2 := { tm := [(0, .pv (.str s_)), (1, .pv (.int .i64 n)), (5, .pv (.int .i64 x1))], hp := [], nx := 0 }) (RegTo.mk [(.n, .e), (.n, (.call [.str s_] (.int .i64 x1) true)), (.n, .e)] ({ tm := [(0, .pv (.str s_)), (1, .pv (.int .i64 n)), (5, .pv (.int .i64 x1))], hp := [], nx := 0 }) [(LesA [.str s_] [.str s_]), (CallOK Tryd.prog 45 [.str s_] (.int .i64 x1) true)] (by kernel_rfl) (.cons (LesA.rfl' _) (.cons (c45 hx1) .nil)) (Sub.refl _)) ?_
  refine x_join (τ := Int) (fun t => strings_explode_K2 s_ t = some r) (fun t => { tm := [(0, .pv (.str s_)), (1, .pv (.int .i64 t))], hp := [], nx := 0 }) ?_ ?_
  · rintro p3 h
    replace h : strings_explode_K2 s_ p3 = some r := h
    unfold strings_explode_K2 at h
    obtain ⟨x4, hx4, h⟩ := bind_some h
    refine x_rg (st2 := { tm := [(0, .pv (.str s_)), (1, .pv (.int .i64 p3)), (6, .osl 0 0 (List.map PV.str x4).length)], hp := [(0, some (.p none (List.map PV.str x4)))], nx := 1 }) (RegTo.mk [(.n, .e), (.n, (.mk (List.map PV.str x4))), (.n, .e)] ({ tm := [(0, .pv (.str s_)), (1, .pv (.int .i64 p3)), (6, .osl 0 0 (List.map PV.str x4).length)], hp := [(0, some (.p none (List.map PV.str x4)))], nx := 1 }) [(mkL 16 (.str []) p3 = some (List.map PV.str x4)), ((p3 : Int) = p3)] (by kernel_rfl) (.cons (mkL_map hx4) (.cons rfl .nil)) (Sub.refl _)) ?_
    refine x_seq ?_
    refine x_rg (st2 := { tm := [(0, .pv (.str s_)), (1, .pv (.int .i64 p3)), (6, .osl 0 0 (List.map PV.str x4).length), (7, .pv (.int .i64 0))], hp := [(0, some (.p none (List.map PV.str x4)))], nx := 1 }) (RegTo.mk [(.n, .e)] ({ tm := [(0, .pv (.str s_)), (1, .pv (.int .i64 p3)), (6, .osl 0 0 (List.map PV.str x4).length), (7, .pv (.int .i64 0))], hp := [(0, some (.p none (List.map PV.str x4)))], nx := 1 }) [] (by kernel_rfl) .nil (Sub.refl _)) ?_
    refine x_block ?_
    refine x_kw (st2 := { tm := [(0, .pv (.str s_)), (1, .pv (.int .i64 p3)), (6, .osl 0 0 (List.map PV.str x4).length), (7, .pv (.int .i64 0))], hp := [(0, some (.p none (List.map PV.str x4)))], nx := 1 }) ({ tm := [(0, .pv (.str s_)), (1, .pv (.int .i64 p3)), (6, .osl 0 0 (List.map PV.str x4).length), (7, .pv (.int .i64 0))], hp := [(0, some (.p none (List.map PV.str x4)))], nx := 1 }) (by kernel_rfl) (Sub.refl _) ?_
    refine x_loop (σ := (Str × Int × (List Str))) h (fun s => { tm := [(0, .pv (.str s.1)), (1, .pv (.int .i64 p3)), (6, .osl 0 0 (List.map PV.str s.2.2).length), (7, .pv (.int .i64 s.2.1))], hp := [(0, some (.p none (List.map PV.str s.2.2)))], nx := 1 }) (by kernel_rfl) ?_ ?_
    · rintro ⟨s__1, i, a⟩
      kernel_rfl
    · rintro ⟨s__1, i, a⟩ x13 h hx13
      replace h : strings_explode_L13 p3 s__1 i a = some x13 := h
      unfold strings_explode_L13 at h
      refine x_seq ?_
      refine x_rg (st2 := { tm := [(0, .pv (.str s__1)), (1, .pv (.int .i64 p3)), (6, .osl 0 0 (List.map PV.str a).length), (7, .pv (.int .i64 i)), (25, .pv (.bool (decide (i < (IntKind.wrap .i64 (p3 - 1))))))], hp := [(0, some (.p none (List.map PV.str a)))], nx := 1 }) (RegTo.mk [(.n, .e), (.n, .e), (.n, .e), (.n, .e)] ({ tm := [(0, .pv (.str s__1)), (1, .pv (.int .i64 p3)), (6, .osl 0 0 (List.map PV.str a).length), (7, .pv (.int .i64 i)), (25, .pv (.bool (decide (i < (IntKind.wrap .i64 (p3 - 1))))))], hp := [(0, some (.p none (List.map PV.str a)))], nx := 1 }) [] (by kernel_rfl) .nil (Sub.refl _)) ?_
      refine x_cond _ rfl (fun hc14 => ?_) (fun hc14 => ?_)
      · replace h := ite_t h hc14
        refine x_kw (st2 := { tm := [(0, .pv (.str s__1)), (1, .pv (.int .i64 p3)), (6, .osl 0 0 (List.map PV.str a).length), (7, .pv (.int .i64 i))], hp := [(0, some (.p none (List.map PV.str a)))], nx := 1 }) ({ tm := [(0, .pv (.str s__1)), (1, .pv (.int .i64 p3)), (6, .osl 0 0 (List.map PV.str a).length), (7, .pv (.int .i64 i))], hp := [(0, some (.p none (List.map PV.str a)))], nx := 1 }) (by kernel_rfl) (Sub.refl _) ?_
        refine x_skip ?_
        refine x_tn ?_
        refine x_seq ?_
        refine x_block ?_
        obtain ⟨x15, hx15, h⟩ := bind_some h
        refine x_rg (st2 := { tm := [(0, .pv (.str s__1)), (1, .pv (.int .i64 p3)), (6, .osl 0 0 (List.map PV.str a).length), (7, .pv (.int .i64 i)), (9, .pv (.int .i64 x15.2))], hp := [(0, some (.p none (List.map PV.str a)))], nx := 1 }) (RegTo.mk [(.n, .e), (.n, (.call [.str s__1] (.tup [.int .i32 x15.1, .int .i64 x15.2]) true)), (.n, .e), (.n, .e), (.n, .e), (.n, .e), (.n, .e)] ({ tm := [(0, .pv (.str s__1)), (1, .pv (.int .i64 p3)), (6, .osl 0 0 (List.map PV.str a).length), (7, .pv (.int .i64 i)), (9, .pv (.int .i64 x15.2))], hp := [(0, some (.p none (List.map PV.str a)))], nx := 1 }) [(LesA [.str s__1] [.str s__1]), (CallOK Tryd.prog 46 [.str s__1] (.tup [.int .i32 x15.1, .int .i64 x15.2]) true)] (by kernel_rfl) (.cons (LesA.rfl' _) (.cons (c46 hx15) .nil)) (Sub.refl _)) ?_
        obtain ⟨x16, hx16, h⟩ := bind_some h
        obtain ⟨x17, hx17, h⟩ := bind_some h
        refine x_rg (st2 := { tm := [(0, .pv (.str s__1)), (1, .pv (.int .i64 p3)), (6, .osl 0 0 (List.map PV.str (List.set a (Int.toNat i) x16)).length), (7, .pv (.int .i64 i)), (9, .pv (.int .i64 x15.2))], hp := [(0, some (.p none (List.map PV.str (List.set a (Int.toNat i) x16))))], nx := 1 }) (RegTo.mk [(.n, .e), (.n, .e), (.n, .e), (.n, .e), (.n, (.cutS x16)), (.n, .rAt), (.n, (.set (.str x17) (List.map PV.str (List.set a (Int.toNat i) x16))))] ({ tm := [(0, .pv (.str s__1)), (1, .pv (.int .i64 p3)), (6, .osl 0 0 (List.map PV.str a).length), (7, .pv (.int .i64 i)), (9, .pv (.int .i64 x15.2))], hp := [(0, some (.p none (List.map PV.str (List.set a (Int.toNat i) x16))))], nx := 1 }) [(cut s__1 0 x15.2 = some x16), (0 ≤ (i : Int) ∧ Int.toNat i < (List.map PV.str a).length), ((List.map PV.str a)[(0 + Int.toNat i)]? = some (.str x17)), (List.set (List.map PV.str a) (0 + Int.toNat i) (.str x16) = (List.map PV.str (List.set a (Int.toNat i) x16)))] (by kernel_rfl) (.cons hx16 (.cons (rAt_ob hx17 (by simp)) (.cons (ownAt hx17) (.cons (by rw [Nat.zero_add, List.map_set]; try rfl) .nil)))) (Sub.of_eq (by simp only [List.length_map, List.length_set]))) ?_
        obtain ⟨x18, hx18, h⟩ := bind_some h
        refine x_rgt (st2 := { tm := [(0, .pv (.str x18)), (1, .pv (.int .i64 p3)), (6, .osl 0 0 (List.map PV.str (List.set a (Int.toNat i) x16)).length), (7, .pv (.int .i64 i))], hp := [(0, some (.p none (List.map PV.str (List.set a (Int.toNat i) x16))))], nx := 1 }) (RegTo.mk [(.n, .e), (.n, .e), (.n, (.cutS x18)), (.n, .e)] ({ tm := [(0, .pv (.str x18)), (1, .pv (.int .i64 p3)), (6, .osl 0 0 (List.map PV.str (List.set a (Int.toNat i) x16)).length), (7, .pv (.int .i64 i))], hp := [(0, some (.p none (List.map PV.str (List.set a (Int.toNat i) x16))))], nx := 1 }) [(cut s__1 x15.2 (List.length s__1 : Int) = some x18)] (by kernel_rfl) (.cons hx18 .nil) (Sub.refl _)) ?_
        refine x_bn ?_
        refine x_tn ?_
        refine x_rgt (st2 := { tm := [(0, .pv (.str x18)), (1, .pv (.int .i64 p3)), (6, .osl 0 0 (List.map PV.str (List.set a (Int.toNat i) x16)).length), (7, .pv (.int .i64 (IntKind.wrap .i64 (i + 1))))], hp := [(0, some (.p none (List.map PV.str (List.set a (Int.toNat i) x16))))], nx := 1 }) (RegTo.mk [(.n, .e), (.n, .e), (.n, .e)] ({ tm := [(0, .pv (.str x18)), (1, .pv (.int .i64 p3)), (6, .osl 0 0 (List.map PV.str (List.set a (Int.toNat i) x16)).length), (7, .pv (.int .i64 (IntKind.wrap .i64 (i + 1))))], hp := [(0, some (.p none (List.map PV.str (List.set a (Int.toNat i) x16))))], nx := 1 }) [] (by kernel_rfl) .nil (Sub.refl _)) ?_
        refine x_tn ?_
        exact ⟨_, (Option.some.inj h).symm, by kernel_rfl⟩
      · replace h := ite_f h hc14
        refine x_kw (st2 := { tm := [(0, .pv (.str s__1)), (1, .pv (.int .i64 p3)), (6, .osl 0 0 (List.map PV.str a).length)], hp := [(0, some (.p none (List.map PV.str a)))], nx := 1 }) ({ tm := [(0, .pv (.str s__1)), (1, .pv (.int .i64 p3)), (6, .osl 0 0 (List.map PV.str a).length)], hp := [(0, some (.p none (List.map PV.str a)))], nx := 1 }) (by kernel_rfl) (Sub.refl _) ?_
        refine x_exit ?_
        refine x_te ?_
        refine x_te ?_
        replace h := done_map h hx13
        unfold strings_explode_A21 at h
        refine x_bh ?_
        refine x_tn ?_
        refine x_seq ?_
        refine x_rg (st2 := { tm := [(0, .pv (.str s__1)), (1, .pv (.int .i64 p3)), (6, .osl 0 0 (List.map PV.str a).length), (43, .pv (.bool (decide (0 < p3))))], hp := [(0, some (.p none (List.map PV.str a)))], nx := 1 }) (RegTo.mk [(.n, .e), (.n, .e)] ({ tm := [(0, .pv (.str s__1)), (1, .pv (.int .i64 p3)), (6, .osl 0 0 (List.map PV.str a).length), (43, .pv (.bool (decide (0 < p3))))], hp := [(0, some (.p none (List.map PV.str a)))], nx := 1 }) [] (by kernel_rfl) .nil (Sub.refl _)) ?_
        refine x_cond _ rfl (fun hc19 => ?_) (fun hc19 => ?_)
        · replace h := ite_t h hc19
          obtain ⟨x20, hx20, h⟩ := bind_some h
          refine x_rgt (st2 := { tm := [(6, .osl 0 0 (List.map PV.str (List.set a (Int.toNat (IntKind.wrap .i64 (p3 - 1))) s__1)).length)], hp := [(0, some (.p none (List.map PV.str (List.set a (Int.toNat (IntKind.wrap .i64 (p3 - 1))) s__1))))], nx := 1 }) (RegTo.mk [(.n, .e), (.n, .e), (.n, .e), (.n, .e), (.n, .rAt), (.n, (.set (.str x20) (List.map PV.str (List.set a (Int.toNat (IntKind.wrap .i64 (p3 - 1))) s__1))))] ({ tm := [(6, .osl 0 0 (List.map PV.str a).length)], hp := [(0, some (.p none (List.map PV.str (List.set a (Int.toNat (IntKind.wrap .i64 (p3 - 1))) s__1))))], nx := 1 }) [(0 ≤ ((IntKind.wrap .i64 (p3 - 1)) : Int) ∧ Int.toNat (IntKind.wrap .i64 (p3 - 1)) < (List.map PV.str a).length), ((List.map PV.str a)[(0 + Int.toNat (IntKind.wrap .i64 (p3 - 1)))]? = some (.str x20)), (List.set (List.map PV.str a) (0 + Int.toNat (IntKind.wrap .i64 (p3 - 1))) (.str s__1) = (List.map PV.str (List.set a (Int.toNat (IntKind.wrap .i64 (p3 - 1))) s__1)))] (by kernel_rfl) (.cons (rAt_ob hx20 (by simp)) (.cons (ownAt hx20) (.cons (by rw [Nat.zero_add, List.map_set]; try rfl) .nil))) (Sub.of_eq (by simp only [List.length_map, List.length_set]))) ?_
          refine x_tn ?_
          refine x_rg (st2 := { tm := [(4, .osl 0 0 (List.map PV.str (List.set a (Int.toNat (IntKind.wrap .i64 (p3 - 1))) s__1)).length)], hp := [(0, some (.p none (List.map PV.str (List.set a (Int.toNat (IntKind.wrap .i64 (p3 - 1))) s__1))))], nx := 1 }) (RegTo.mk [(.n, .e), (.n, .e)] ({ tm := [(4, .osl 0 0 (List.map PV.str (List.set a (Int.toNat (IntKind.wrap .i64 (p3 - 1))) s__1)).length)], hp := [(0, some (.p none (List.map PV.str (List.set a (Int.toNat (IntKind.wrap .i64 (p3 - 1))) s__1))))], nx := 1 }) [] (by kernel_rfl) .nil (Sub.refl _)) ?_
          refine x_toret ?_
          obtain rfl := Option.some.inj h
          exact x_ret (.usl none (List.take (List.map PV.str (List.set a (Int.toNat (IntKind.wrap .i64 (p3 - 1))) s__1)).length (List.map PV.str (List.set a (Int.toNat (IntKind.wrap .i64 (p3 - 1))) s__1)))) [0] [(List.map PV.str (List.set a (Int.toNat (IntKind.wrap .i64 (p3 - 1))) s__1)).length ≤ List.length (List.map PV.str (List.set a (Int.toNat (IntKind.wrap .i64 (p3 - 1))) s__1))] (by kernel_rfl) (.cons (Nat.le_refl _) .nil) (by decide) (.of_eq (by rw [List.take_length])) (fun _ => (usl_ns (sh := none) (fun _ => rfl)))
        · replace h := ite_f h hc19
          refine x_kw (st2 := { tm := [(6, .osl 0 0 (List.map PV.str a).length)], hp := [(0, some (.p none (List.map PV.str a)))], nx := 1 }) ({ tm := [(6, .osl 0 0 (List.map PV.str a).length)], hp := [(0, some (.p none (List.map PV.str a)))], nx := 1 }) (by kernel_rfl) (Sub.refl _) ?_
          refine x_skip ?_
          refine x_tn ?_
          refine x_rg (st2 := { tm := [(4, .osl 0 0 (List.map PV.str a).length)], hp := [(0, some (.p none (List.map PV.str a)))], nx := 1 }) (RegTo.mk [(.n, .e), (.n, .e)] ({ tm := [(4, .osl 0 0 (List.map PV.str a).length)], hp := [(0, some (.p none (List.map PV.str a)))], nx := 1 }) [] (by kernel_rfl) .nil (Sub.refl _)) ?_
          refine x_toret ?_
          obtain rfl := Option.some.inj h
          exact x_ret (.usl none (List.take (List.map PV.str a).length (List.map PV.str a))) [0] [(List.map PV.str a).length ≤ List.length (List.map PV.str a)] (by kernel_rfl) (.cons (Nat.le_refl _) .nil) (by decide) (.of_eq (by rw [List.take_length])) (fun _ => (usl_ns (sh := none) (fun _ => rfl)))
  · refine x_rg (st2 := { tm := [(0, .pv (.str s_)), (1, .pv (.int .i64 n)), (5, .pv (.int .i64 x1)), (18, .pv (.bool ((decide (n < 0)) || (decide (x1 < n)))))], hp := [], nx := 0 }) ?_ ?_
    · rcases Bool.eq_false_or_eq_true (decide (n < 0)) with hg22 | hg22
      · exact RegTo.mk [(.n, .e), (.n, .e), (.n, .e), (.s, .e), (.s, .e), (.s, .e), (.n, (.pk true))] ({ tm := [(0, .pv (.str s_)), (1, .pv (.int .i64 n)), (5, .pv (.int .i64 x1)), (18, .pv (.bool true))], hp := [], nx := 0 }) [((decide (n < 0)) = true), ((decide (n < 0)) = true), ((decide (n < 0)) = true), ((decide (n < 0)) = true)] (by kernel_rfl) (.cons hg22 (.cons hg22 (.cons hg22 (.cons hg22 .nil)))) (.of_eq (by simp only [hg22, Bool.true_or, Bool.false_or, Bool.true_and, Bool.false_and, Bool.or_true, Bool.or_false, Bool.and_true, Bool.and_false, Bool.false_eq_true, if_true, if_false, reduceIte]))
      · exact RegTo.mk [(.n, .e), (.n, .e), (.n, .e), (.y, .e), (.y, .e), (.y, .e), (.n, (.pk false))] ({ tm := [(0, .pv (.str s_)), (1, .pv (.int .i64 n)), (5, .pv (.int .i64 x1)), (18, .pv (.bool (decide (x1 < n))))], hp := [], nx := 0 }) [((decide (n < 0)) = false), ((decide (n < 0)) = false), ((decide (n < 0)) = false), ((decide (n < 0)) = false)] (by kernel_rfl) (.cons hg22 (.cons hg22 (.cons hg22 (.cons hg22 .nil)))) (.of_eq (by simp only [hg22, Bool.true_or, Bool.false_or, Bool.true_and, Bool.false_and, Bool.or_true, Bool.or_false, Bool.and_true, Bool.and_false, Bool.false_eq_true, if_true, if_false, reduceIte]))
    · refine x_cond _ rfl (fun hc24 => ?_) (fun hc24 => ?_)
      · replace h := ite_t h hc24
        refine x_rgt (st2 := { tm := [(0, .pv (.str s_)), (1, .pv (.int .i64 x1))], hp := [], nx := 0 }) (RegTo.mk [(.n, .e), (.n, .e)] ({ tm := [(0, .pv (.str s_)), (1, .pv (.int .i64 x1))], hp := [], nx := 0 }) [] (by kernel_rfl) .nil (Sub.refl _)) ?_
        refine x_tn ?_
        exact ⟨x1, h, by kernel_rfl⟩
      · replace h := ite_f h hc24
        refine x_kw (st2 := { tm := [(0, .pv (.str s_)), (1, .pv (.int .i64 n))], hp := [], nx := 0 }) ({ tm := [(0, .pv (.str s_)), (1, .pv (.int .i64 n))], hp := [], nx := 0 }) (by kernel_rfl) (Sub.refl _) ?_
        refine x_skip ?_
        refine x_tn ?_
        exact ⟨n, h, by kernel_rfl⟩

theorem c41 {a0 : Str} {a1 : Str} {r : Int} (h : strings_Count a0 a1 = some r) : CallOK Tryd.prog 41 [.str a0, .str a1] (.int .i64 r) true :=
  ok_count Tryd.func41 (by kernel_rfl) (by kernel_rfl) Tryd.strings_Count_one h

theorem c42 {a0 : Str} {a1 : Str} {r : Int} (h : strings_Index a0 a1 = some r) : CallOK Tryd.prog 42 [.str a0, .str a1] (.int .i64 r) true :=
  ok_index Tryd.func42 (by kernel_rfl) (by kernel_rfl) Tryd.strings_Index_one h

theorem c35 {s_ : Str} {sep : Str} {sepSave : Int} {n : Int} {r : (List Str)} (h : strings_genSplit s_ sep sepSave n = some r) : CallOK Tryd.prog 35 [.str s_, .str sep, .int .i64 sepSave, .int .i64 n] (.usl none (List.map PV.str r)) true := by
  apply ok35
  unfold strings_genSplit at h
  refine x_rg (st2 := { tm := [(0, .pv (.str s_)), (1, .pv (.str sep)), (2, .pv (.int .i64 sepSave)), (3, .pv (.int .i64 n))], hp := [], nx := 0 }) (RegTo.mk [(.n, .e)] ({ tm := [(0, .pv (.str s_)), (1, .pv (.str sep)), (2, .pv (.int .i64 sepSave)), (3, .pv (.int .i64 n))], hp := [], nx := 0 }) [] (by kernel_rfl) .nil (Sub.refl _)) ?_
  refine x_seq ?_
  refine x_rg (st2 := { tm := [(0, .pv (.str s_)), (1, .pv (.str sep)), (2, .pv (.int .i64 sepSave)), (3, .pv (.int .i64 n)), (13, .pv (.bool (decide (n = 0))))], hp := [], nx := 0 }) (RegTo.mk [(.n, .e), (.n, .e)] ({ tm := [(0, .pv (.str s_)), (1, .pv (.str sep)), (2, .pv (.int .i64 sepSave)), (3, .pv (.int .i64 n)), (13, .pv (.bool (decide (n = 0))))], hp := [], nx := 0 }) [] (by kernel_rfl) .nil (Sub.refl _)) ?_
  refine x_cond _ rfl (fun hc1 => ?_) (fun hc1 => ?_)
  · replace h := ite_t h hc1
    refine x_rg (st2 := { tm := [(8, .pv (.nilsl))], hp := [], nx := 0 }) (RegTo.mk [(.n, .e)] ({ tm := [(8, .pv (.nilsl))], hp := [], nx := 0 }) [] (by kernel_rfl) .nil (Sub.refl _)) ?_
    refine x_toret ?_
    refine x_tr ?_
    obtain rfl := Option.some.inj h
    exact x_ret (.nilsl) [] [] (by kernel_rfl) .nil (by decide) (.nilUsl _) (fun _ => (usl_ns (sh := none) (fun _ => rfl)))
  · replace h := ite_f h hc1
    refine x_kw (st2 := { tm := [(0, .pv (.str s_)), (1, .pv (.str sep)), (2, .pv (.int .i64 sepSave)), (3, .pv (.int .i64 n))], hp := [], nx := 0 }) ({ tm := [(0, .pv (.str s_)), (1, .pv (.str sep)), (2, .pv (.int .i64 sepSave)), (3, .pv (.int .i64 n))], hp := [], nx := 0 }) (by kernel_rfl) (Sub.refl _) ?_
    refine x_skip ?_
    refine x_tn ?_
    refine x_seq ?_
    refine x_rg (st2 := { tm := [(0, .pv (.str s_)), (1, .pv (.str sep)), (2, .pv (.int .i64 sepSave)), (3, .pv (.int .i64 n)), (15, .pv (.bool (decide (sep = []))))], hp := [], nx := 0 }) (RegTo.mk [(.n, .e), (.n, .e)] ({ tm := [(0, .pv (.str s_)), (1, .pv (.str sep)), (2, .pv (.int .i64 sepSave)), (3, .pv (.int .i64 n)), (15, .pv (.bool (decide (sep = []))))], hp := [], nx := 0 }) [] (by kernel_rfl) .nil (Sub.refl _)) ?_
    refine x_cond _ rfl (fun hc2 => ?_) (fun hc2 => ?_)
    · replace h := ite_t h hc2
      obtain ⟨x3, hx3, h⟩ := bind_some h
      refine x_rg (st2 := { tm := [(8, .osl 0 0 (List.map PV.str x3).length)], hp := [(0, some (.p none (List.map PV.str x3)))], nx := 1 }) (RegTo.mk [(.n, .e), (.n, .e), (.n, (.call [.str s_, .int .i64 n] (.usl none (List.map PV.str x3)) true)), (.n, .e)] ({ tm := [(8, .osl 0 0 (List.map PV.str x3).length)], hp := [(0, some (.p none (List.map PV.str x3)))], nx := 1 }) [(LesA [.str s_, .int .i64 n] [.str s_, .int .i64 n]), (CallOK Tryd.prog 40 [.str s_, .int .i64 n] (.usl none (List.map PV.str x3)) true)] (by kernel_rfl) (.cons (LesA.rfl' _) (.cons (c40 hx3) .nil)) (Sub.refl _)) ?_
      refine x_toret ?_
      refine x_tr ?_
      obtain rfl := Option.some.inj h
      exact x_ret (.usl none (List.take (List.map PV.str x3).length (List.map PV.str x3))) [0] [(List.map PV.str x3).length ≤ List.length (List.map PV.str x3)] (by kernel_rfl) (.cons (Nat.le_refl _) .nil) (by decide) (.of_eq (by rw [List.take_length])) (fun _ => (usl_ns (sh := none) (fun _ => rfl)))
    · replace h := ite_f h hc2
      refine x_kw (st2 := { tm := [(0, .pv (.str s_)), (1, .pv (.str sep)), (2, .pv (.int .i64 sepSave)), (3, .pv (.int .i64 n))], hp := [], nx := 0 }) ({ tm := [(0, .pv (.str s_)), (1, .pv (.str sep)), (2, .pv (.int .i64 sepSave)), (3, .pv (.int .i64 n))], hp := [], nx := 0 }) (by kernel_rfl) (Sub.refl _) ?_
      refine x_skip ?_
      refine x_tn ?_
      refine x_join (τ := Int) (fun t => strings_genSplit_K4 s_ sep sepSave t = some r) (fun t => { tm := [(0, .pv (.str s_)), (1, .pv (.str sep)), (2, .pv (.int .i64 sepSave)), (3, .pv (.int .i64 t))], hp := [], nx := 0 }) ?_ ?_
      · rintro p5 h
        replace h : strings_genSplit_K4 s_ sep sepSave p5 = some r := h
        unfold strings_genSplit_K4 at h
        refine x_rg (st2 := { tm := [(0, .pv (.str s_)), (1, .pv (.str sep)), (2, .pv (.int .i64 sepSave)), (3, .pv (.int .i64 (min p5 (IntKind.wrap .i64 ((List.length s_ : Int) + 1)))))], hp := [], nx := 0 }) (RegTo.mk [(.n, .e), (.n, .e), (.n, .e), (.n, .e), (.n, .e), (.n, .e)] ({ tm := [(0, .pv (.str s_)), (1, .pv (.str sep)), (2, .pv (.int .i64 sepSave)), (3, .pv (.int .i64 (min p5 (IntKind.wrap .i64 ((List.length s_ : Int) + 1)))))], hp := [], nx := 0 }) [] (by kernel_rfl) .nil (Sub.refl _)) ?_
        obtain ⟨x6, hx6, h⟩ := bind_some h
        refine x_rg (st2 := { tm := [(0, .pv (.str s_)), (1, .pv (.str sep)), (2, .pv (.int .i64 sepSave)), (3, .pv (.int .i64 (min p5 (IntKind.wrap .i64 ((List.length s_ : Int) + 1))))), (9, .osl 0 0 (List.map PV.str x6).length)], hp := [(0, some (.p none (List.map PV.str x6)))], nx := 1 }) (RegTo.mk [(.n, .e), (.n, (.mk (List.map PV.str x6))), (.n, .e)] ({ tm := [(0, .pv (.str s_)), (1, .pv (.str sep)), (2, .pv (.int .i64 sepSave)), (3, .pv (.int .i64 (min p5 (IntKind.wrap .i64 ((List.length s_ : Int) + 1))))), (9, .osl 0 0 (List.map PV.str x6).length)], hp := [(0, some (.p none (List.map PV.str x6)))], nx := 1 }) [(mkL 16 (.str []) (min p5 (IntKind.wrap .i64 ((List.length s_ : Int) + 1))) = some (List.map PV.str x6)), (((min p5 (IntKind.wrap .i64 ((List.length s_ : Int) + 1))) : Int) = (min p5 (IntKind.wrap .i64 ((List.length s_ : Int) + 1))))] (by kernel_rfl) (.cons (mkL_map hx6) (.cons rfl .nil)) (Sub.refl _)) ?_
        refine x_rg (st2 := { tm := [(0, .pv (.str s_)), (1, .pv (.str sep)), (2, .pv (.int .i64 sepSave)), (3, .pv (.int .i64 (IntKind.wrap .i64 ((min p5 (IntKind.wrap .i64 ((List.length s_ : Int) + 1))) - 1)))), (9, .osl 0 0 (List.map PV.str x6).length)], hp := [(0, some (.p none (List.map PV.str x6)))], nx := 1 }) (RegTo.mk [(.n, .e), (.n, .e), (.n, .e)] ({ tm := [(0, .pv (.str s_)), (1, .pv (.str sep)), (2, .pv (.int .i64 sepSave)), (3, .pv (.int .i64 (IntKind.wrap .i64 ((min p5 (IntKind.wrap .i64 ((List.length s_ : Int) + 1))) - 1)))), (9, .osl 0 0 (List.map PV.str x6).length)], hp := [(0, some (.p none (List.map PV.str x6)))], nx := 1 }) [] (by kernel_rfl) .nil (Sub.refl _)) ?_
        refine x_rg (st2 := { tm := [(0, .pv (.str s_)), (1, .pv (.str sep)), (2, .pv (.int .i64 sepSave)), (3, .pv (.int .i64 (IntKind.wrap .i64 ((min p5 (IntKind.wrap .i64 ((List.length s_ : Int) + 1))) - 1)))), (9, .osl 0 0 (List.map PV.str x6).length), (10, .pv (.int .i64 0))], hp := [(0, some (.p none (List.map PV.str x6)))], nx := 1 }) (RegTo.mk [(.n, .e)] ({ tm := [(0, .pv (.str s_)), (1, .pv (.str sep)), (2, .pv (.int .i64 sepSave)), (3, .pv (.int .i64 (IntKind.wrap .i64 ((min p5 (IntKind.wrap .i64 ((List.length s_ : Int) + 1))) - 1)))), (9, .osl 0 0 (List.map PV.str x6).length), (10, .pv (.int .i64 0))], hp := [(0, some (.p none (List.map PV.str x6)))], nx := 1 }) [] (by kernel_rfl) .nil (Sub.refl _)) ?_
        refine x_join (τ := (Str × Int × (List Str))) (fun t => strings_genSplit_K7 t.1 t.2.1 t.2.2 = some r) (fun t => { tm := [(0, .pv (.str t.1)), (9, .osl 0 0 (List.map PV.str t.2.2).length), (10, .pv (.int .i64 t.2.1))], hp := [(0, some (.p none (List.map PV.str t.2.2)))], nx := 1 }) ?_ ?_
        · rintro ⟨p8, p9, p10⟩ h
          replace h : strings_genSplit_K7 p8 p9 p10 = some r := h
          unfold strings_genSplit_K7 at h
          obtain ⟨x11, hx11, h⟩ := bind_some h
          refine x_rg (st2 := { tm := [(9, .osl 0 0 (List.map PV.str (List.set p10 (Int.toNat p9) p8)).length), (10, .pv (.int .i64 p9))], hp := [(0, some (.p none (List.map PV.str (List.set p10 (Int.toNat p9) p8))))], nx := 1 }) (RegTo.mk [(.n, .e), (.n, .e), (.n, .e), (.n, .rAt), (.n, (.set (.str x11) (List.map PV.str (List.set p10 (Int.toNat p9) p8))))] ({ tm := [(9, .osl 0 0 (List.map PV.str p10).length), (10, .pv (.int .i64 p9))], hp := [(0, some (.p none (List.map PV.str (List.set p10 (Int.toNat p9) p8))))], nx := 1 }) [(0 ≤ (p9 : Int) ∧ Int.toNat p9 < (List.map PV.str p10).length), ((List.map PV.str p10)[(0 + Int.toNat p9)]? = some (.str x11)), (List.set (List.map PV.str p10) (0 + Int.toNat p9) (.str p8) = (List.map PV.str (List.set p10 (Int.toNat p9) p8)))] (by kernel_rfl) (.cons (rAt_ob hx11 (by simp)) (.cons (ownAt hx11) (.cons (by rw [Nat.zero_add, List.map_set]; try rfl) .nil))) (Sub.of_eq (by simp only [List.length_map, List.length_set]))) ?_
          obtain ⟨x12, hx12, h⟩ := bind_some h
          refine x_rg (st2 := { tm := [(8, .osl 0 0 (List.map PV.str x12).length)], hp := [(0, some (.p none (List.map PV.str x12)))], nx := 1 }) (RegTo.mk [(.n, .e), (.n, .e), (.n, .e), (.n, .cutR), (.n, .e)] ({ tm := [(8, .osl 0 (0 + Int.toNat 0) (Int.toNat (IntKind.wrap .i64 (p9 + 1)) - Int.toNat 0))], hp := [(0, some (.p none (List.map PV.str (List.set p10 (Int.toNat p9) p8))))], nx := 1 }) [(0 ≤ (0 : Int) ∧ (0 : Int) ≤ (IntKind.wrap .i64 (p9 + 1)) ∧ (IntKind.wrap .i64 (p9 + 1)) ≤ (((List.map PV.str (List.set p10 (Int.toNat p9) p8)).length : Nat) : Int))] (by kernel_rfl) (.cons (cutR_ob hx12 (by simp)) .nil) (((Sub.of_eq (show ({ tm := [(8, .osl 0 0 (List.map PV.str x12).length)], hp := [(0, some (.p none (List.map PV.str x12)))], nx := 1 } : VSt) = trimSt 0 (Int.toNat (IntKind.wrap .i64 (p9 + 1)) - Int.toNat 0) ({ tm := [(8, .osl 0 (0 + Int.toNat 0) (Int.toNat (IntKind.wrap .i64 (p9 + 1)) - Int.toNat 0))], hp := [(0, some (.p none (List.map PV.str (List.set p10 (Int.toNat p9) p8))))], nx := 1 }) from (show ({ tm := [(8, .osl 0 0 (List.map PV.str x12).length)], hp := [(0, some (.p none (List.map PV.str x12)))], nx := 1 } : VSt) = { tm := [(8, .osl 0 (0 + Int.toNat 0) (Int.toNat (IntKind.wrap .i64 (p9 + 1)) - Int.toNat 0))], hp := [(0, some (.p none (List.take (Int.toNat (IntKind.wrap .i64 (p9 + 1)) - Int.toNat 0) (List.map PV.str (List.set p10 (Int.toNat p9) p8)))))], nx := 1 } from (by rw [(cutR_f hx12).2, (cutR_f hx12).1]; try rfl)).trans (by kernel_rfl))).trans (Sub.trim 0 (Int.toNat (IntKind.wrap .i64 (p9 + 1)) - Int.toNat 0) _)))) ?_
          refine x_toret ?_
          obtain rfl := Option.some.inj h
          exact x_ret (.usl none (List.take (List.map PV.str x12).length (List.map PV.str x12))) [0] [(List.map PV.str x12).length ≤ List.length (List.map PV.str x12)] (by kernel_rfl) (.cons (Nat.le_refl _) .nil) (by decide) (.of_eq (by rw [List.take_length])) (fun _ => (usl_ns (sh := none) (fun _ => rfl)))
        · refine x_block ?_
          refine x_kw (st2 := { tm := [(0, .pv (.str s_)), (1, .pv (.str sep)), (2, .pv (.int .i64 sepSave)), (3, .pv (.int .i64 (IntKind.wrap .i64 ((min p5 (IntKind.wrap .i64 ((List.length s_ : Int) + 1))) - 1)))), (9, .osl 0 0 (List.map PV.str x6).length), (10, .pv (.int .i64 0))], hp := [(0, some (.p none (List.map PV.str x6)))], nx := 1 }) ({ tm := [(0, .pv (.str s_)), (1, .pv (.str sep)), (2, .pv (.int .i64 sepSave)), (3, .pv (.int .i64 (IntKind.wrap .i64 ((min p5 (IntKind.wrap .i64 ((List.length s_ : Int) + 1))) - 1)))), (9, .osl 0 0 (List.map PV.str x6).length), (10, .pv (.int .i64 0))], hp := [(0, some (.p none (List.map PV.str x6)))], nx := 1 }) (by kernel_rfl) (Sub.refl _) ?_
          refine x_loop (σ := (Str × Int × (List Str))) h (fun s => { tm := [(0, .pv (.str s.1)), (1, .pv (.str sep)), (2, .pv (.int .i64 sepSave)), (3, .pv (.int .i64 (IntKind.wrap .i64 ((min p5 (IntKind.wrap .i64 ((List.length s_ : Int) + 1))) - 1)))), (9, .osl 0 0 (List.map PV.str s.2.2).length), (10, .pv (.int .i64 s.2.1))], hp := [(0, some (.p none (List.map PV.str s.2.2)))], nx := 1 }) (by kernel_rfl) ?_ ?_
          · rintro ⟨s__2, i_1, a_1⟩
            kernel_rfl
          · rintro ⟨s__2, i_1, a_1⟩ x22 h hx22
            replace h : strings_genSplit_L22 s_ sep sepSave p5 s__2 i_1 a_1 = some x22 := h
            unfold strings_genSplit_L22 at h
            refine x_seq ?_
            refine x_rg (st2 := { tm := [(0, .pv (.str s__2)), (1, .pv (.str sep)), (2, .pv (.int .i64 sepSave)), (3, .pv (.int .i64 (IntKind.wrap .i64 ((min p5 (IntKind.wrap .i64 ((List.length s_ : Int) + 1))) - 1)))), (9, .osl 0 0 (List.map PV.str a_1).length), (10, .pv (.int .i64 i_1)), (36, .pv (.bool (decide (i_1 < (IntKind.wrap .i64 ((min p5 (IntKind.wrap .i64 ((List.length s_ : Int) + 1))) - 1))))))], hp := [(0, some (.p none (List.map PV.str a_1)))], nx := 1 }) (RegTo.mk [(.n, .e), (.n, .e), (.n, .e)] ({ tm := [(0, .pv (.str s__2)), (1, .pv (.str sep)), (2, .pv (.int .i64 sepSave)), (3, .pv (.int .i64 (IntKind.wrap .i64 ((min p5 (IntKind.wrap .i64 ((List.length s_ : Int) + 1))) - 1)))), (9, .osl 0 0 (List.map PV.str a_1).length), (10, .pv (.int .i64 i_1)), (36, .pv (.bool (decide (i_1 < (IntKind.wrap .i64 ((min p5 (IntKind.wrap .i64 ((List.length s_ : Int) + 1))) - 1))))))], hp := [(0, some (.p none (List.map PV.str a_1)))], nx := 1 }) [] (by kernel_rfl) .nil (Sub.refl _)) ?_
            refine x_cond _ rfl (fun hc23 => ?_) (fun hc23 => ?_)
            · replace h := ite_t h hc23
              refine x_kw (st2 := { tm := [(0, .pv (.str s__2)), (1, .pv (.str sep)), (2, .pv (.int .i64 sepSave)), (3, .pv (.int .i64 (IntKind.wrap .i64 ((min p5 (IntKind.wrap .i64 ((List.length s_ : Int) + 1))) - 1)))), (9, .osl 0 0 (List.map PV.str a_1).length), (10, .pv (.int .i64 i_1))], hp := [(0, some (.p none (List.map PV.str a_1)))], nx := 1 }) ({ tm := [(0, .pv (.str s__2)), (1, .pv (.str sep)), (2, .pv (.int .i64 sepSave)), (3, .pv (.int .i64 (IntKind.wrap .i64 ((min p5 (IntKind.wrap .i64 ((List.length s_ : Int) + 1))) - 1)))), (9, .osl 0 0 (List.map PV.str a_1).length), (10, .pv (.int .i64 i_1))], hp := [(0, some (.p none (List.map PV.str a_1)))], nx := 1 }) (by kernel_rfl) (Sub.refl _) ?_
              refine x_skip ?_
              refine x_tn ?_
              refine x_block ?_
              obtain ⟨x24, hx24, h⟩ := bind_some h
              refine x_rg (st2 := { tm := [(0, .pv (.str s__2)), (1, .pv (.str sep)), (2, .pv (.int .i64 sepSave)), (3, .pv (.int .i64 (IntKind.wrap .i64 ((min p5 (IntKind.wrap .i64 ((List.length s_ : Int) + 1))) - 1)))), (9, .osl 0 0 (List.map PV.str a_1).length), (10, .pv (.int .i64 i_1)), (11, .pv (.int .i64 x24))], hp := [(0, some (.p none (List.map PV.str a_1)))], nx := 1 }) (RegTo.mk [(.n, .e), (.n, .e), (.n, (.call [.str s__2, .str sep] (.int .i64 x24) true)), (.n, .e)] ({ tm := [(0, .pv (.str s__2)), (1, .pv (.str sep)), (2, .pv (.int .i64 sepSave)), (3, .pv (.int .i64 (IntKind.wrap .i64 ((min p5 (IntKind.wrap .i64 ((List.length s_ : Int) + 1))) - 1)))), (9, .osl 0 0 (List.map PV.str a_1).length), (10, .pv (.int .i64 i_1)), (11, .pv (.int .i64 x24))], hp := [(0, some (.p none (List.map PV.str a_1)))], nx := 1 }) [(LesA [.str s__2, .str sep] [.str s__2, .str sep]), (CallOK Tryd.prog 42 [.str s__2, .str sep] (.int .i64 x24) true)] (by kernel_rfl) (.cons (LesA.rfl' _) (.cons (c42 hx24) .nil)) (Sub.refl _)) ?_
              refine x_seq ?_
              refine x_rg (st2 := { tm := [(0, .pv (.str s__2)), (1, .pv (.str sep)), (2, .pv (.int .i64 sepSave)), (3, .pv (.int .i64 (IntKind.wrap .i64 ((min p5 (IntKind.wrap .i64 ((List.length s_ : Int) + 1))) - 1)))), (9, .osl 0 0 (List.map PV.str a_1).length), (10, .pv (.int .i64 i_1)), (11, .pv (.int .i64 x24)), (41, .pv (.bool (decide (x24 < 0))))], hp := [(0, some (.p none (List.map PV.str a_1)))], nx := 1 }) (RegTo.mk [(.n, .e), (.n, .e)] ({ tm := [(0, .pv (.str s__2)), (1, .pv (.str sep)), (2, .pv (.int .i64 sepSave)), (3, .pv (.int .i64 (IntKind.wrap .i64 ((min p5 (IntKind.wrap .i64 ((List.length s_ : Int) + 1))) - 1)))), (9, .osl 0 0 (List.map PV.str a_1).length), (10, .pv (.int .i64 i_1)), (11, .pv (.int .i64 x24)), (41, .pv (.bool (decide (x24 < 0))))], hp := [(0, some (.p none (List.map PV.str a_1)))], nx := 1 }) [] (by kernel_rfl) .nil (Sub.refl _)) ?_
              refine x_cond _ rfl (fun hc25 => ?_) (fun hc25 => ?_)
              · replace h := ite_t h hc25
                refine x_kw (st2 := { tm := [(0, .pv (.str s__2)), (9, .osl 0 0 (List.map PV.str a_1).length), (10, .pv (.int .i64 i_1))], hp := [(0, some (.p none (List.map PV.str a_1)))], nx := 1 }) ({ tm := [(0, .pv (.str s__2)), (9, .osl 0 0 (List.map PV.str a_1).length), (10, .pv (.int .i64 i_1))], hp := [(0, some (.p none (List.map PV.str a_1)))], nx := 1 }) (by kernel_rfl) (Sub.refl _) ?_
                refine x_exit ?_
                refine x_te ?_
                refine x_be ?_ (by decide)
                refine x_te ?_
                replace h := done_map h hx22
                refine x_bh ?_
                refine x_tn ?_
                exact ⟨(s__2, i_1, a_1), h, by kernel_rfl⟩
              · replace h := ite_f h hc25
                refine x_kw (st2 := { tm := [(0, .pv (.str s__2)), (1, .pv (.str sep)), (2, .pv (.int .i64 sepSave)), (3, .pv (.int .i64 (IntKind.wrap .i64 ((min p5 (IntKind.wrap .i64 ((List.length s_ : Int) + 1))) - 1)))), (9, .osl 0 0 (List.map PV.str a_1).length), (10, .pv (.int .i64 i_1)), (11, .pv (.int .i64 x24))], hp := [(0, some (.p none (List.map PV.str a_1)))], nx := 1 }) ({ tm := [(0, .pv (.str s__2)), (1, .pv (.str sep)), (2, .pv (.int .i64 sepSave)), (3, .pv (.int .i64 (IntKind.wrap .i64 ((min p5 (IntKind.wrap .i64 ((List.length s_ : Int) + 1))) - 1)))), (9, .osl 0 0 (List.map PV.str a_1).length), (10, .pv (.int .i64 i_1)), (11, .pv (.int .i64 x24))], hp := [(0, some (.p none (List.map PV.str a_1)))], nx := 1 }) (by kernel_rfl) (Sub.refl _) ?_
                refine x_skip ?_
                refine x_tn ?_
                obtain ⟨x26, hx26, h⟩ := bind_some h
                obtain ⟨x27, hx27, h⟩ := bind_some h
                refine x_rg (st2 := { tm := [(0, .pv (.str s__2)), (1, .pv (.str sep)), (2, .pv (.int .i64 sepSave)), (3, .pv (.int .i64 (IntKind.wrap .i64 ((min p5 (IntKind.wrap .i64 ((List.length s_ : Int) + 1))) - 1)))), (9, .osl 0 0 (List.map PV.str (List.set a_1 (Int.toNat i_1) x26)).length), (10, .pv (.int .i64 i_1)), (11, .pv (.int .i64 x24))], hp := [(0, some (.p none (List.map PV.str (List.set a_1 (Int.toNat i_1) x26))))], nx := 1 }) (RegTo.mk [(.n, .e), (.n, .e), (.n, .e), (.n, .e), (.n, .e), (.n, .e), (.n, (.cutS x26)), (.n, .rAt), (.n, (.set (.str x27) (List.map PV.str (List.set a_1 (Int.toNat i_1) x26))))] ({ tm := [(0, .pv (.str s__2)), (1, .pv (.str sep)), (2, .pv (.int .i64 sepSave)), (3, .pv (.int .i64 (IntKind.wrap .i64 ((min p5 (IntKind.wrap .i64 ((List.length s_ : Int) + 1))) - 1)))), (9, .osl 0 0 (List.map PV.str a_1).length), (10, .pv (.int .i64 i_1)), (11, .pv (.int .i64 x24))], hp := [(0, some (.p none (List.map PV.str (List.set a_1 (Int.toNat i_1) x26))))], nx := 1 }) [(cut s__2 0 (IntKind.wrap .i64 (x24 + sepSave)) = some x26), (0 ≤ (i_1 : Int) ∧ Int.toNat i_1 < (List.map PV.str a_1).length), ((List.map PV.str a_1)[(0 + Int.toNat i_1)]? = some (.str x27)), (List.set (List.map PV.str a_1) (0 + Int.toNat i_1) (.str x26) = (List.map PV.str (List.set a_1 (Int.toNat i_1) x26)))] (by kernel_rfl) (.cons hx26 (.cons (rAt_ob hx27 (by simp)) (.cons (ownAt hx27) (.cons (by rw [Nat.zero_add, List.map_set]; try rfl) .nil)))) (Sub.of_eq (by simp only [List.length_map, List.length_set]))) ?_
                obtain ⟨x28, hx28, h⟩ := bind_some h
                refine x_rg (st2 := { tm := [(0, .pv (.str x28)), (1, .pv (.str sep)), (2, .pv (.int .i64 sepSave)), (3, .pv (.int .i64 (IntKind.wrap .i64 ((min p5 (IntKind.wrap .i64 ((List.length s_ : Int) + 1))) - 1)))), (9, .osl 0 0 (List.map PV.str (List.set a_1 (Int.toNat i_1) x26)).length), (10, .pv (.int .i64 i_1))], hp := [(0, some (.p none (List.map PV.str (List.set a_1 (Int.toNat i_1) x26))))], nx := 1 }) (RegTo.mk [(.n, .e), (.n, .e), (.n, .e), (.n, .e), (.n, .e), (.n, (.cutS x28)), (.n, .e)] ({ tm := [(0, .pv (.str x28)), (1, .pv (.str sep)), (2, .pv (.int .i64 sepSave)), (3, .pv (.int .i64 (IntKind.wrap .i64 ((min p5 (IntKind.wrap .i64 ((List.length s_ : Int) + 1))) - 1)))), (9, .osl 0 0 (List.map PV.str (List.set a_1 (Int.toNat i_1) x26)).length), (10, .pv (.int .i64 i_1))], hp := [(0, some (.p none (List.map PV.str (List.set a_1 (Int.toNat i_1) x26))))], nx := 1 }) [(cut s__2 (IntKind.wrap .i64 (x24 + (List.length sep : Int))) (List.length s__2 : Int) = some x28)] (by kernel_rfl) (.cons hx28 .nil) (Sub.refl _)) ?_
                refine x_rgt (st2 := { tm := [(0, .pv (.str x28)), (1, .pv (.str sep)), (2, .pv (.int .i64 sepSave)), (3, .pv (.int .i64 (IntKind.wrap .i64 ((min p5 (IntKind.wrap .i64 ((List.length s_ : Int) + 1))) - 1)))), (9, .osl 0 0 (List.map PV.str (List.set a_1 (Int.toNat i_1) x26)).length), (10, .pv (.int .i64 (IntKind.wrap .i64 (i_1 + 1))))], hp := [(0, some (.p none (List.map PV.str (List.set a_1 (Int.toNat i_1) x26))))], nx := 1 }) (RegTo.mk [(.n, .e), (.n, .e), (.n, .e)] ({ tm := [(0, .pv (.str x28)), (1, .pv (.str sep)), (2, .pv (.int .i64 sepSave)), (3, .pv (.int .i64 (IntKind.wrap .i64 ((min p5 (IntKind.wrap .i64 ((List.length s_ : Int) + 1))) - 1)))), (9, .osl 0 0 (List.map PV.str (List.set a_1 (Int.toNat i_1) x26)).length), (10, .pv (.int .i64 (IntKind.wrap .i64 (i_1 + 1))))], hp := [(0, some (.p none (List.map PV.str (List.set a_1 (Int.toNat i_1) x26))))], nx := 1 }) [] (by kernel_rfl) .nil (Sub.refl _)) ?_
                refine x_bn ?_
                refine x_tn ?_
                exact ⟨_, (Option.some.inj h).symm, by kernel_rfl⟩
            · replace h := ite_f h hc23
              refine x_kw (st2 := { tm := [(0, .pv (.str s__2)), (9, .osl 0 0 (List.map PV.str a_1).length), (10, .pv (.int .i64 i_1))], hp := [(0, some (.p none (List.map PV.str a_1)))], nx := 1 }) ({ tm := [(0, .pv (.str s__2)), (9, .osl 0 0 (List.map PV.str a_1).length), (10, .pv (.int .i64 i_1))], hp := [(0, some (.p none (List.map PV.str a_1)))], nx := 1 }) (by kernel_rfl) (Sub.refl _) ?_
              refine x_exit ?_
              refine x_te ?_
              refine x_te ?_
              replace h := done_map h hx22
              refine x_bh ?_
              refine x_tn ?_
              exact ⟨(s__2, i_1, a_1), h, by kernel_rfl⟩
      · refine x_rg (st2 := { tm := [(0, .pv (.str s_)), (1, .pv (.str sep)), (2, .pv (.int .i64 sepSave)), (3, .pv (.int .i64 n)), (20, .pv (.bool (decide (n < 0))))], hp := [], nx := 0 }) (RegTo.mk [(.n, .e), (.n, .e)] ({ tm := [(0, .pv (.str s_)), (1, .pv (.str sep)), (2, .pv (.int .i64 sepSave)), (3, .pv (.int .i64 n)), (20, .pv (.bool (decide (n < 0))))], hp := [], nx := 0 }) [] (by kernel_rfl) .nil (Sub.refl _)) ?_
        refine x_cond _ rfl (fun hc29 => ?_) (fun hc29 => ?_)
        · replace h := ite_t h hc29
          obtain ⟨x30, hx30, h⟩ := bind_some h
          refine x_rgt (st2 := { tm := [(0, .pv (.str s_)), (1, .pv (.str sep)), (2, .pv (.int .i64 sepSave)), (3, .pv (.int .i64 (IntKind.wrap .i64 (x30 + 1))))], hp := [], nx := 0 }) (RegTo.mk [(.n, .e), (.n, .e), (.n, (.call [.str s_, .str sep] (.int .i64 x30) true)), (.n, .e), (.n, .e)] ({ tm := [(0, .pv (.str s_)), (1, .pv (.str sep)), (2, .pv (.int .i64 sepSave)), (3, .pv (.int .i64 (IntKind.wrap .i64 (x30 + 1))))], hp := [], nx := 0 }) [(LesA [.str s_, .str sep] [.str s_, .str sep]), (CallOK Tryd.prog 41 [.str s_, .str sep] (.int .i64 x30) true)] (by kernel_rfl) (.cons (LesA.rfl' _) (.cons (c41 hx30) .nil)) (Sub.refl _)) ?_
          refine x_tn ?_
          exact ⟨(IntKind.wrap .i64 (x30 + 1)), h, by kernel_rfl⟩
        · replace h := ite_f h hc29
          refine x_kw (st2 := { tm := [(0, .pv (.str s_)), (1, .pv (.str sep)), (2, .pv (.int .i64 sepSave)), (3, .pv (.int .i64 n))], hp := [], nx := 0 }) ({ tm := [(0, .pv (.str s_)), (1, .pv (.str sep)), (2, .pv (.int .i64 sepSave)), (3, .pv (.int .i64 n))], hp := [], nx := 0 }) (by kernel_rfl) (Sub.refl _) ?_
          refine x_skip ?_
          refine x_tn ?_
          exact ⟨n, h, by kernel_rfl⟩

theorem c32 {s_ : Str} {sep : Str} {r : (List Str)} (h : strings_Split s_ sep = some r) : CallOK Tryd.prog 32 [.str s_, .str sep] (.usl none (List.map PV.str r)) true := by
  apply ok32
  unfold strings_Split at h
  refine x_rg (st2 := { tm := [(0, .pv (.str s_)), (1, .pv (.str sep))], hp := [], nx := 0 }) (RegTo.mk [(.n, .e)] ({ tm := [(0, .pv (.str s_)), (1, .pv (.str sep))], hp := [], nx := 0 }) [] (by kernel_rfl) .nil (Sub.refl _)) ?_
  obtain ⟨x1, hx1, h⟩ := bind_some h
  refine x_rg (st2 := { tm := [(4, .osl 0 0 (List.map PV.str x1).length)], hp := [(0, some (.p none (List.map PV.str x1)))], nx := 1 }) (RegTo.mk [(.n, .e), (.n, .e), (.n, (.call [.str s_, .str sep, .int .i64 0, .int .i64 (-1)] (.usl none (List.map PV.str x1)) true)), (.n, .e)] ({ tm := [(4, .osl 0 0 (List.map PV.str x1).length)], hp := [(0, some (.p none (List.map PV.str x1)))], nx := 1 }) [(LesA [.str s_, .str sep, .int .i64 0, .int .i64 (-1)] [.str s_, .str sep, .int .i64 0, .int .i64 (-1)]), (CallOK Tryd.prog 35 [.str s_, .str sep, .int .i64 0, .int .i64 (-1)] (.usl none (List.map PV.str x1)) true)] (by kernel_rfl) (.cons (LesA.rfl' _) (.cons (c35 hx1) .nil)) (Sub.refl _)) ?_
  refine x_toret ?_
  obtain rfl := Option.some.inj h
  exact x_ret (.usl none (List.take (List.map PV.str x1).length (List.map PV.str x1))) [0] [(List.map PV.str x1).length ≤ List.length (List.map PV.str x1)] (by kernel_rfl) (.cons (Nat.le_refl _) .nil) (by decide) (.of_eq (by rw [List.take_length])) (fun _ => (usl_ns (sh := none) (fun _ => rfl)))

theorem c39 {s_ : Str} {prefix_ : Str} {r : Bool} (h : stringslite_HasPrefix s_ prefix_ = some r) : CallOK Tryd.prog 39 [.str s_, .str prefix_] (.bool r) true := by
  apply ok39
  unfold stringslite_HasPrefix at h
  refine x_rg (st2 := { tm := [(0, .pv (.str s_)), (1, .pv (.str prefix_))], hp := [], nx := 0 }) (RegTo.mk [(.n, .e)] ({ tm := [(0, .pv (.str s_)), (1, .pv (.str prefix_))], hp := [], nx := 0 }) [] (by kernel_rfl) .nil (Sub.refl _)) ?_
  obtain ⟨t3, ht, h⟩ := bind_some h
  refine x_rg (st2 := { tm := [(4, .pv (.bool t3))], hp := [], nx := 0 }) ?_ ?_
  · rcases Bool.eq_false_or_eq_true (decide ((List.length prefix_ : Int) ≤ (List.length s_ : Int))) with hg1 | hg1
    · replace ht := ite_t ht hg1
      obtain ⟨x2, hx2, ht⟩ := bind_some ht
      have e := Option.some.inj ht
      subst e
      exact RegTo.mk [(.n, .e), (.n, .e), (.n, .e), (.n, .e), (.n, .e), (.n, .e), (.y, .e), (.y, .e), (.y, .e), (.y, (.cutS x2)), (.y, .e), (.y, .e), (.n, (.pk true)), (.n, .e)] ({ tm := [(4, .pv (.bool (decide (x2 = prefix_))))], hp := [], nx := 0 }) [((decide ((List.length prefix_ : Int) ≤ (List.length s_ : Int))) = true), ((decide ((List.length prefix_ : Int) ≤ (List.length s_ : Int))) = true), ((decide ((List.length prefix_ : Int) ≤ (List.length s_ : Int))) = true), ((decide ((List.length prefix_ : Int) ≤ (List.length s_ : Int))) = true), (cut s_ 0 (List.length prefix_ : Int) = some x2), ((decide ((List.length prefix_ : Int) ≤ (List.length s_ : Int))) = true), ((decide ((List.length prefix_ : Int) ≤ (List.length s_ : Int))) = true), ((decide ((List.length prefix_ : Int) ≤ (List.length s_ : Int))) = true)] (by kernel_rfl) (.cons hg1 (.cons hg1 (.cons hg1 (.cons hg1 (.cons hx2 (.cons hg1 (.cons hg1 (.cons hg1 .nil)))))))) (Sub.refl _)
    · replace ht := ite_f ht hg1
      have e := Option.some.inj ht
      subst e
      exact RegTo.mk [(.n, .e), (.n, .e), (.n, .e), (.n, .e), (.n, .e), (.n, .e), (.s, .e), (.s, .e), (.s, .e), (.s, .e), (.s, .e), (.s, .e), (.n, (.pk false)), (.n, .e)] ({ tm := [(4, .pv (.bool false))], hp := [], nx := 0 }) [((decide ((List.length prefix_ : Int) ≤ (List.length s_ : Int))) = false), ((decide ((List.length prefix_ : Int) ≤ (List.length s_ : Int))) = false), ((decide ((List.length prefix_ : Int) ≤ (List.length s_ : Int))) = false), ((decide ((List.length prefix_ : Int) ≤ (List.length s_ : Int))) = false), ((decide ((List.length prefix_ : Int) ≤ (List.length s_ : Int))) = false), ((decide ((List.length prefix_ : Int) ≤ (List.length s_ : Int))) = false), ((decide ((List.length prefix_ : Int) ≤ (List.length s_ : Int))) = false)] (by kernel_rfl) (.cons hg1 (.cons hg1 (.cons hg1 (.cons hg1 (.cons hg1 (.cons hg1 (.cons hg1 .nil))))))) (Sub.refl _)
  · clear ht
    refine x_toret ?_
    obtain rfl := Option.some.inj h
    exact x_ret (.bool t3) [] [] (by kernel_rfl) .nil (by decide) (.refl _) (fun _ => rfl)

theorem c34 {s_ : Str} {prefix_ : Str} {r : Bool} (h : strings_HasPrefix s_ prefix_ = some r) : CallOK Tryd.prog 34 [.str s_, .str prefix_] (.bool r) true := by
  apply ok34
  unfold strings_HasPrefix at h
  refine x_rg (st2 := { tm := [(0, .pv (.str s_)), (1, .pv (.str prefix_))], hp := [], nx := 0 }) (RegTo.mk [(.n, .e)] ({ tm := [(0, .pv (.str s_)), (1, .pv (.str prefix_))], hp := [], nx := 0 }) [] (by kernel_rfl) .nil (Sub.refl _)) ?_
  obtain ⟨x1, hx1, h⟩ := bind_some h
  refine x_rg (st2 := { tm := [(4, .pv (.bool x1))], hp := [], nx := 0 }) (RegTo.mk [(.n, .e), (.n, .e), (.n, (.call [.str s_, .str prefix_] (.bool x1) true)), (.n, .e)] ({ tm := [(4, .pv (.bool x1))], hp := [], nx := 0 }) [(LesA [.str s_, .str prefix_] [.str s_, .str prefix_]), (CallOK Tryd.prog 39 [.str s_, .str prefix_] (.bool x1) true)] (by kernel_rfl) (.cons (LesA.rfl' _) (.cons (c39 hx1) .nil)) (Sub.refl _)) ?_
  refine x_toret ?_
  obtain rfl := Option.some.inj h
  exact x_ret (.bool x1) [] [] (by kernel_rfl) .nil (by decide) (.refl _) (fun _ => rfl)

theorem c31 {p : Str} {r : Bool} (h : path_rooted p = some r) : CallOK Tryd.prog 31 [.str p] (.bool r) true := by
  apply ok31
  unfold path_rooted at h
  refine x_rg (st2 := { tm := [(0, .pv (.str p))], hp := [], nx := 0 }) (RegTo.mk [(.n, .e)] ({ tm := [(0, .pv (.str p))], hp := [], nx := 0 }) [] (by kernel_rfl) .nil (Sub.refl _)) ?_
  obtain ⟨x1, hx1, h⟩ := bind_some h
  refine x_rg (st2 := { tm := [(2, .pv (.bool x1))], hp := [], nx := 0 }) (RegTo.mk [(.n, .e), (.n, (.call [.str p, .str [47]] (.bool x1) true)), (.n, .e)] ({ tm := [(2, .pv (.bool x1))], hp := [], nx := 0 }) [(LesA [.str p, .str [47]] [.str p, .str [47]]), (CallOK Tryd.prog 34 [.str p, .str [47]] (.bool x1) true)] (by kernel_rfl) (.cons (LesA.rfl' _) (.cons (c34 hx1) .nil)) (Sub.refl _)) ?_
  refine x_toret ?_
  obtain rfl := Option.some.inj h
  exact x_ret (.bool x1) [] [] (by kernel_rfl) .nil (by decide) (.refl _) (fun _ => rfl)

theorem c12 {name : Str} {r : Bool} (h : path_Valid name = some r) : CallOK Tryd.prog 12 [.str name] (.bool r) true := by
  apply ok12
  unfold path_Valid at h
  refine x_rg (st2 := { tm := [(0, .pv (.str name))], hp := [], nx := 0 }) (RegTo.mk [(.n, .e)] ({ tm := [(0, .pv (.str name))], hp := [], nx := 0 }) [] (by kernel_rfl) .nil (Sub.refl _)) ?_
  refine x_seq ?_
  refine x_rg (st2 := { tm := [(0, .pv (.str name)), (18, .pv (.bool ((decide (name = [])) || ((decide (name = [46])) || ((decide (name = [46, 46])) || (decide (64 < (List.length name : Int))))))))], hp := [], nx := 0 }) ?_ ?_
  · rcases Bool.eq_false_or_eq_true (decide (name = [])) with hg1 | hg1
    · exact RegTo.mk [(.n, .e), (.n, .e), (.n, .e), (.s, .e), (.s, .e), (.n, (.pk true)), (.n, .e), (.s, .e), (.s, .e), (.n, .e), (.n, .e), (.s, .e), (.s, .e), (.s, .e), (.n, .e)] ({ tm := [(0, .pv (.str name)), (18, .pv (.bool true))], hp := [], nx := 0 }) [((decide (name = [])) = true), ((decide (name = [])) = true), ((decide (name = [])) = true), (true = true), (true = true), (true = true), (true = true), (true = true)] (by kernel_rfl) (.cons hg1 (.cons hg1 (.cons hg1 (.cons rfl (.cons rfl (.cons rfl (.cons rfl (.cons rfl .nil)))))))) (.of_eq (by simp only [hg1, Bool.true_or, Bool.false_or, Bool.true_and, Bool.false_and, Bool.or_true, Bool.or_false, Bool.and_true, Bool.and_false, Bool.false_eq_true, if_true, if_false, reduceIte]))
    · rcases Bool.eq_false_or_eq_true (decide (name = [46])) with hg2 | hg2
      · exact RegTo.mk [(.n, .e), (.n, .e), (.n, .e), (.y, .e), (.y, .e), (.n, (.pk false)), (.n, .e), (.s, .e), (.s, .e), (.n, (.pk true)), (.n, .e), (.s, .e), (.s, .e), (.s, .e), (.n, .e)] ({ tm := [(0, .pv (.str name)), (18, .pv (.bool true))], hp := [], nx := 0 }) [((decide (name = [])) = false), ((decide (name = [])) = false), ((decide (name = [])) = false), ((decide (name = [46])) = true), ((decide (name = [46])) = true), ((decide (name = [46])) = true), (true = true), (true = true), (true = true)] (by kernel_rfl) (.cons hg1 (.cons hg1 (.cons hg1 (.cons hg2 (.cons hg2 (.cons hg2 (.cons rfl (.cons rfl (.cons rfl .nil))))))))) (.of_eq (by simp only [hg1, hg2, Bool.true_or, Bool.false_or, Bool.true_and, Bool.false_and, Bool.or_true, Bool.or_false, Bool.and_true, Bool.and_false, Bool.false_eq_true, if_true, if_false, reduceIte]))
      · rcases Bool.eq_false_or_eq_true (decide (name = [46, 46])) with hg3 | hg3
        · exact RegTo.mk [(.n, .e), (.n, .e), (.n, .e), (.y, .e), (.y, .e), (.n, (.pk false)), (.n, .e), (.y, .e), (.y, .e), (.n, (.pk false)), (.n, .e), (.s, .e), (.s, .e), (.s, .e), (.n, (.pk true))] ({ tm := [(0, .pv (.str name)), (18, .pv (.bool true))], hp := [], nx := 0 }) [((decide (name = [])) = false), ((decide (name = [])) = false), ((decide (name = [])) = false), ((decide (name = [46])) = false), ((decide (name = [46])) = false), ((decide (name = [46])) = false), ((decide (name = [46, 46])) = true), ((decide (name = [46, 46])) = true), ((decide (name = [46, 46])) = true), ((decide (name = [46, 46])) = true)] (by kernel_rfl) (.cons hg1 (.cons hg1 (.cons hg1 (.cons hg2 (.cons hg2 (.cons hg2 (.cons hg3 (.cons hg3 (.cons hg3 (.cons hg3 .nil)))))))))) (.of_eq (by simp only [hg1, hg2, hg3, Bool.true_or, Bool.false_or, Bool.true_and, Bool.false_and, Bool.or_true, Bool.or_false, Bool.and_true, Bool.and_false, Bool.false_eq_true, if_true, if_false, reduceIte]))
        · exact RegTo.mk [(.n, .e), (.n, .e), (.n, .e), (.y, .e), (.y, .e), (.n, (.pk false)), (.n, .e), (.y, .e), (.y, .e), (.n, (.pk false)), (.n, .e), (.y, .e), (.y, .e), (.y, .e), (.n, (.pk false))] ({ tm := [(0, .pv (.str name)), (18, .pv (.bool (decide (64 < (List.length name : Int)))))], hp := [], nx := 0 }) [((decide (name = [])) = false), ((decide (name = [])) = false), ((decide (name = [])) = false), ((decide (name = [46])) = false), ((decide (name = [46])) = false), ((decide (name = [46])) = false), ((decide (name = [46, 46])) = false), ((decide (name = [46, 46])) = false), ((decide (name = [46, 46])) = false), ((decide (name = [46, 46])) = false)] (by kernel_rfl) (.cons hg1 (.cons hg1 (.cons hg1 (.cons hg2 (.cons hg2 (.cons hg2 (.cons hg3 (.cons hg3 (.cons hg3 (.cons hg3 .nil)))))))))) (.of_eq (by simp only [hg1, hg2, hg3, Bool.true_or, Bool.false_or, Bool.true_and, Bool.false_and, Bool.or_true, Bool.or_false, Bool.and_true, Bool.and_false, Bool.false_eq_true, if_true, if_false, reduceIte]))
  · refine x_cond _ rfl (fun hc5 => ?_) (fun hc5 => ?_)
    · replace h := ite_t h hc5
      refine x_rg (st2 := { tm := [(2, .pv (.bool false))], hp := [], nx := 0 }) (RegTo.mk [(.n, .e)] ({ tm := [(2, .pv (.bool false))], hp := [], nx := 0 }) [] (by kernel_rfl) .nil (Sub.refl _)) ?_
      refine x_toret ?_
      refine x_tr ?_
      obtain rfl := Option.some.inj h
      exact x_ret (.bool false) [] [] (by kernel_rfl) .nil (by decide) (.refl _) (fun _ => rfl)
    · replace h := ite_f h hc5
      refine x_kw (st2 := { tm := [(0, .pv (.str name))], hp := [], nx := 0 }) ({ tm := [(0, .pv (.str name))], hp := [], nx := 0 }) (by kernel_rfl) (Sub.refl _) ?_
      refine x_skip ?_
      refine x_tn ?_
      refine x_seq ?_
      refine x_rg (st2 := { tm := [(0, .pv (.str name)), (20, .pv (.int .i64 (List.length name : Int))), (21, .pv (.int .i64 0))], hp := [], nx := 0 }) (RegTo.mk [(.n, .e), (.n, .e), (.n, .e)] ({ tm := [(0, .pv (.str name)), (20, .pv (.int .i64 (List.length name : Int))), (21, .pv (.int .i64 0))], hp := [], nx := 0 }) [] (by kernel_rfl) .nil (Sub.refl _)) ?_
      refine x_block ?_
      refine x_kw (st2 := { tm := [(0, .pv (.str name)), (20, .pv (.int .i64 (List.length name : Int))), (21, .pv (.int .i64 0))], hp := [], nx := 0 }) ({ tm := [(0, .pv (.str name)), (20, .pv (.int .i64 (List.length name : Int))), (21, .pv (.int .i64 0))], hp := [], nx := 0 }) (by kernel_rfl) (Sub.refl _) ?_
      refine x_loop (σ := Int) h (fun s => { tm := [(0, .pv (.str name)), (20, .pv (.int .i64 (List.length name : Int))), (21, .pv (.int .i64 s))], hp := [], nx := 0 }) (by kernel_rfl) ?_ ?_
      · rintro v14
        kernel_rfl
      · rintro v14 x15 h hx15
        replace h : path_Valid_L15 name v14 = some x15 := h
        unfold path_Valid_L15 at h
        refine x_rg (st2 := { tm := [(0, .pv (.str name)), (20, .pv (.int .i64 (List.length name : Int))), (21, .pv (.int .i64 v14)), (22, .pv (.bool (decide (v14 < (List.length name : Int)))))], hp := [], nx := 0 }) (RegTo.mk [(.n, .e)] ({ tm := [(0, .pv (.str name)), (20, .pv (.int .i64 (List.length name : Int))), (21, .pv (.int .i64 v14)), (22, .pv (.bool (decide (v14 < (List.length name : Int)))))], hp := [], nx := 0 }) [] (by kernel_rfl) .nil (Sub.refl _)) ?_
        refine x_seq ?_
        refine x_cond _ rfl (fun hc16 => ?_) (fun hc16 => ?_)
        · replace h := ite_t h hc16
          refine x_kw (st2 := { tm := [(0, .pv (.str name)), (20, .pv (.int .i64 (List.length name : Int))), (21, .pv (.int .i64 v14))], hp := [], nx := 0 }) ({ tm := [(0, .pv (.str name)), (20, .pv (.int .i64 (List.length name : Int))), (21, .pv (.int .i64 v14))], hp := [], nx := 0 }) (by kernel_rfl) (Sub.refl _) ?_
          refine x_skip ?_
          refine x_tn ?_
          refine x_seq ?_
          refine x_block ?_
          refine x_rg (st2 := { tm := [(0, .pv (.str name)), (3, .pv (.int .i64 v14)), (20, .pv (.int .i64 (List.length name : Int))), (21, .pv (.int .i64 v14))], hp := [], nx := 0 }) (RegTo.mk [(.n, .e), (.n, .e)] ({ tm := [(0, .pv (.str name)), (3, .pv (.int .i64 v14)), (20, .pv (.int .i64 (List.length name : Int))), (21, .pv (.int .i64 v14))], hp := [], nx := 0 }) [] (by kernel_rfl) .nil (Sub.refl _)) ?_
          obtain ⟨c17, hc17, h⟩ := bind_some h
          obtain ⟨t22, ht, h⟩ := bind_some h
          refine x_rg (st2 := { tm := [(0, .pv (.str name)), (20, .pv (.int .i64 (List.length name : Int))), (21, .pv (.int .i64 v14)), (39, .pv (.bool t22))], hp := [], nx := 0 }) ?_ ?_
          · rcases Bool.eq_false_or_eq_true (decide ((c17.toNat : Int) < 33)) with hg18 | hg18
            · replace ht := ite_t ht hg18
              have e := Option.some.inj ht
              subst e
              exact RegTo.mk [(.n, .e), (.n, .e), (.n, (.sAt c17)), (.n, .e), (.n, .e), (.s, .e), (.s, .e), (.s, .e), (.s, .e), (.n, (.pk true)), (.n, .e), (.s, .e), (.s, .e), (.s, .e), (.s, .e), (.n, .e)] ({ tm := [(0, .pv (.str name)), (20, .pv (.int .i64 (List.length name : Int))), (21, .pv (.int .i64 v14)), (39, .pv (.bool true))], hp := [], nx := 0 }) [(strAt name v14 = some c17), ((decide ((c17.toNat : Int) < 33)) = true), ((decide ((c17.toNat : Int) < 33)) = true), ((decide ((c17.toNat : Int) < 33)) = true), ((decide ((c17.toNat : Int) < 33)) = true), ((decide ((c17.toNat : Int) < 33)) = true), (true = true), (true = true), (true = true), (true = true)] (by kernel_rfl) (.cons hc17 (.cons hg18 (.cons hg18 (.cons hg18 (.cons hg18 (.cons hg18 (.cons rfl (.cons rfl (.cons rfl (.cons rfl .nil)))))))))) (Sub.refl _)
            · replace ht := ite_f ht hg18
              obtain ⟨c19, hc19, ht⟩ := bind_some ht
              rcases Bool.eq_false_or_eq_true (decide (126 < (c19.toNat : Int))) with hg20 | hg20
              · replace ht := ite_t ht hg20
                have e := Option.some.inj ht
                subst e
                exact RegTo.mk [(.n, .e), (.n, .e), (.n, (.sAt c17)), (.n, .e), (.n, .e), (.y, .e), (.y, .e), (.y, (.sAt c19)), (.y, .e), (.n, (.pk false)), (.n, .e), (.s, .e), (.s, .e), (.s, .e), (.s, .e), (.n, (.pk true))] ({ tm := [(0, .pv (.str name)), (20, .pv (.int .i64 (List.length name : Int))), (21, .pv (.int .i64 v14)), (39, .pv (.bool true))], hp := [], nx := 0 }) [(strAt name v14 = some c17), ((decide ((c17.toNat : Int) < 33)) = false), ((decide ((c17.toNat : Int) < 33)) = false), ((decide ((c17.toNat : Int) < 33)) = false), (strAt name v14 = some c19), ((decide ((c17.toNat : Int) < 33)) = false), ((decide ((c17.toNat : Int) < 33)) = false), ((decide (126 < (c19.toNat : Int))) = true), ((decide (126 < (c19.toNat : Int))) = true), ((decide (126 < (c19.toNat : Int))) = true), ((decide (126 < (c19.toNat : Int))) = true), ((decide (126 < (c19.toNat : Int))) = true)] (by kernel_rfl) (.cons hc17 (.cons hg18 (.cons hg18 (.cons hg18 (.cons hc19 (.cons hg18 (.cons hg18 (.cons hg20 (.cons hg20 (.cons hg20 (.cons hg20 (.cons hg20 .nil)))))))))))) (Sub.refl _)
              · replace ht := ite_f ht hg20
                obtain ⟨c21, hc21, ht⟩ := bind_some ht
                have e := Option.some.inj ht
                subst e
                exact RegTo.mk [(.n, .e), (.n, .e), (.n, (.sAt c17)), (.n, .e), (.n, .e), (.y, .e), (.y, .e), (.y, (.sAt c19)), (.y, .e), (.n, (.pk false)), (.n, .e), (.y, .e), (.y, .e), (.y, (.sAt c21)), (.y, .e), (.n, (.pk false))] ({ tm := [(0, .pv (.str name)), (20, .pv (.int .i64 (List.length name : Int))), (21, .pv (.int .i64 v14)), (39, .pv (.bool (decide ((c21.toNat : Int) = 47))))], hp := [], nx := 0 }) [(strAt name v14 = some c17), ((decide ((c17.toNat : Int) < 33)) = false), ((decide ((c17.toNat : Int) < 33)) = false), ((decide ((c17.toNat : Int) < 33)) = false), (strAt name v14 = some c19), ((decide ((c17.toNat : Int) < 33)) = false), ((decide ((c17.toNat : Int) < 33)) = false), ((decide (126 < (c19.toNat : Int))) = false), ((decide (126 < (c19.toNat : Int))) = false), ((decide (126 < (c19.toNat : Int))) = false), (strAt name v14 = some c21), ((decide (126 < (c19.toNat : Int))) = false), ((decide (126 < (c19.toNat : Int))) = false)] (by kernel_rfl) (.cons hc17 (.cons hg18 (.cons hg18 (.cons hg18 (.cons hc19 (.cons hg18 (.cons hg18 (.cons hg20 (.cons hg20 (.cons hg20 (.cons hc21 (.cons hg20 (.cons hg20 .nil))))))))))))) (Sub.refl _)
          · clear ht
            refine x_cond _ rfl (fun hc23 => ?_) (fun hc23 => ?_)
            · replace h := ite_t h hc23
              refine x_rg (st2 := { tm := [(2, .pv (.bool false))], hp := [], nx := 0 }) (RegTo.mk [(.n, .e)] ({ tm := [(2, .pv (.bool false))], hp := [], nx := 0 }) [] (by kernel_rfl) .nil (Sub.refl _)) ?_
              refine x_toret ?_
              refine x_br ?_
              refine x_tr ?_
              refine x_tr ?_
              replace h := done_leaf h hx15
              refine x_br ?_
              refine x_tr ?_
              obtain rfl := Option.some.inj h
              exact x_ret (.bool false) [] [] (by kernel_rfl) .nil (by decide) (.refl _) (fun _ => rfl)
            · replace h := ite_f h hc23
              refine x_kw (st2 := { tm := [(0, .pv (.str name)), (20, .pv (.int .i64 (List.length name : Int))), (21, .pv (.int .i64 v14))], hp := [], nx := 0 }) ({ tm := [(0, .pv (.str name)), (20, .pv (.int .i64 (List.length name : Int))), (21, .pv (.int .i64 v14))], hp := [], nx := 0 }) (by kernel_rfl) (Sub.refl _) ?_
              refine x_skip ?_
              refine x_bn ?_
              refine x_tn ?_
              refine x_rgt (st2 := { tm := [(0, .pv (.str name)), (20, .pv (.int .i64 (List.length name : Int))), (21, .pv (.int .i64 (IntKind.wrap .i64 (v14 + 1))))], hp := [], nx := 0 }) (RegTo.mk [(.n, .e), (.n, .e)] ({ tm := [(0, .pv (.str name)), (20, .pv (.int .i64 (List.length name : Int))), (21, .pv (.int .i64 (IntKind.wrap .i64 (v14 + 1))))], hp := [], nx := 0 }) [] (by kernel_rfl) .nil (Sub.refl _)) ?_
              refine x_tn ?_
              exact ⟨_, (Option.some.inj h).symm, by kernel_rfl⟩
        · replace h := ite_f h hc16
          refine x_kw (st2 := { tm := [], hp := [], nx := 0 }) ({ tm := [], hp := [], nx := 0 }) (by kernel_rfl) (Sub.refl _) ?_
          refine x_exit ?_
          refine x_te ?_
          refine x_te ?_
          replace h := done_leaf h hx15
          refine x_bh ?_
          refine x_tn ?_
          refine x_rg (st2 := { tm := [(2, .pv (.bool true))], hp := [], nx := 0 }) (RegTo.mk [(.n, .e)] ({ tm := [(2, .pv (.bool true))], hp := [], nx := 0 }) [] (by kernel_rfl) .nil (Sub.refl _)) ?_
          refine x_toret ?_
          obtain rfl := Option.some.inj h
          exact x_ret (.bool true) [] [] (by kernel_rfl) .nil (by decide) (.refl _) (fun _ => rfl)

theorem c16 {p : Str} {r : ((List Str) × Int)} (h : path_Split p = some r) : CallOK Tryd.prog 16 [.str p] (.tup [.usl none (List.map PV.str r.1), .int .i64 r.2]) true := by
  apply ok16
  unfold path_Split at h
  refine x_rg (st2 := { tm := [(0, .pv (.str p))], hp := [], nx := 0 }) (RegTo.mk [(.n, .e), (.n, .e)] ({ tm := [(0, .pv (.str p))], hp := [], nx := 0 }) [] (by kernel_rfl) .nil (Sub.refl _)) ?_
  refine x_seq ?_
  refine x_rg (st2 := { tm := [(0, .pv (.str p)), (10, .pv (.bool (decide (1024 < (List.length p : Int)))))], hp := [], nx := 0 }) (RegTo.mk [(.n, .e), (.n, .e), (.n, .e)] ({ tm := [(0, .pv (.str p)), (10, .pv (.bool (decide (1024 < (List.length p : Int)))))], hp := [], nx := 0 }) [] (by kernel_rfl) .nil (Sub.refl _)) ?_
  refine x_cond _ rfl (fun hc1 => ?_) (fun hc1 => ?_)
  · replace h := ite_t h hc1
    refine x_rg (st2 := { tm := [(2, .pv (.nilsl)), (3, .pv (.int .i64 4))], hp := [], nx := 0 }) (RegTo.mk [(.n, .e), (.n, .e)] ({ tm := [(2, .pv (.nilsl)), (3, .pv (.int .i64 4))], hp := [], nx := 0 }) [] (by kernel_rfl) .nil (Sub.refl _)) ?_
    refine x_toret ?_
    refine x_tr ?_
    obtain rfl := Option.some.inj h
    exact x_ret (.tup [.nilsl, .int .i64 4]) [] [] (by kernel_rfl) .nil (by decide) (.tup (.cons (.nilUsl _) (.cons (.refl _) .nil))) (fun _ => tup_ns (.cons (usl_ns (sh := none) (fun _ => rfl)) (.cons rfl .nil)))
  · replace h := ite_f h hc1
    refine x_kw (st2 := { tm := [(0, .pv (.str p))], hp := [], nx := 0 }) ({ tm := [(0, .pv (.str p))], hp := [], nx := 0 }) (by kernel_rfl) (Sub.refl _) ?_
    refine x_skip ?_
    refine x_tn ?_
    refine x_rg (st2 := { tm := [(0, .pv (.str p)), (4, .osl 0 0 (List.map PV.str ([] : List Str)).length)], hp := [(0, some (.p none (List.map PV.str ([] : List Str))))], nx := 1 }) (RegTo.mk [(.n, .e)] ({ tm := [(0, .pv (.str p)), (4, .pv (.nilsl))], hp := [], nx := 0 }) [] (by kernel_rfl) .nil ((Sub.keep (ks := [0, 4]) (st := ownSt 4 none ({ tm := [(0, .pv (.str p)), (4, .pv (.nilsl))], hp := [], nx := 0 })) (st' := { tm := [(0, .pv (.str p)), (4, .osl 0 0 (List.map PV.str ([] : List Str)).length)], hp := [(0, some (.p none (List.map PV.str ([] : List Str))))], nx := 1 }) (by kernel_rfl)).trans (own_sound 4 none ({ tm := [(0, .pv (.str p)), (4, .pv (.nilsl))], hp := [], nx := 0 })))) ?_
    refine x_seq ?_
    obtain ⟨x2, hx2, h⟩ := bind_some h
    refine x_rg (st2 := { tm := [(0, .pv (.str p)), (4, .osl 0 0 (List.map PV.str ([] : List Str)).length), (12, .osl 1 0 (List.map PV.str x2).length), (13, .pv (.int .i64 (List.length x2 : Int))), (14, .pv (.int .i64 0))], hp := [(0, some (.p none (List.map PV.str ([] : List Str)))), (1, some (.p none (List.map PV.str x2)))], nx := 2 }) (RegTo.mk [(.n, .e), (.n, (.call [.str p, .str [47]] (.usl none (List.map PV.str x2)) true)), (.n, (.len (List.length x2 : Int))), (.n, .e)] ({ tm := [(0, .pv (.str p)), (4, .osl 0 0 (List.map PV.str ([] : List Str)).length), (12, .osl 1 0 (List.map PV.str x2).length), (13, .pv (.int .i64 (List.length x2 : Int))), (14, .pv (.int .i64 0))], hp := [(0, some (.p none (List.map PV.str ([] : List Str)))), (1, some (.p none (List.map PV.str x2)))], nx := 2 }) [(LesA [.str p, .str [47]] [.str p, .str [47]]), (CallOK Tryd.prog 32 [.str p, .str [47]] (.usl none (List.map PV.str x2)) true), ((((List.map PV.str x2).length : Nat) : Int) = (List.length x2 : Int))] (by kernel_rfl) (.cons (LesA.rfl' _) (.cons (c32 hx2) (.cons (by rw [List.length_map]) .nil))) (Sub.refl _)) ?_
    refine x_block ?_
    refine x_kw (st2 := { tm := [(0, .pv (.str p)), (4, .osl 0 0 (List.map PV.str ([] : List Str)).length), (12, .osl 1 0 (List.map PV.str x2).length), (13, .pv (.int .i64 (List.length x2 : Int))), (14, .pv (.int .i64 0))], hp := [(0, some (.p none (List.map PV.str ([] : List Str)))), (1, some (.p none (List.map PV.str x2)))], nx := 2 }) ({ tm := [(0, .pv (.str p)), (4, .osl 0 0 (List.map PV.str ([] : List Str)).length), (12, .osl 1 0 (List.map PV.str x2).length), (13, .pv (.int .i64 (List.length x2 : Int))), (14, .pv (.int .i64 0))], hp := [(0, some (.p none (List.map PV.str ([] : List Str)))), (1, some (.p none (List.map PV.str x2)))], nx := 2 }) (by kernel_rfl) (Sub.refl _) ?_
    refine x_loop (σ := (Int × (List Str))) h (fun s => { tm := [(0, .pv (.str p)), (4, .osl 0 0 (List.map PV.str s.2).length), (12, .osl 1 0 (List.map PV.str x2).length), (13, .pv (.int .i64 (List.length x2 : Int))), (14, .pv (.int .i64 s.1))], hp := [(0, some (.p none (List.map PV.str s.2))), (1, some (.p none (List.map PV.str x2)))], nx := 2 }) (by kernel_rfl) ?_ ?_
    · rintro ⟨v21, out⟩
      kernel_rfl
    · rintro ⟨v21, out⟩ x23 h hx23
      replace h : path_Split_L23 p x2 v21 out = some x23 := h
      unfold path_Split_L23 at h
      refine x_rg (st2 := { tm := [(0, .pv (.str p)), (4, .osl 0 0 (List.map PV.str out).length), (12, .osl 1 0 (List.map PV.str x2).length), (13, .pv (.int .i64 (List.length x2 : Int))), (14, .pv (.int .i64 v21)), (15, .pv (.bool (decide (v21 < (List.length x2 : Int)))))], hp := [(0, some (.p none (List.map PV.str out))), (1, some (.p none (List.map PV.str x2)))], nx := 2 }) (RegTo.mk [(.n, .e)] ({ tm := [(0, .pv (.str p)), (4, .osl 0 0 (List.map PV.str out).length), (12, .osl 1 0 (List.map PV.str x2).length), (13, .pv (.int .i64 (List.length x2 : Int))), (14, .pv (.int .i64 v21)), (15, .pv (.bool (decide (v21 < (List.length x2 : Int)))))], hp := [(0, some (.p none (List.map PV.str out))), (1, some (.p none (List.map PV.str x2)))], nx := 2 }) [] (by kernel_rfl) .nil (Sub.refl _)) ?_
      refine x_seq ?_
      refine x_cond _ rfl (fun hc24 => ?_) (fun hc24 => ?_)
      · replace h := ite_t h hc24
        refine x_kw (st2 := { tm := [(0, .pv (.str p)), (4, .osl 0 0 (List.map PV.str out).length), (12, .osl 1 0 (List.map PV.str x2).length), (13, .pv (.int .i64 (List.length x2 : Int))), (14, .pv (.int .i64 v21))], hp := [(0, some (.p none (List.map PV.str out))), (1, some (.p none (List.map PV.str x2)))], nx := 2 }) ({ tm := [(0, .pv (.str p)), (4, .osl 0 0 (List.map PV.str out).length), (12, .osl 1 0 (List.map PV.str x2).length), (13, .pv (.int .i64 (List.length x2 : Int))), (14, .pv (.int .i64 v21))], hp := [(0, some (.p none (List.map PV.str out))), (1, some (.p none (List.map PV.str x2)))], nx := 2 }) (by kernel_rfl) (Sub.refl _) ?_
        refine x_skip ?_
        refine x_tn ?_
        refine x_seq ?_
        refine x_block ?_
        obtain ⟨x25, hx25, h⟩ := bind_some h
        refine x_rg (st2 := { tm := [(0, .pv (.str p)), (4, .osl 0 0 (List.map PV.str out).length), (6, .pv (.str x25)), (12, .osl 1 0 (List.map PV.str x2).length), (13, .pv (.int .i64 (List.length x2 : Int))), (14, .pv (.int .i64 v21))], hp := [(0, some (.p none (List.map PV.str out))), (1, some (.p none (List.map PV.str x2)))], nx := 2 }) (RegTo.mk [(.n, .rAt), (.n, (.ld (.str x25))), (.n, .e)] ({ tm := [(0, .pv (.str p)), (4, .osl 0 0 (List.map PV.str out).length), (6, .pv (.str x25)), (12, .osl 1 0 (List.map PV.str x2).length), (13, .pv (.int .i64 (List.length x2 : Int))), (14, .pv (.int .i64 v21))], hp := [(0, some (.p none (List.map PV.str out))), (1, some (.p none (List.map PV.str x2)))], nx := 2 }) [(0 ≤ (v21 : Int) ∧ Int.toNat v21 < (List.map PV.str x2).length), ((List.map PV.str x2)[(0 + Int.toNat v21)]? = some (.str x25))] (by kernel_rfl) (.cons (rAt_ob hx25 (by simp)) (.cons (ownAt hx25) .nil)) (Sub.refl _)) ?_
        refine x_rg (st2 := { tm := [(0, .pv (.str p)), (4, .osl 0 0 (List.map PV.str out).length), (6, .pv (.str x25)), (7, .pv (.int .i64 (IntKind.wrap .i64 ((List.length out : Int) - 1)))), (12, .osl 1 0 (List.map PV.str x2).length), (13, .pv (.int .i64 (List.length x2 : Int))), (14, .pv (.int .i64 v21))], hp := [(0, some (.p none (List.map PV.str out))), (1, some (.p none (List.map PV.str x2)))], nx := 2 }) (RegTo.mk [(.n, .e), (.n, (.len (List.length out : Int))), (.n, .e), (.n, .e)] ({ tm := [(0, .pv (.str p)), (4, .osl 0 0 (List.map PV.str out).length), (6, .pv (.str x25)), (7, .pv (.int .i64 (IntKind.wrap .i64 ((List.length out : Int) - 1)))), (12, .osl 1 0 (List.map PV.str x2).length), (13, .pv (.int .i64 (List.length x2 : Int))), (14, .pv (.int .i64 v21))], hp := [(0, some (.p none (List.map PV.str out))), (1, some (.p none (List.map PV.str x2)))], nx := 2 }) [((((List.map PV.str out).length : Nat) : Int) = (List.length out : Int))] (by kernel_rfl) (.cons (by rw [List.length_map]) .nil) (Sub.refl _)) ?_
        refine x_block ?_
        refine x_rg (st2 := { tm := [(0, .pv (.str p)), (4, .osl 0 0 (List.map PV.str out).length), (6, .pv (.str x25)), (7, .pv (.int .i64 (IntKind.wrap .i64 ((List.length out : Int) - 1)))), (12, .osl 1 0 (List.map PV.str x2).length), (13, .pv (.int .i64 (List.length x2 : Int))), (14, .pv (.int .i64 v21)), (25, .pv (.bool ((decide (x25 = [])) || (decide (x25 = [46])))))], hp := [(0, some (.p none (List.map PV.str out))), (1, some (.p none (List.map PV.str x2)))], nx := 2 }) ?_ ?_
        · rcases Bool.eq_false_or_eq_true (decide (x25 = [])) with hg26 | hg26
          · exact RegTo.mk [(.n, .e), (.n, .e), (.n, .e), (.s, .e), (.s, .e), (.n, (.pk true)), (.n, .e)] ({ tm := [(0, .pv (.str p)), (4, .osl 0 0 (List.map PV.str out).length), (6, .pv (.str x25)), (7, .pv (.int .i64 (IntKind.wrap .i64 ((List.length out : Int) - 1)))), (12, .osl 1 0 (List.map PV.str x2).length), (13, .pv (.int .i64 (List.length x2 : Int))), (14, .pv (.int .i64 v21)), (25, .pv (.bool true))], hp := [(0, some (.p none (List.map PV.str out))), (1, some (.p none (List.map PV.str x2)))], nx := 2 }) [((decide (x25 = [])) = true), ((decide (x25 = [])) = true), ((decide (x25 = [])) = true)] (by kernel_rfl) (.cons hg26 (.cons hg26 (.cons hg26 .nil))) (.of_eq (by simp only [hg26, Bool.true_or, Bool.false_or, Bool.true_and, Bool.false_and, Bool.or_true, Bool.or_false, Bool.and_true, Bool.and_false, Bool.false_eq_true, if_true, if_false, reduceIte]))
          · exact RegTo.mk [(.n, .e), (.n, .e), (.n, .e), (.y, .e), (.y, .e), (.n, (.pk false)), (.n, .e)] ({ tm := [(0, .pv (.str p)), (4, .osl 0 0 (List.map PV.str out).length), (6, .pv (.str x25)), (7, .pv (.int .i64 (IntKind.wrap .i64 ((List.length out : Int) - 1)))), (12, .osl 1 0 (List.map PV.str x2).length), (13, .pv (.int .i64 (List.length x2 : Int))), (14, .pv (.int .i64 v21)), (25, .pv (.bool (decide (x25 = [46]))))], hp := [(0, some (.p none (List.map PV.str out))), (1, some (.p none (List.map PV.str x2)))], nx := 2 }) [((decide (x25 = [])) = false), ((decide (x25 = [])) = false), ((decide (x25 = [])) = false)] (by kernel_rfl) (.cons hg26 (.cons hg26 (.cons hg26 .nil))) (.of_eq (by simp only [hg26, Bool.true_or, Bool.false_or, Bool.true_and, Bool.false_and, Bool.or_true, Bool.or_false, Bool.and_true, Bool.and_false, Bool.false_eq_true, if_true, if_false, reduceIte]))
        · refine x_cond _ rfl (fun hc28 => ?_) (fun hc28 => ?_)
          · replace h := ite_t h hc28
            refine x_kw (st2 := { tm := [(0, .pv (.str p)), (4, .osl 0 0 (List.map PV.str out).length), (12, .osl 1 0 (List.map PV.str x2).length), (13, .pv (.int .i64 (List.length x2 : Int))), (14, .pv (.int .i64 v21))], hp := [(0, some (.p none (List.map PV.str out))), (1, some (.p none (List.map PV.str x2)))], nx := 2 }) ({ tm := [(0, .pv (.str p)), (4, .osl 0 0 (List.map PV.str out).length), (12, .osl 1 0 (List.map PV.str x2).length), (13, .pv (.int .i64 (List.length x2 : Int))), (14, .pv (.int .i64 v21))], hp := [(0, some (.p none (List.map PV.str out))), (1, some (.p none (List.map PV.str x2)))], nx := 2 }) (by kernel_rfl) (Sub.refl _) ?_
            refine x_skip ?_
            refine x_bn ?_
            refine x_bn ?_
            refine x_tn ?_
            refine x_rgt (st2 := { tm := [(0, .pv (.str p)), (4, .osl 0 0 (List.map PV.str out).length), (12, .osl 1 0 (List.map PV.str x2).length), (13, .pv (.int .i64 (List.length x2 : Int))), (14, .pv (.int .i64 (IntKind.wrap .i64 (v21 + 1))))], hp := [(0, some (.p none (List.map PV.str out))), (1, some (.p none (List.map PV.str x2)))], nx := 2 }) (RegTo.mk [(.n, .e), (.n, .e)] ({ tm := [(0, .pv (.str p)), (4, .osl 0 0 (List.map PV.str out).length), (12, .osl 1 0 (List.map PV.str x2).length), (13, .pv (.int .i64 (List.length x2 : Int))), (14, .pv (.int .i64 (IntKind.wrap .i64 (v21 + 1))))], hp := [(0, some (.p none (List.map PV.str out))), (1, some (.p none (List.map PV.str x2)))], nx := 2 }) [] (by kernel_rfl) .nil (Sub.refl _)) ?_
            refine x_tn ?_
            exact ⟨_, (Option.some.inj h).symm, by kernel_rfl⟩
          · replace h := ite_f h hc28
            obtain ⟨t32, ht, h⟩ := bind_some h
            refine x_rg (st2 := { tm := [(0, .pv (.str p)), (4, .osl 0 0 (List.map PV.str out).length), (6, .pv (.str x25)), (7, .pv (.int .i64 (IntKind.wrap .i64 ((List.length out : Int) - 1)))), (12, .osl 1 0 (List.map PV.str x2).length), (13, .pv (.int .i64 (List.length x2 : Int))), (14, .pv (.int .i64 v21)), (32, .pv (.bool t32))], hp := [(0, some (.p none (List.map PV.str out))), (1, some (.p none (List.map PV.str x2)))], nx := 2 }) ?_ ?_
            · rcases Bool.eq_false_or_eq_true (decide (x25 = [46, 46])) with hg29 | hg29
              · replace ht := ite_t ht hg29
                rcases Bool.eq_false_or_eq_true (decide (0 ≤ (IntKind.wrap .i64 ((List.length out : Int) - 1)))) with hg30 | hg30
                · replace ht := ite_t ht hg30
                  obtain ⟨x31, hx31, ht⟩ := bind_some ht
                  have e := Option.some.inj ht
                  subst e
                  exact RegTo.mk [(.n, .e), (.n, .e), (.n, .e), (.y, .e), (.y, .e), (.n, (.pk true)), (.n, .e), (.y, .e), (.y, .e), (.y, .rAt), (.y, (.ld (.str x31))), (.y, .e), (.n, (.pk true)), (.n, .e)] ({ tm := [(0, .pv (.str p)), (4, .osl 0 0 (List.map PV.str out).length), (6, .pv (.str x25)), (7, .pv (.int .i64 (IntKind.wrap .i64 ((List.length out : Int) - 1)))), (12, .osl 1 0 (List.map PV.str x2).length), (13, .pv (.int .i64 (List.length x2 : Int))), (14, .pv (.int .i64 v21)), (32, .pv (.bool (!decide (x31 = [46, 46]))))], hp := [(0, some (.p none (List.map PV.str out))), (1, some (.p none (List.map PV.str x2)))], nx := 2 }) [((decide (x25 = [46, 46])) = true), ((decide (x25 = [46, 46])) = true), ((decide (x25 = [46, 46])) = true), ((decide (0 ≤ (IntKind.wrap .i64 ((List.length out : Int) - 1)))) = true), ((decide (0 ≤ (IntKind.wrap .i64 ((List.length out : Int) - 1)))) = true), ((decide (0 ≤ (IntKind.wrap .i64 ((List.length out : Int) - 1)))) = true), (0 ≤ ((IntKind.wrap .i64 ((List.length out : Int) - 1)) : Int) ∧ Int.toNat (IntKind.wrap .i64 ((List.length out : Int) - 1)) < (List.map PV.str out).length), ((decide (0 ≤ (IntKind.wrap .i64 ((List.length out : Int) - 1)))) = true), ((List.map PV.str out)[(0 + Int.toNat (IntKind.wrap .i64 ((List.length out : Int) - 1)))]? = some (.str x31)), ((decide (0 ≤ (IntKind.wrap .i64 ((List.length out : Int) - 1)))) = true), ((decide (0 ≤ (IntKind.wrap .i64 ((List.length out : Int) - 1)))) = true)] (by kernel_rfl) (.cons hg29 (.cons hg29 (.cons hg29 (.cons hg30 (.cons hg30 (.cons hg30 (.cons (rAt_ob hx31 (by simp)) (.cons hg30 (.cons (ownAt hx31) (.cons hg30 (.cons hg30 .nil))))))))))) (Sub.refl _)
                · replace ht := ite_f ht hg30
                  have e := Option.some.inj ht
                  subst e
                  exact RegTo.mk [(.n, .e), (.n, .e), (.n, .e), (.y, .e), (.y, .e), (.n, (.pk true)), (.n, .e), (.s, .e), (.s, .e), (.s, .e), (.s, .e), (.s, .e), (.n, (.pk false)), (.n, .e)] ({ tm := [(0, .pv (.str p)), (4, .osl 0 0 (List.map PV.str out).length), (6, .pv (.str x25)), (7, .pv (.int .i64 (IntKind.wrap .i64 ((List.length out : Int) - 1)))), (12, .osl 1 0 (List.map PV.str x2).length), (13, .pv (.int .i64 (List.length x2 : Int))), (14, .pv (.int .i64 v21)), (32, .pv (.bool false))], hp := [(0, some (.p none (List.map PV.str out))), (1, some (.p none (List.map PV.str x2)))], nx := 2 }) [((decide (x25 = [46, 46])) = true), ((decide (x25 = [46, 46])) = true), ((decide (x25 = [46, 46])) = true), ((decide (0 ≤ (IntKind.wrap .i64 ((List.length out : Int) - 1)))) = false), ((decide (0 ≤ (IntKind.wrap .i64 ((List.length out : Int) - 1)))) = false), ((decide (0 ≤ (IntKind.wrap .i64 ((List.length out : Int) - 1)))) = false), ((decide (0 ≤ (IntKind.wrap .i64 ((List.length out : Int) - 1)))) = false), ((decide (0 ≤ (IntKind.wrap .i64 ((List.length out : Int) - 1)))) = false), ((decide (0 ≤ (IntKind.wrap .i64 ((List.length out : Int) - 1)))) = false)] (by kernel_rfl) (.cons hg29 (.cons hg29 (.cons hg29 (.cons hg30 (.cons hg30 (.cons hg30 (.cons hg30 (.cons hg30 (.cons hg30 .nil))))))))) (Sub.refl _)
              · replace ht := ite_f ht hg29
                have e := Option.some.inj ht
                subst e
                exact RegTo.mk [(.n, .e), (.n, .e), (.n, .e), (.s, .e), (.s, .e), (.n, (.pk false)), (.n, .e), (.s, .e), (.s, .e), (.s, .e), (.s, .e), (.s, .e), (.n, .e), (.n, .e)] ({ tm := [(0, .pv (.str p)), (4, .osl 0 0 (List.map PV.str out).length), (6, .pv (.str x25)), (7, .pv (.int .i64 (IntKind.wrap .i64 ((List.length out : Int) - 1)))), (12, .osl 1 0 (List.map PV.str x2).length), (13, .pv (.int .i64 (List.length x2 : Int))), (14, .pv (.int .i64 v21)), (32, .pv (.bool false))], hp := [(0, some (.p none (List.map PV.str out))), (1, some (.p none (List.map PV.str x2)))], nx := 2 }) [((decide (x25 = [46, 46])) = false), ((decide (x25 = [46, 46])) = false), ((decide (x25 = [46, 46])) = false), (false = false), (false = false), (false = false), (false = false), (false = false)] (by kernel_rfl) (.cons hg29 (.cons hg29 (.cons hg29 (.cons rfl (.cons rfl (.cons rfl (.cons rfl (.cons rfl .nil)))))))) (Sub.refl _)
            · clear ht
              refine x_cond _ rfl (fun hc33 => ?_) (fun hc33 => ?_)
              · replace h := ite_t h hc33
                obtain ⟨x34, hx34, h⟩ := bind_some h
                refine x_rgt (st2 := { tm := [(0, .pv (.str p)), (4, .osl 0 0 (List.map PV.str x34).length), (12, .osl 1 0 (List.map PV.str x2).length), (13, .pv (.int .i64 (List.length x2 : Int))), (14, .pv (.int .i64 v21))], hp := [(0, some (.p none (List.map PV.str x34))), (1, some (.p none (List.map PV.str x2)))], nx := 2 }) (RegTo.mk [(.n, .e), (.n, .e), (.n, .cutR), (.n, .e)] ({ tm := [(0, .pv (.str p)), (4, .osl 0 (0 + Int.toNat 0) (Int.toNat (IntKind.wrap .i64 ((List.length out : Int) - 1)) - Int.toNat 0)), (12, .osl 1 0 (List.map PV.str x2).length), (13, .pv (.int .i64 (List.length x2 : Int))), (14, .pv (.int .i64 v21))], hp := [(0, some (.p none (List.map PV.str out))), (1, some (.p none (List.map PV.str x2)))], nx := 2 }) [(0 ≤ (0 : Int) ∧ (0 : Int) ≤ (IntKind.wrap .i64 ((List.length out : Int) - 1)) ∧ (IntKind.wrap .i64 ((List.length out : Int) - 1)) ≤ (((List.map PV.str out).length : Nat) : Int))] (by kernel_rfl) (.cons (cutR_ob hx34 (by simp)) .nil) (((Sub.of_eq (show ({ tm := [(0, .pv (.str p)), (4, .osl 0 0 (List.map PV.str x34).length), (12, .osl 1 0 (List.map PV.str x2).length), (13, .pv (.int .i64 (List.length x2 : Int))), (14, .pv (.int .i64 v21))], hp := [(0, some (.p none (List.map PV.str x34))), (1, some (.p none (List.map PV.str x2)))], nx := 2 } : VSt) = trimSt 0 (Int.toNat (IntKind.wrap .i64 ((List.length out : Int) - 1)) - Int.toNat 0) ({ tm := [(0, .pv (.str p)), (4, .osl 0 (0 + Int.toNat 0) (Int.toNat (IntKind.wrap .i64 ((List.length out : Int) - 1)) - Int.toNat 0)), (12, .osl 1 0 (List.map PV.str x2).length), (13, .pv (.int .i64 (List.length x2 : Int))), (14, .pv (.int .i64 v21))], hp := [(0, some (.p none (List.map PV.str out))), (1, some (.p none (List.map PV.str x2)))], nx := 2 }) from (show ({ tm := [(0, .pv (.str p)), (4, .osl 0 0 (List.map PV.str x34).length), (12, .osl 1 0 (List.map PV.str x2).length), (13, .pv (.int .i64 (List.length x2 : Int))), (14, .pv (.int .i64 v21))], hp := [(0, some (.p none (List.map PV.str x34))), (1, some (.p none (List.map PV.str x2)))], nx := 2 } : VSt) = { tm := [(0, .pv (.str p)), (4, .osl 0 (0 + Int.toNat 0) (Int.toNat (IntKind.wrap .i64 ((List.length out : Int) - 1)) - Int.toNat 0)), (12, .osl 1 0 (List.map PV.str x2).length), (13, .pv (.int .i64 (List.length x2 : Int))), (14, .pv (.int .i64 v21))], hp := [(0, some (.p none (List.take (Int.toNat (IntKind.wrap .i64 ((List.length out : Int) - 1)) - Int.toNat 0) (List.map PV.str out)))), (1, some (.p none (List.map PV.str x2)))], nx := 2 } from (by rw [(cutR_f hx34).2, (cutR_f hx34).1]; try rfl)).trans (by kernel_rfl))).trans (Sub.trim 0 (Int.toNat (IntKind.wrap .i64 ((List.length out : Int) - 1)) - Int.toNat 0) _)))) ?_
                refine x_bn ?_
                refine x_bn ?_
                refine x_tn ?_
                refine x_rgt (st2 := { tm := [(0, .pv (.str p)), (4, .osl 0 0 (List.map PV.str x34).length), (12, .osl 1 0 (List.map PV.str x2).length), (13, .pv (.int .i64 (List.length x2 : Int))), (14, .pv (.int .i64 (IntKind.wrap .i64 (v21 + 1))))], hp := [(0, some (.p none (List.map PV.str x34))), (1, some (.p none (List.map PV.str x2)))], nx := 2 }) (RegTo.mk [(.n, .e), (.n, .e)] ({ tm := [(0, .pv (.str p)), (4, .osl 0 0 (List.map PV.str x34).length), (12, .osl 1 0 (List.map PV.str x2).length), (13, .pv (.int .i64 (List.length x2 : Int))), (14, .pv (.int .i64 (IntKind.wrap .i64 (v21 + 1))))], hp := [(0, some (.p none (List.map PV.str x34))), (1, some (.p none (List.map PV.str x2)))], nx := 2 }) [] (by kernel_rfl) .nil (Sub.refl _)) ?_
                refine x_tn ?_
                exact ⟨_, (Option.some.inj h).symm, by kernel_rfl⟩
              · replace h := ite_f h hc33
                refine x_rg (st2 := { tm := [(0, .pv (.str p)), (4, .osl 0 0 (List.map PV.str out).length), (6, .pv (.str x25)), (12, .osl 1 0 (List.map PV.str x2).length), (13, .pv (.int .i64 (List.length x2 : Int))), (14, .pv (.int .i64 v21)), (49, .pv (.bool (decide (x25 = [46, 46]))))], hp := [(0, some (.p none (List.map PV.str out))), (1, some (.p none (List.map PV.str x2)))], nx := 2 }) (RegTo.mk [(.n, .e), (.n, .e), (.n, .e)] ({ tm := [(0, .pv (.str p)), (4, .osl 0 0 (List.map PV.str out).length), (6, .pv (.str x25)), (12, .osl 1 0 (List.map PV.str x2).length), (13, .pv (.int .i64 (List.length x2 : Int))), (14, .pv (.int .i64 v21)), (49, .pv (.bool (decide (x25 = [46, 46]))))], hp := [(0, some (.p none (List.map PV.str out))), (1, some (.p none (List.map PV.str x2)))], nx := 2 }) [] (by kernel_rfl) .nil (Sub.refl _)) ?_
                refine x_cond _ rfl (fun hc35 => ?_) (fun hc35 => ?_)
                · replace h := ite_t h hc35
                  obtain ⟨x36, hx36, h⟩ := bind_some h
                  refine x_rg (st2 := { tm := [(0, .pv (.str p)), (4, .osl 0 0 (List.map PV.str out).length), (6, .pv (.str x25)), (12, .osl 1 0 (List.map PV.str x2).length), (13, .pv (.int .i64 (List.length x2 : Int))), (14, .pv (.int .i64 v21)), (54, .pv (.bool (!x36)))], hp := [(0, some (.p none (List.map PV.str out))), (1, some (.p none (List.map PV.str x2)))], nx := 2 }) (RegTo.mk [(.n, .e), (.n, (.call [.str p] (.bool x36) true)), (.n, .e)] ({ tm := [(0, .pv (.str p)), (4, .osl 0 0 (List.map PV.str out).length), (6, .pv (.str x25)), (12, .osl 1 0 (List.map PV.str x2).length), (13, .pv (.int .i64 (List.length x2 : Int))), (14, .pv (.int .i64 v21)), (54, .pv (.bool (!x36)))], hp := [(0, some (.p none (List.map PV.str out))), (1, some (.p none (List.map PV.str x2)))], nx := 2 }) [(LesA [.str p] [.str p]), (CallOK Tryd.prog 31 [.str p] (.bool x36) true)] (by kernel_rfl) (.cons (LesA.rfl' _) (.cons (c31 hx36) .nil)) (Sub.refl _)) ?_
                  refine x_cond _ rfl (fun hc37 => ?_) (fun hc37 => ?_)
                  · replace h := ite_t h hc37
                    obtain ⟨x38, hx38, h⟩ := bind_some h
                    refine x_rgt (st2 := { tm := [(0, .pv (.str p)), (4, .osl 0 0 (List.map PV.str x38).length), (12, .osl 1 0 (List.map PV.str x2).length), (13, .pv (.int .i64 (List.length x2 : Int))), (14, .pv (.int .i64 v21))], hp := [(0, some (.p none (List.map PV.str x38))), (1, some (.p none (List.map PV.str x2)))], nx := 2 }) (RegTo.mk [(.n, .e), (.n, .e), (.n, .e), (.n, (.app (List.map PV.str x38))), (.n, .e)] ({ tm := [(0, .pv (.str p)), (4, .osl 0 0 (List.map PV.str x38).length), (12, .osl 1 0 (List.map PV.str x2).length), (13, .pv (.int .i64 (List.length x2 : Int))), (14, .pv (.int .i64 v21))], hp := [(0, some (.p none (List.map PV.str x38))), (1, some (.p none (List.map PV.str x2)))], nx := 2 }) [(List.take (List.map PV.str out).length (List.map PV.str out) ++ List.take 1 (List.drop 0 ([.str x25] : List PV)) = (List.map PV.str x38)), (List.length (List.map PV.str x38) * 16 ≤ 140737488355328), (List.length (List.map PV.str x38) ≤ 9223372036854775807), ((List.map PV.str out).length ≤ List.length (List.map PV.str out)), (0 + 1 ≤ List.length ([.str x25] : List PV))] (by kernel_rfl) (.cons (app_ob hx38 (.all _) (.rfl _)) (.cons (by rw [List.length_map]; exact (appL_ok hx38).2.1) (.cons (by rw [List.length_map]; exact (appL_ok hx38).2.2) (.cons (Nat.le_refl _) (.cons (by simp) .nil))))) (Sub.refl _)) ?_
                    refine x_bn ?_
                    refine x_bn ?_
                    refine x_tn ?_
                    refine x_rgt (st2 := { tm := [(0, .pv (.str p)), (4, .osl 0 0 (List.map PV.str x38).length), (12, .osl 1 0 (List.map PV.str x2).length), (13, .pv (.int .i64 (List.length x2 : Int))), (14, .pv (.int .i64 (IntKind.wrap .i64 (v21 + 1))))], hp := [(0, some (.p none (List.map PV.str x38))), (1, some (.p none (List.map PV.str x2)))], nx := 2 }) (RegTo.mk [(.n, .e), (.n, .e)] ({ tm := [(0, .pv (.str p)), (4, .osl 0 0 (List.map PV.str x38).length), (12, .osl 1 0 (List.map PV.str x2).length), (13, .pv (.int .i64 (List.length x2 : Int))), (14, .pv (.int .i64 (IntKind.wrap .i64 (v21 + 1))))], hp := [(0, some (.p none (List.map PV.str x38))), (1, some (.p none (List.map PV.str x2)))], nx := 2 }) [] (by kernel_rfl) .nil (Sub.refl _)) ?_
                    refine x_tn ?_
                    exact ⟨_, (Option.some.inj h).symm, by kernel_rfl⟩
                  · replace h := ite_f h hc37
                    refine x_kw (st2 := { tm := [(0, .pv (.str p)), (4, .osl 0 0 (List.map PV.str out).length), (12, .osl 1 0 (List.map PV.str x2).length), (13, .pv (.int .i64 (List.length x2 : Int))), (14, .pv (.int .i64 v21))], hp := [(0, some (.p none (List.map PV.str out))), (1, some (.p none (List.map PV.str x2)))], nx := 2 }) ({ tm := [(0, .pv (.str p)), (4, .osl 0 0 (List.map PV.str out).length), (12, .osl 1 0 (List.map PV.str x2).length), (13, .pv (.int .i64 (List.length x2 : Int))), (14, .pv (.int .i64 v21))], hp := [(0, some (.p none (List.map PV.str out))), (1, some (.p none (List.map PV.str x2)))], nx := 2 }) (by kernel_rfl) (Sub.refl _) ?_
                    refine x_skip ?_
                    refine x_bn ?_
                    refine x_bn ?_
                    refine x_tn ?_
                    refine x_rgt (st2 := { tm := [(0, .pv (.str p)), (4, .osl 0 0 (List.map PV.str out).length), (12, .osl 1 0 (List.map PV.str x2).length), (13, .pv (.int .i64 (List.length x2 : Int))), (14, .pv (.int .i64 (IntKind.wrap .i64 (v21 + 1))))], hp := [(0, some (.p none (List.map PV.str out))), (1, some (.p none (List.map PV.str x2)))], nx := 2 }) (RegTo.mk [(.n, .e), (.n, .e)] ({ tm := [(0, .pv (.str p)), (4, .osl 0 0 (List.map PV.str out).length), (12, .osl 1 0 (List.map PV.str x2).length), (13, .pv (.int .i64 (List.length x2 : Int))), (14, .pv (.int .i64 (IntKind.wrap .i64 (v21 + 1))))], hp := [(0, some (.p none (List.map PV.str out))), (1, some (.p none (List.map PV.str x2)))], nx := 2 }) [] (by kernel_rfl) .nil (Sub.refl _)) ?_
                    refine x_tn ?_
                    exact ⟨_, (Option.some.inj h).symm, by kernel_rfl⟩
                · replace h := ite_f h hc35
                  obtain ⟨x39, hx39, h⟩ := bind_some h
                  refine x_rg (st2 := { tm := [(0, .pv (.str p)), (4, .osl 0 0 (List.map PV.str out).length), (6, .pv (.str x25)), (12, .osl 1 0 (List.map PV.str x2).length), (13, .pv (.int .i64 (List.length x2 : Int))), (14, .pv (.int .i64 v21)), (59, .pv (.bool (!x39)))], hp := [(0, some (.p none (List.map PV.str out))), (1, some (.p none (List.map PV.str x2)))], nx := 2 }) (RegTo.mk [(.n, .e), (.n, (.call [.str x25] (.bool x39) true)), (.n, .e), (.n, .e)] ({ tm := [(0, .pv (.str p)), (4, .osl 0 0 (List.map PV.str out).length), (6, .pv (.str x25)), (12, .osl 1 0 (List.map PV.str x2).length), (13, .pv (.int .i64 (List.length x2 : Int))), (14, .pv (.int .i64 v21)), (59, .pv (.bool (!x39)))], hp := [(0, some (.p none (List.map PV.str out))), (1, some (.p none (List.map PV.str x2)))], nx := 2 }) [(LesA [.str x25] [.str x25]), (CallOK Tryd.prog 12 [.str x25] (.bool x39) true)] (by kernel_rfl) (.cons (LesA.rfl' _) (.cons (c12 hx39) .nil)) (Sub.refl _)) ?_
                  refine x_cond _ rfl (fun hc40 => ?_) (fun hc40 => ?_)
                  · replace h := ite_t h hc40
                    refine x_rg (st2 := { tm := [(2, .pv (.nilsl)), (3, .pv (.int .i64 6))], hp := [], nx := 0 }) (RegTo.mk [(.n, .e), (.n, .e)] ({ tm := [(2, .pv (.nilsl)), (3, .pv (.int .i64 6))], hp := [], nx := 0 }) [] (by kernel_rfl) .nil (Sub.refl _)) ?_
                    refine x_toret ?_
                    refine x_br ?_
                    refine x_br ?_
                    refine x_tr ?_
                    refine x_tr ?_
                    replace h := done_leaf h hx23
                    refine x_br ?_
                    refine x_tr ?_
                    obtain rfl := Option.some.inj h
                    exact x_ret (.tup [.nilsl, .int .i64 6]) [] [] (by kernel_rfl) .nil (by decide) (.tup (.cons (.nilUsl _) (.cons (.refl _) .nil))) (fun _ => tup_ns (.cons (usl_ns (sh := none) (fun _ => rfl)) (.cons rfl .nil)))
                  · replace h := ite_f h hc40
                    obtain ⟨x41, hx41, h⟩ := bind_some h
                    refine x_rgt (st2 := { tm := [(0, .pv (.str p)), (4, .osl 0 0 (List.map PV.str x41).length), (12, .osl 1 0 (List.map PV.str x2).length), (13, .pv (.int .i64 (List.length x2 : Int))), (14, .pv (.int .i64 v21))], hp := [(0, some (.p none (List.map PV.str x41))), (1, some (.p none (List.map PV.str x2)))], nx := 2 }) (RegTo.mk [(.n, .e), (.n, .e), (.n, .e), (.n, (.app (List.map PV.str x41))), (.n, .e)] ({ tm := [(0, .pv (.str p)), (4, .osl 0 0 (List.map PV.str x41).length), (12, .osl 1 0 (List.map PV.str x2).length), (13, .pv (.int .i64 (List.length x2 : Int))), (14, .pv (.int .i64 v21))], hp := [(0, some (.p none (List.map PV.str x41))), (1, some (.p none (List.map PV.str x2)))], nx := 2 }) [(List.take (List.map PV.str out).length (List.map PV.str out) ++ List.take 1 (List.drop 0 ([.str x25] : List PV)) = (List.map PV.str x41)), (List.length (List.map PV.str x41) * 16 ≤ 140737488355328), (List.length (List.map PV.str x41) ≤ 9223372036854775807), ((List.map PV.str out).length ≤ List.length (List.map PV.str out)), (0 + 1 ≤ List.length ([.str x25] : List PV))] (by kernel_rfl) (.cons (app_ob hx41 (.all _) (.rfl _)) (.cons (by rw [List.length_map]; exact (appL_ok hx41).2.1) (.cons (by rw [List.length_map]; exact (appL_ok hx41).2.2) (.cons (Nat.le_refl _) (.cons (by simp) .nil))))) (Sub.refl _)) ?_
                    refine x_bn ?_
                    refine x_bn ?_
                    refine x_tn ?_
                    refine x_rgt (st2 := { tm := [(0, .pv (.str p)), (4, .osl 0 0 (List.map PV.str x41).length), (12, .osl 1 0 (List.map PV.str x2).length), (13, .pv (.int .i64 (List.length x2 : Int))), (14, .pv (.int .i64 (IntKind.wrap .i64 (v21 + 1))))], hp := [(0, some (.p none (List.map PV.str x41))), (1, some (.p none (List.map PV.str x2)))], nx := 2 }) (RegTo.mk [(.n, .e), (.n, .e)] ({ tm := [(0, .pv (.str p)), (4, .osl 0 0 (List.map PV.str x41).length), (12, .osl 1 0 (List.map PV.str x2).length), (13, .pv (.int .i64 (List.length x2 : Int))), (14, .pv (.int .i64 (IntKind.wrap .i64 (v21 + 1))))], hp := [(0, some (.p none (List.map PV.str x41))), (1, some (.p none (List.map PV.str x2)))], nx := 2 }) [] (by kernel_rfl) .nil (Sub.refl _)) ?_
                    refine x_tn ?_
                    exact ⟨_, (Option.some.inj h).symm, by kernel_rfl⟩
      · replace h := ite_f h hc24
        refine x_kw (st2 := { tm := [(4, .osl 0 0 (List.map PV.str out).length)], hp := [(0, some (.p none (List.map PV.str out)))], nx := 1 }) ({ tm := [(4, .osl 0 0 (List.map PV.str out).length)], hp := [(0, some (.p none (List.map PV.str out)))], nx := 1 }) (by kernel_rfl) (Sub.refl _) ?_
        refine x_exit ?_
        refine x_te ?_
        refine x_te ?_
        replace h := done_map h hx23
        unfold path_Split_A43 at h
        refine x_bh ?_
        refine x_tn ?_
        refine x_seq ?_
        refine x_rg (st2 := { tm := [(4, .osl 0 0 (List.map PV.str out).length), (66, .pv (.bool (decide (32 < (List.length out : Int)))))], hp := [(0, some (.p none (List.map PV.str out)))], nx := 1 }) (RegTo.mk [(.n, .e), (.n, (.len (List.length out : Int))), (.n, .e)] ({ tm := [(4, .osl 0 0 (List.map PV.str out).length), (66, .pv (.bool (decide (32 < (List.length out : Int)))))], hp := [(0, some (.p none (List.map PV.str out)))], nx := 1 }) [((((List.map PV.str out).length : Nat) : Int) = (List.length out : Int))] (by kernel_rfl) (.cons (by rw [List.length_map]) .nil) (Sub.refl _)) ?_
        refine x_cond _ rfl (fun hc42 => ?_) (fun hc42 => ?_)
        · replace h := ite_t h hc42
          refine x_rg (st2 := { tm := [(2, .pv (.nilsl)), (3, .pv (.int .i64 4))], hp := [], nx := 0 }) (RegTo.mk [(.n, .e), (.n, .e)] ({ tm := [(2, .pv (.nilsl)), (3, .pv (.int .i64 4))], hp := [], nx := 0 }) [] (by kernel_rfl) .nil (Sub.refl _)) ?_
          refine x_toret ?_
          refine x_tr ?_
          obtain rfl := Option.some.inj h
          exact x_ret (.tup [.nilsl, .int .i64 4]) [] [] (by kernel_rfl) .nil (by decide) (.tup (.cons (.nilUsl _) (.cons (.refl _) .nil))) (fun _ => tup_ns (.cons (usl_ns (sh := none) (fun _ => rfl)) (.cons rfl .nil)))
        · replace h := ite_f h hc42
          refine x_kw (st2 := { tm := [(4, .osl 0 0 (List.map PV.str out).length)], hp := [(0, some (.p none (List.map PV.str out)))], nx := 1 }) ({ tm := [(4, .osl 0 0 (List.map PV.str out).length)], hp := [(0, some (.p none (List.map PV.str out)))], nx := 1 }) (by kernel_rfl) (Sub.refl _) ?_
          refine x_skip ?_
          refine x_tn ?_
          refine x_rg (st2 := { tm := [(2, .osl 0 0 (List.map PV.str out).length), (3, .pv (.int .i64 0))], hp := [(0, some (.p none (List.map PV.str out)))], nx := 1 }) (RegTo.mk [(.n, .e), (.n, .e), (.n, .e)] ({ tm := [(2, .osl 0 0 (List.map PV.str out).length), (3, .pv (.int .i64 0))], hp := [(0, some (.p none (List.map PV.str out)))], nx := 1 }) [] (by kernel_rfl) .nil (Sub.refl _)) ?_
          refine x_toret ?_
          obtain rfl := Option.some.inj h
          exact x_ret (.tup [.usl none (List.take (List.map PV.str out).length (List.map PV.str out)), .int .i64 0]) [0] [(List.map PV.str out).length ≤ List.length (List.map PV.str out)] (by kernel_rfl) (.cons (Nat.le_refl _) .nil) (by decide) (.tup (.cons (.of_eq (by rw [List.take_length])) (.cons (.refl _) .nil))) (fun _ => tup_ns (.cons (usl_ns (sh := none) (fun _ => rfl)) (.cons rfl .nil)))

theorem c33 {a0 : (List Str)} {a1 : Str} {r : Str} (h : strings_Join a0 a1 = some r) : CallOK Tryd.prog 33 [.sl none (List.map PV.str a0), .str a1] (.str r) true :=
  ok_join Tryd.func33 (by kernel_rfl) (by kernel_rfl) Tryd.strings_Join_none Tryd.strings_Join h

theorem c30 {l : (List Str)} {root : Bool} {r : Str} (h : path_build l root = some r) : CallOK Tryd.prog 30 [.sl none (List.map PV.str l), .bool root] (.str r) true := by
  apply ok30
  unfold path_build at h
  refine x_rg (st2 := { tm := [(0, .pv (.sl none (List.map PV.str l))), (1, .pv (.bool root))], hp := [], nx := 0 }) (RegTo.mk [(.n, .e)] ({ tm := [(0, .pv (.sl none (List.map PV.str l))), (1, .pv (.bool root))], hp := [], nx := 0 }) [] (by kernel_rfl) .nil (Sub.refl _)) ?_
  refine x_seq ?_
  refine x_block ?_
  refine x_rg (st2 := { tm := [(0, .pv (.sl none (List.map PV.str l))), (5, .pv (.bool root))], hp := [], nx := 0 }) (RegTo.mk [(.n, .e), (.n, .e)] ({ tm := [(0, .pv (.sl none (List.map PV.str l))), (5, .pv (.bool root))], hp := [], nx := 0 }) [] (by kernel_rfl) .nil (Sub.refl _)) ?_
  refine x_cond _ rfl (fun hc1 => ?_) (fun hc1 => ?_)
  · replace h := ite_t h hc1
    obtain ⟨x2, hx2, h⟩ := bind_some h
    obtain ⟨x3, hx3, h⟩ := bind_some h
    refine x_rg (st2 := { tm := [(4, .pv (.str x3))], hp := [], nx := 0 }) (RegTo.mk [(.n, .e), (.n, (.call [.sl none (List.map PV.str l), .str [47]] (.str x2) true)), (.n, (.cat x3)), (.n, .e)] ({ tm := [(4, .pv (.str x3))], hp := [], nx := 0 }) [(LesA [.sl none (List.map PV.str l), .str [47]] [.sl none (List.map PV.str l), .str [47]]), (CallOK Tryd.prog 33 [.sl none (List.map PV.str l), .str [47]] (.str x2) true), (catS [47] x2 = some x3)] (by kernel_rfl) (.cons (LesA.rfl' _) (.cons (c33 hx2) (.cons hx3 .nil))) (Sub.refl _)) ?_
    refine x_toret ?_
    refine x_br ?_
    refine x_tr ?_
    obtain rfl := Option.some.inj h
    exact x_ret (.str x3) [] [] (by kernel_rfl) .nil (by decide) (.refl _) (fun _ => rfl)
  · replace h := ite_f h hc1
    refine x_rg (st2 := { tm := [(0, .pv (.sl none (List.map PV.str l))), (10, .pv (.bool (decide ((List.length l : Int) = 0))))], hp := [], nx := 0 }) (RegTo.mk [(.n, .e), (.n, (.len (List.length l : Int))), (.n, .e), (.n, .e)] ({ tm := [(0, .pv (.sl none (List.map PV.str l))), (10, .pv (.bool (decide ((List.length l : Int) = 0))))], hp := [], nx := 0 }) [((List.length (List.map PV.str l) : Int) = (List.length l : Int))] (by kernel_rfl) (.cons (by rw [List.length_map]) .nil) (Sub.refl _)) ?_
    refine x_cond _ rfl (fun hc4 => ?_) (fun hc4 => ?_)
    · replace h := ite_t h hc4
      refine x_rg (st2 := { tm := [(4, .pv (.str [46]))], hp := [], nx := 0 }) (RegTo.mk [(.n, .e)] ({ tm := [(4, .pv (.str [46]))], hp := [], nx := 0 }) [] (by kernel_rfl) .nil (Sub.refl _)) ?_
      refine x_toret ?_
      refine x_br ?_
      refine x_tr ?_
      obtain rfl := Option.some.inj h
      exact x_ret (.str [46]) [] [] (by kernel_rfl) .nil (by decide) (.refl _) (fun _ => rfl)
    · replace h := ite_f h hc4
      refine x_kw (st2 := { tm := [(0, .pv (.sl none (List.map PV.str l)))], hp := [], nx := 0 }) ({ tm := [(0, .pv (.sl none (List.map PV.str l)))], hp := [], nx := 0 }) (by kernel_rfl) (Sub.refl _) ?_
      refine x_skip ?_
      refine x_bn ?_
      refine x_tn ?_
      obtain ⟨x5, hx5, h⟩ := bind_some h
      refine x_rg (st2 := { tm := [(4, .pv (.str x5))], hp := [], nx := 0 }) (RegTo.mk [(.n, .e), (.n, (.call [.sl none (List.map PV.str l), .str [47]] (.str x5) true)), (.n, .e)] ({ tm := [(4, .pv (.str x5))], hp := [], nx := 0 }) [(LesA [.sl none (List.map PV.str l), .str [47]] [.sl none (List.map PV.str l), .str [47]]), (CallOK Tryd.prog 33 [.sl none (List.map PV.str l), .str [47]] (.str x5) true)] (by kernel_rfl) (.cons (LesA.rfl' _) (.cons (c33 hx5) .nil)) (Sub.refl _)) ?_
      refine x_toret ?_
      obtain rfl := Option.some.inj h
      exact x_ret (.str x5) [] [] (by kernel_rfl) .nil (by decide) (.refl _) (fun _ => rfl)

theorem c14 {p : Str} {r : (Str × Int)} (h : path_Clean p = some r) : CallOK Tryd.prog 14 [.str p] (.tup [.str r.1, .int .i64 r.2]) true := by
  apply ok14
  unfold path_Clean at h
  refine x_rg (st2 := { tm := [(0, .pv (.str p))], hp := [], nx := 0 }) (RegTo.mk [(.n, .e), (.n, .e)] ({ tm := [(0, .pv (.str p))], hp := [], nx := 0 }) [] (by kernel_rfl) .nil (Sub.refl _)) ?_
  obtain ⟨x1, hx1, h⟩ := bind_some h
  refine x_rg (st2 := { tm := [(0, .pv (.str p)), (4, .osl 0 0 (List.map PV.str x1.1).length), (5, .pv (.int .i64 x1.2))], hp := [(0, some (.p none (List.map PV.str x1.1)))], nx := 1 }) (RegTo.mk [(.n, .e), (.n, (.call [.str p] (.tup [.usl none (List.map PV.str x1.1), .int .i64 x1.2]) true)), (.n, .e), (.n, .e), (.n, .e), (.n, .e), (.n, .e)] ({ tm := [(0, .pv (.str p)), (4, .osl 0 0 (List.map PV.str x1.1).length), (5, .pv (.int .i64 x1.2))], hp := [(0, some (.p none (List.map PV.str x1.1)))], nx := 1 }) [(LesA [.str p] [.str p]), (CallOK Tryd.prog 16 [.str p] (.tup [.usl none (List.map PV.str x1.1), .int .i64 x1.2]) true)] (by kernel_rfl) (.cons (LesA.rfl' _) (.cons (c16 hx1) .nil)) (Sub.refl _)) ?_
  refine x_seq ?_
  refine x_rg (st2 := { tm := [(0, .pv (.str p)), (4, .osl 0 0 (List.map PV.str x1.1).length), (5, .pv (.int .i64 x1.2)), (12, .pv (.bool (!decide (x1.2 = 0))))], hp := [(0, some (.p none (List.map PV.str x1.1)))], nx := 1 }) (RegTo.mk [(.n, .e), (.n, .e)] ({ tm := [(0, .pv (.str p)), (4, .osl 0 0 (List.map PV.str x1.1).length), (5, .pv (.int .i64 x1.2)), (12, .pv (.bool (!decide (x1.2 = 0))))], hp := [(0, some (.p none (List.map PV.str x1.1)))], nx := 1 }) [] (by kernel_rfl) .nil (Sub.refl _)) ?_
  refine x_cond _ rfl (fun hc2 => ?_) (fun hc2 => ?_)
  · replace h := ite_t h hc2
    refine x_rg (st2 := { tm := [(2, .pv (.str [])), (3, .pv (.int .i64 x1.2))], hp := [], nx := 0 }) (RegTo.mk [(.n, .e), (.n, .e), (.n, .e)] ({ tm := [(2, .pv (.str [])), (3, .pv (.int .i64 x1.2))], hp := [], nx := 0 }) [] (by kernel_rfl) .nil (Sub.refl _)) ?_
    refine x_toret ?_
    refine x_tr ?_
    obtain rfl := Option.some.inj h
    exact x_ret (.tup [.str [], .int .i64 x1.2]) [] [] (by kernel_rfl) .nil (by decide) (.tup (.cons (.refl _) (.cons (.refl _) .nil))) (fun _ => rfl)
  · replace h := ite_f h hc2
    refine x_kw (st2 := { tm := [(0, .pv (.str p)), (4, .osl 0 0 (List.map PV.str x1.1).length)], hp := [(0, some (.p none (List.map PV.str x1.1)))], nx := 1 }) ({ tm := [(0, .pv (.str p)), (4, .osl 0 0 (List.map PV.str x1.1).length)], hp := [(0, some (.p none (List.map PV.str x1.1)))], nx := 1 }) (by kernel_rfl) (Sub.refl _) ?_
    refine x_skip ?_
    refine x_tn ?_
    obtain ⟨x3, hx3, h⟩ := bind_some h
    obtain ⟨x4, hx4, h⟩ := bind_some h
    refine x_rg (st2 := { tm := [(2, .pv (.str x4)), (3, .pv (.int .i64 0))], hp := [], nx := 0 }) (RegTo.mk [(.n, .e), (.n, .e), (.n, (.call [.str p] (.bool x3) true)), (.n, (.call [.sl none (List.map PV.str x1.1), .bool x3] (.str x4) true)), (.n, .e), (.n, .e)] ({ tm := [(2, .pv (.str x4)), (3, .pv (.int .i64 0))], hp := [], nx := 0 }) [(LesA [.str p] [.str p]), (CallOK Tryd.prog 31 [.str p] (.bool x3) true), (LesA [.sl none (List.take (List.map PV.str x1.1).length (List.drop 0 (List.map PV.str x1.1))), .bool x3] [.sl none (List.map PV.str x1.1), .bool x3]), (CallOK Tryd.prog 30 [.sl none (List.map PV.str x1.1), .bool x3] (.str x4) true), (0 + (List.map PV.str x1.1).length ≤ List.length (List.map PV.str x1.1))] (by kernel_rfl) (.cons (LesA.rfl' _) (.cons (c31 hx3) (.cons (.cons (.of_eq (by rw [List.drop_zero, List.take_length])) (.cons (.refl _) .nil)) (.cons (c30 hx4) (.cons (by simp) .nil))))) (Sub.refl _)) ?_
    refine x_toret ?_
    obtain rfl := Option.some.inj h
    exact x_ret (.tup [.str x4, .int .i64 0]) [] [] (by kernel_rfl) .nil (by decide) (.tup (.cons (.refl _) (.cons (.refl _) .nil))) (fun _ => rfl)

theorem c19 {dir : Str} {p : Str} {r : (Str × Int)} (h : path_Join dir p = some r) : CallOK Tryd.prog 19 [.str dir, .str p] (.tup [.str r.1, .int .i64 r.2]) true := by
  apply ok19
  unfold path_Join at h
  refine x_rg (st2 := { tm := [(0, .pv (.str dir)), (1, .pv (.str p))], hp := [], nx := 0 }) (RegTo.mk [(.n, .e), (.n, .e)] ({ tm := [(0, .pv (.str dir)), (1, .pv (.str p))], hp := [], nx := 0 }) [] (by kernel_rfl) .nil (Sub.refl _)) ?_
  refine x_seq ?_
  obtain ⟨x1, hx1, h⟩ := bind_some h
  refine x_rg (st2 := { tm := [(0, .pv (.str dir)), (1, .pv (.str p)), (11, .pv (.bool (x1 || (decide (dir = [])))))], hp := [], nx := 0 }) ?_ ?_
  · rcases Bool.eq_false_or_eq_true x1 with hg2 | hg2
    · exact RegTo.mk [(.n, .e), (.n, (.call [.str p] (.bool x1) true)), (.n, .e), (.s, .e), (.s, .e), (.n, (.pk true))] ({ tm := [(0, .pv (.str dir)), (1, .pv (.str p)), (11, .pv (.bool true))], hp := [], nx := 0 }) [(LesA [.str p] [.str p]), (CallOK Tryd.prog 31 [.str p] (.bool x1) true), (x1 = true), (x1 = true), (x1 = true)] (by kernel_rfl) (.cons (LesA.rfl' _) (.cons (c31 hx1) (.cons hg2 (.cons hg2 (.cons hg2 .nil))))) (.of_eq (by simp only [hg2, Bool.true_or, Bool.false_or, Bool.true_and, Bool.false_and, Bool.or_true, Bool.or_false, Bool.and_true, Bool.and_false, Bool.false_eq_true, if_true, if_false, reduceIte]))
    · exact RegTo.mk [(.n, .e), (.n, (.call [.str p] (.bool x1) true)), (.n, .e), (.y, .e), (.y, .e), (.n, (.pk false))] ({ tm := [(0, .pv (.str dir)), (1, .pv (.str p)), (11, .pv (.bool (decide (dir = []))))], hp := [], nx := 0 }) [(LesA [.str p] [.str p]), (CallOK Tryd.prog 31 [.str p] (.bool x1) true), (x1 = false), (x1 = false), (x1 = false)] (by kernel_rfl) (.cons (LesA.rfl' _) (.cons (c31 hx1) (.cons hg2 (.cons hg2 (.cons hg2 .nil))))) (.of_eq (by simp only [hg2, Bool.true_or, Bool.false_or, Bool.true_and, Bool.false_and, Bool.or_true, Bool.or_false, Bool.and_true, Bool.and_false, Bool.false_eq_true, if_true, if_false, reduceIte]))
  · refine x_cond _ rfl (fun hc4 => ?_) (fun hc4 => ?_)
    · replace h := ite_t h hc4
      obtain ⟨x5, hx5, h⟩ := bind_some h
      refine x_rg (st2 := { tm := [(4, .pv (.str x5.1)), (5, .pv (.int .i64 x5.2))], hp := [], nx := 0 }) (RegTo.mk [(.n, .e), (.n, (.call [.str p] (.tup [.str x5.1, .int .i64 x5.2]) true)), (.n, .e), (.n, .e), (.n, .e), (.n, .e)] ({ tm := [(4, .pv (.str x5.1)), (5, .pv (.int .i64 x5.2))], hp := [], nx := 0 }) [(LesA [.str p] [.str p]), (CallOK Tryd.prog 14 [.str p] (.tup [.str x5.1, .int .i64 x5.2]) true)] (by kernel_rfl) (.cons (LesA.rfl' _) (.cons (c14 hx5) .nil)) (Sub.refl _)) ?_
      refine x_toret ?_
      refine x_tr ?_
      obtain rfl := Option.some.inj h
      exact x_ret (.tup [.str x5.1, .int .i64 x5.2]) [] [] (by kernel_rfl) .nil (by decide) (.tup (.cons (.refl _) (.cons (.refl _) .nil))) (fun _ => rfl)
    · replace h := ite_f h hc4
      refine x_kw (st2 := { tm := [(0, .pv (.str dir)), (1, .pv (.str p))], hp := [], nx := 0 }) ({ tm := [(0, .pv (.str dir)), (1, .pv (.str p))], hp := [], nx := 0 }) (by kernel_rfl) (Sub.refl _) ?_
      refine x_skip ?_
      refine x_tn ?_
      obtain ⟨x6, hx6, h⟩ := bind_some h
      obtain ⟨x7, hx7, h⟩ := bind_some h
      obtain ⟨x8, hx8, h⟩ := bind_some h
      refine x_rg (st2 := { tm := [(4, .pv (.str x8.1)), (5, .pv (.int .i64 x8.2))], hp := [], nx := 0 }) (RegTo.mk [(.n, .e), (.n, (.cat x6)), (.n, .e), (.n, (.cat x7)), (.n, (.call [.str x7] (.tup [.str x8.1, .int .i64 x8.2]) true)), (.n, .e), (.n, .e), (.n, .e), (.n, .e)] ({ tm := [(4, .pv (.str x8.1)), (5, .pv (.int .i64 x8.2))], hp := [], nx := 0 }) [(catS dir [47] = some x6), (catS x6 p = some x7), (LesA [.str x7] [.str x7]), (CallOK Tryd.prog 14 [.str x7] (.tup [.str x8.1, .int .i64 x8.2]) true)] (by kernel_rfl) (.cons hx6 (.cons hx7 (.cons (LesA.rfl' _) (.cons (c14 hx8) .nil)))) (Sub.refl _)) ?_
      refine x_toret ?_
      obtain rfl := Option.some.inj h
      exact x_ret (.tup [.str x8.1, .int .i64 x8.2]) [] [] (by kernel_rfl) .nil (by decide) (.tup (.cons (.refl _) (.cons (.refl _) .nil))) (fun _ => rfl)

theorem c26 {p : Str} {r : Str} (h : path_Base p = some r) : CallOK Tryd.prog 26 [.str p] (.str r) true := by
  apply ok26
  unfold path_Base at h
  refine x_rg (st2 := { tm := [(0, .pv (.str p))], hp := [], nx := 0 }) (RegTo.mk [(.n, .e)] ({ tm := [(0, .pv (.str p))], hp := [], nx := 0 }) [] (by kernel_rfl) .nil (Sub.refl _)) ?_
  obtain ⟨x1, hx1, h⟩ := bind_some h
  refine x_rg (st2 := { tm := [(0, .pv (.str p)), (3, .osl 0 0 (List.map PV.str x1.1).length), (4, .pv (.int .i64 x1.2))], hp := [(0, some (.p none (List.map PV.str x1.1)))], nx := 1 }) (RegTo.mk [(.n, .e), (.n, (.call [.str p] (.tup [.usl none (List.map PV.str x1.1), .int .i64 x1.2]) true)), (.n, .e), (.n, .e), (.n, .e), (.n, .e), (.n, .e)] ({ tm := [(0, .pv (.str p)), (3, .osl 0 0 (List.map PV.str x1.1).length), (4, .pv (.int .i64 x1.2))], hp := [(0, some (.p none (List.map PV.str x1.1)))], nx := 1 }) [(LesA [.str p] [.str p]), (CallOK Tryd.prog 16 [.str p] (.tup [.usl none (List.map PV.str x1.1), .int .i64 x1.2]) true)] (by kernel_rfl) (.cons (LesA.rfl' _) (.cons (c16 hx1) .nil)) (Sub.refl _)) ?_
  refine x_seq ?_
  refine x_block ?_
  refine x_rg (st2 := { tm := [(0, .pv (.str p)), (3, .osl 0 0 (List.map PV.str x1.1).length), (10, .pv (.bool (!decide (x1.2 = 0))))], hp := [(0, some (.p none (List.map PV.str x1.1)))], nx := 1 }) (RegTo.mk [(.n, .e), (.n, .e), (.n, .e)] ({ tm := [(0, .pv (.str p)), (3, .osl 0 0 (List.map PV.str x1.1).length), (10, .pv (.bool (!decide (x1.2 = 0))))], hp := [(0, some (.p none (List.map PV.str x1.1)))], nx := 1 }) [] (by kernel_rfl) .nil (Sub.refl _)) ?_
  refine x_cond _ rfl (fun hc2 => ?_) (fun hc2 => ?_)
  · replace h := ite_t h hc2
    refine x_rg (st2 := { tm := [(2, .pv (.str []))], hp := [], nx := 0 }) (RegTo.mk [(.n, .e)] ({ tm := [(2, .pv (.str []))], hp := [], nx := 0 }) [] (by kernel_rfl) .nil (Sub.refl _)) ?_
    refine x_toret ?_
    refine x_br ?_
    refine x_tr ?_
    obtain rfl := Option.some.inj h
    exact x_ret (.str []) [] [] (by kernel_rfl) .nil (by decide) (.refl _) (fun _ => rfl)
  · replace h := ite_f h hc2
    refine x_rg (st2 := { tm := [(0, .pv (.str p)), (3, .osl 0 0 (List.map PV.str x1.1).length), (13, .pv (.bool (decide ((List.length x1.1 : Int) = 0))))], hp := [(0, some (.p none (List.map PV.str x1.1)))], nx := 1 }) (RegTo.mk [(.n, .e), (.n, (.len (List.length x1.1 : Int))), (.n, .e), (.n, .e)] ({ tm := [(0, .pv (.str p)), (3, .osl 0 0 (List.map PV.str x1.1).length), (13, .pv (.bool (decide ((List.length x1.1 : Int) = 0))))], hp := [(0, some (.p none (List.map PV.str x1.1)))], nx := 1 }) [((((List.map PV.str x1.1).length : Nat) : Int) = (List.length x1.1 : Int))] (by kernel_rfl) (.cons (by rw [List.length_map]) .nil) (Sub.refl _)) ?_
    refine x_cond _ rfl (fun hc3 => ?_) (fun hc3 => ?_)
    · replace h := ite_t h hc3
      obtain ⟨x4, hx4, h⟩ := bind_some h
      obtain ⟨x5, hx5, h⟩ := bind_some h
      refine x_rg (st2 := { tm := [(2, .pv (.str x5))], hp := [], nx := 0 }) (RegTo.mk [(.n, .e), (.n, (.call [.str p] (.bool x4) true)), (.n, (.call [.sl none (List.map PV.str []), .bool x4] (.str x5) true)), (.n, .e)] ({ tm := [(2, .pv (.str x5))], hp := [], nx := 0 }) [(LesA [.str p] [.str p]), (CallOK Tryd.prog 31 [.str p] (.bool x4) true), (LesA [.nilsl, .bool x4] [.sl none (List.map PV.str []), .bool x4]), (CallOK Tryd.prog 30 [.sl none (List.map PV.str []), .bool x4] (.str x5) true)] (by kernel_rfl) (.cons (LesA.rfl' _) (.cons (c31 hx4) (.cons (.cons (.nilSl _) (.cons (.refl _) .nil)) (.cons (c30 hx5) .nil)))) (Sub.refl _)) ?_
      refine x_toret ?_
      refine x_br ?_
      refine x_tr ?_
      obtain rfl := Option.some.inj h
      exact x_ret (.str x5) [] [] (by kernel_rfl) .nil (by decide) (.refl _) (fun _ => rfl)
    · replace h := ite_f h hc3
      refine x_kw (st2 := { tm := [(3, .osl 0 0 (List.map PV.str x1.1).length)], hp := [(0, some (.p none (List.map PV.str x1.1)))], nx := 1 }) ({ tm := [(3, .osl 0 0 (List.map PV.str x1.1).length)], hp := [(0, some (.p none (List.map PV.str x1.1)))], nx := 1 }) (by kernel_rfl) (Sub.refl _) ?_
      refine x_skip ?_
      refine x_bn ?_
      refine x_tn ?_
      obtain ⟨x6, hx6, h⟩ := bind_some h
      refine x_rg (st2 := { tm := [(2, .pv (.str x6))], hp := [], nx := 0 }) (RegTo.mk [(.n, .e), (.n, .e), (.n, (.len (List.length x1.1 : Int))), (.n, .e), (.n, .rAt), (.n, (.ld (.str x6))), (.n, .e)] ({ tm := [(2, .pv (.str x6))], hp := [], nx := 0 }) [((((List.map PV.str x1.1).length : Nat) : Int) = (List.length x1.1 : Int)), (0 ≤ ((IntKind.wrap .i64 ((List.length x1.1 : Int) - 1)) : Int) ∧ Int.toNat (IntKind.wrap .i64 ((List.length x1.1 : Int) - 1)) < (List.map PV.str x1.1).length), ((List.map PV.str x1.1)[(0 + Int.toNat (IntKind.wrap .i64 ((List.length x1.1 : Int) - 1)))]? = some (.str x6))] (by kernel_rfl) (.cons (by rw [List.length_map]) (.cons (rAt_ob hx6 (by simp)) (.cons (ownAt hx6) .nil))) (Sub.refl _)) ?_
      refine x_toret ?_
      obtain rfl := Option.some.inj h
      exact x_ret (.str x6) [] [] (by kernel_rfl) .nil (by decide) (.refl _) (fun _ => rfl)

theorem c21 {dir : Str} {p : Str} {r : Bool} (h : path_Under dir p = some r) : CallOK Tryd.prog 21 [.str dir, .str p] (.bool r) true := by
  apply ok21
  unfold path_Under at h
  refine x_rg (st2 := { tm := [(0, .pv (.str dir)), (1, .pv (.str p))], hp := [], nx := 0 }) (RegTo.mk [(.n, .e)] ({ tm := [(0, .pv (.str dir)), (1, .pv (.str p))], hp := [], nx := 0 }) [] (by kernel_rfl) .nil (Sub.refl _)) ?_
  obtain ⟨x1, hx1, h⟩ := bind_some h
  refine x_rg (st2 := { tm := [(0, .pv (.str dir)), (1, .pv (.str p)), (5, .osl 0 0 (List.map PV.str x1.1).length), (6, .pv (.int .i64 x1.2))], hp := [(0, some (.p none (List.map PV.str x1.1)))], nx := 1 }) (RegTo.mk [(.n, .e), (.n, (.call [.str dir] (.tup [.usl none (List.map PV.str x1.1), .int .i64 x1.2]) true)), (.n, .e), (.n, .e), (.n, .e), (.n, .e), (.n, .e)] ({ tm := [(0, .pv (.str dir)), (1, .pv (.str p)), (5, .osl 0 0 (List.map PV.str x1.1).length), (6, .pv (.int .i64 x1.2))], hp := [(0, some (.p none (List.map PV.str x1.1)))], nx := 1 }) [(LesA [.str dir] [.str dir]), (CallOK Tryd.prog 16 [.str dir] (.tup [.usl none (List.map PV.str x1.1), .int .i64 x1.2]) true)] (by kernel_rfl) (.cons (LesA.rfl' _) (.cons (c16 hx1) .nil)) (Sub.refl _)) ?_
  obtain ⟨x2, hx2, h⟩ := bind_some h
  refine x_rg (st2 := { tm := [(0, .pv (.str dir)), (1, .pv (.str p)), (5, .osl 0 0 (List.map PV.str x1.1).length), (6, .pv (.int .i64 x1.2)), (7, .osl 1 0 (List.map PV.str x2.1).length), (8, .pv (.int .i64 x2.2))], hp := [(0, some (.p none (List.map PV.str x1.1))), (1, some (.p none (List.map PV.str x2.1)))], nx := 2 }) (RegTo.mk [(.n, .e), (.n, (.call [.str p] (.tup [.usl none (List.map PV.str x2.1), .int .i64 x2.2]) true)), (.n, .e), (.n, .e), (.n, .e), (.n, .e), (.n, .e)] ({ tm := [(0, .pv (.str dir)), (1, .pv (.str p)), (5, .osl 0 0 (List.map PV.str x1.1).length), (6, .pv (.int .i64 x1.2)), (7, .osl 1 0 (List.map PV.str x2.1).length), (8, .pv (.int .i64 x2.2))], hp := [(0, some (.p none (List.map PV.str x1.1))), (1, some (.p none (List.map PV.str x2.1)))], nx := 2 }) [(LesA [.str p] [.str p]), (CallOK Tryd.prog 16 [.str p] (.tup [.usl none (List.map PV.str x2.1), .int .i64 x2.2]) true)] (by kernel_rfl) (.cons (LesA.rfl' _) (.cons (c16 hx2) .nil)) (Sub.refl _)) ?_
  refine x_seq ?_
  obtain ⟨t9, ht, h⟩ := bind_some h
  refine x_rg (st2 := { tm := [(5, .osl 0 0 (List.map PV.str x1.1).length), (7, .osl 1 0 (List.map PV.str x2.1).length), (42, .pv (.bool t9))], hp := [(0, some (.p none (List.map PV.str x1.1))), (1, some (.p none (List.map PV.str x2.1)))], nx := 2 }) ?_ ?_
  · rcases Bool.eq_false_or_eq_true (!decide (x1.2 = 0)) with hg3 | hg3
    · replace ht := ite_t ht hg3
      have e := Option.some.inj ht
      subst e
      exact RegTo.mk [(.n, .e), (.n, .e), (.n, .e), (.s, .e), (.s, .e), (.n, (.pk true)), (.n, .e), (.s, .e), (.s, .e), (.s, .e), (.n, .e), (.n, .e), (.s, .e), (.s, .e), (.s, .e), (.n, .e), (.n, .e), (.s, .e), (.s, .e), (.s, .e), (.s, .e), (.s, .e), (.n, .e)] ({ tm := [(5, .osl 0 0 (List.map PV.str x1.1).length), (7, .osl 1 0 (List.map PV.str x2.1).length), (42, .pv (.bool true))], hp := [(0, some (.p none (List.map PV.str x1.1))), (1, some (.p none (List.map PV.str x2.1)))], nx := 2 }) [((!decide (x1.2 = 0)) = true), ((!decide (x1.2 = 0)) = true), ((!decide (x1.2 = 0)) = true), (true = true), (true = true), (true = true), (true = true), (true = true), (true = true), (true = true), (true = true), (true = true), (true = true), (true = true)] (by kernel_rfl) (.cons hg3 (.cons hg3 (.cons hg3 (.cons rfl (.cons rfl (.cons rfl (.cons rfl (.cons rfl (.cons rfl (.cons rfl (.cons rfl (.cons rfl (.cons rfl (.cons rfl .nil)))))))))))))) (Sub.refl _)
    · replace ht := ite_f ht hg3
      rcases Bool.eq_false_or_eq_true (!decide (x2.2 = 0)) with hg4 | hg4
      · replace ht := ite_t ht hg4
        have e := Option.some.inj ht
        subst e
        exact RegTo.mk [(.n, .e), (.n, .e), (.n, .e), (.y, .e), (.y, .e), (.n, (.pk false)), (.n, .e), (.s, .e), (.s, .e), (.s, .e), (.n, (.pk true)), (.n, .e), (.s, .e), (.s, .e), (.s, .e), (.n, .e), (.n, .e), (.s, .e), (.s, .e), (.s, .e), (.s, .e), (.s, .e), (.n, .e)] ({ tm := [(5, .osl 0 0 (List.map PV.str x1.1).length), (7, .osl 1 0 (List.map PV.str x2.1).length), (42, .pv (.bool true))], hp := [(0, some (.p none (List.map PV.str x1.1))), (1, some (.p none (List.map PV.str x2.1)))], nx := 2 }) [((!decide (x1.2 = 0)) = false), ((!decide (x1.2 = 0)) = false), ((!decide (x1.2 = 0)) = false), ((!decide (x2.2 = 0)) = true), ((!decide (x2.2 = 0)) = true), ((!decide (x2.2 = 0)) = true), ((!decide (x2.2 = 0)) = true), (true = true), (true = true), (true = true), (true = true), (true = true), (true = true), (true = true), (true = true)] (by kernel_rfl) (.cons hg3 (.cons hg3 (.cons hg3 (.cons hg4 (.cons hg4 (.cons hg4 (.cons hg4 (.cons rfl (.cons rfl (.cons rfl (.cons rfl (.cons rfl (.cons rfl (.cons rfl (.cons rfl .nil))))))))))))))) (Sub.refl _)
      · replace ht := ite_f ht hg4
        obtain ⟨x5, hx5, ht⟩ := bind_some ht
        rcases Bool.eq_false_or_eq_true (!x5) with hg6 | hg6
        · replace ht := ite_t ht hg6
          have e := Option.some.inj ht
          subst e
          exact RegTo.mk [(.n, .e), (.n, .e), (.n, .e), (.y, .e), (.y, .e), (.n, (.pk false)), (.n, .e), (.y, .e), (.y, (.call [.str dir] (.bool x5) true)), (.y, .e), (.n, (.pk false)), (.n, .e), (.s, .e), (.s, .e), (.s, .e), (.n, (.pk true)), (.n, .e), (.s, .e), (.s, .e), (.s, .e), (.s, .e), (.s, .e), (.n, .e)] ({ tm := [(5, .osl 0 0 (List.map PV.str x1.1).length), (7, .osl 1 0 (List.map PV.str x2.1).length), (42, .pv (.bool true))], hp := [(0, some (.p none (List.map PV.str x1.1))), (1, some (.p none (List.map PV.str x2.1)))], nx := 2 }) [((!decide (x1.2 = 0)) = false), ((!decide (x1.2 = 0)) = false), ((!decide (x1.2 = 0)) = false), ((!decide (x2.2 = 0)) = false), ((!decide (x2.2 = 0)) = false), (LesA [.str dir] [.str dir]), (CallOK Tryd.prog 31 [.str dir] (.bool x5) true), ((!decide (x2.2 = 0)) = false), ((!decide (x2.2 = 0)) = false), ((!x5) = true), ((!x5) = true), ((!x5) = true), ((!x5) = true), (true = true), (true = true), (true = true), (true = true), (true = true)] (by kernel_rfl) (.cons hg3 (.cons hg3 (.cons hg3 (.cons hg4 (.cons hg4 (.cons (LesA.rfl' _) (.cons (c31 hx5) (.cons hg4 (.cons hg4 (.cons hg6 (.cons hg6 (.cons hg6 (.cons hg6 (.cons rfl (.cons rfl (.cons rfl (.cons rfl (.cons rfl .nil)))))))))))))))))) (Sub.refl _)
        · replace ht := ite_f ht hg6
          obtain ⟨x7, hx7, ht⟩ := bind_some ht
          rcases Bool.eq_false_or_eq_true (!x7) with hg8 | hg8
          · replace ht := ite_t ht hg8
            have e := Option.some.inj ht
            subst e
            exact RegTo.mk [(.n, .e), (.n, .e), (.n, .e), (.y, .e), (.y, .e), (.n, (.pk false)), (.n, .e), (.y, .e), (.y, (.call [.str dir] (.bool x5) true)), (.y, .e), (.n, (.pk false)), (.n, .e), (.y, .e), (.y, (.call [.str p] (.bool x7) true)), (.y, .e), (.n, (.pk false)), (.n, .e), (.s, .e), (.s, .e), (.s, .e), (.s, .e), (.s, .e), (.n, (.pk true))] ({ tm := [(5, .osl 0 0 (List.map PV.str x1.1).length), (7, .osl 1 0 (List.map PV.str x2.1).length), (42, .pv (.bool true))], hp := [(0, some (.p none (List.map PV.str x1.1))), (1, some (.p none (List.map PV.str x2.1)))], nx := 2 }) [((!decide (x1.2 = 0)) = false), ((!decide (x1.2 = 0)) = false), ((!decide (x1.2 = 0)) = false), ((!decide (x2.2 = 0)) = false), ((!decide (x2.2 = 0)) = false), (LesA [.str dir] [.str dir]), (CallOK Tryd.prog 31 [.str dir] (.bool x5) true), ((!decide (x2.2 = 0)) = false), ((!decide (x2.2 = 0)) = false), ((!x5) = false), ((!x5) = false), (LesA [.str p] [.str p]), (CallOK Tryd.prog 31 [.str p] (.bool x7) true), ((!x5) = false), ((!x5) = false), ((!x7) = true), ((!x7) = true), ((!x7) = true), ((!x7) = true), ((!x7) = true), ((!x7) = true)] (by kernel_rfl) (.cons hg3 (.cons hg3 (.cons hg3 (.cons hg4 (.cons hg4 (.cons (LesA.rfl' _) (.cons (c31 hx5) (.cons hg4 (.cons hg4 (.cons hg6 (.cons hg6 (.cons (LesA.rfl' _) (.cons (c31 hx7) (.cons hg6 (.cons hg6 (.cons hg8 (.cons hg8 (.cons hg8 (.cons hg8 (.cons hg8 (.cons hg8 .nil))))))))))))))))))))) (Sub.refl _)
          · replace ht := ite_f ht hg8
            have e := Option.some.inj ht
            subst e
            exact RegTo.mk [(.n, .e), (.n, .e), (.n, .e), (.y, .e), (.y, .e), (.n, (.pk false)), (.n, .e), (.y, .e), (.y, (.call [.str dir] (.bool x5) true)), (.y, .e), (.n, (.pk false)), (.n, .e), (.y, .e), (.y, (.call [.str p] (.bool x7) true)), (.y, .e), (.n, (.pk false)), (.n, .e), (.y, .e), (.y, (.len (List.length x1.1 : Int))), (.y, .e), (.y, (.len (List.length x2.1 : Int))), (.y, .e), (.n, (.pk false))] ({ tm := [(5, .osl 0 0 (List.map PV.str x1.1).length), (7, .osl 1 0 (List.map PV.str x2.1).length), (42, .pv (.bool (decide ((List.length x2.1 : Int) < (List.length x1.1 : Int)))))], hp := [(0, some (.p none (List.map PV.str x1.1))), (1, some (.p none (List.map PV.str x2.1)))], nx := 2 }) [((!decide (x1.2 = 0)) = false), ((!decide (x1.2 = 0)) = false), ((!decide (x1.2 = 0)) = false), ((!decide (x2.2 = 0)) = false), ((!decide (x2.2 = 0)) = false), (LesA [.str dir] [.str dir]), (CallOK Tryd.prog 31 [.str dir] (.bool x5) true), ((!decide (x2.2 = 0)) = false), ((!decide (x2.2 = 0)) = false), ((!x5) = false), ((!x5) = false), (LesA [.str p] [.str p]), (CallOK Tryd.prog 31 [.str p] (.bool x7) true), ((!x5) = false), ((!x5) = false), ((!x7) = false), ((!x7) = false), ((((List.map PV.str x1.1).length : Nat) : Int) = (List.length x1.1 : Int)), ((!x7) = false), ((!x7) = false), ((((List.map PV.str x2.1).length : Nat) : Int) = (List.length x2.1 : Int)), ((!x7) = false), ((!x7) = false)] (by kernel_rfl) (.cons hg3 (.cons hg3 (.cons hg3 (.cons hg4 (.cons hg4 (.cons (LesA.rfl' _) (.cons (c31 hx5) (.cons hg4 (.cons hg4 (.cons hg6 (.cons hg6 (.cons (LesA.rfl' _) (.cons (c31 hx7) (.cons hg6 (.cons hg6 (.cons hg8 (.cons hg8 (.cons (by rw [List.length_map]) (.cons hg8 (.cons hg8 (.cons (by rw [List.length_map]) (.cons hg8 (.cons hg8 .nil))))))))))))))))))))))) (Sub.refl _)
  · clear ht
    refine x_cond _ rfl (fun hc10 => ?_) (fun hc10 => ?_)
    · replace h := ite_t h hc10
      refine x_rg (st2 := { tm := [(4, .pv (.bool false))], hp := [], nx := 0 }) (RegTo.mk [(.n, .e)] ({ tm := [(4, .pv (.bool false))], hp := [], nx := 0 }) [] (by kernel_rfl) .nil (Sub.refl _)) ?_
      refine x_toret ?_
      refine x_tr ?_
      obtain rfl := Option.some.inj h
      exact x_ret (.bool false) [] [] (by kernel_rfl) .nil (by decide) (.refl _) (fun _ => rfl)
    · replace h := ite_f h hc10
      refine x_kw (st2 := { tm := [(5, .osl 0 0 (List.map PV.str x1.1).length), (7, .osl 1 0 (List.map PV.str x2.1).length)], hp := [(0, some (.p none (List.map PV.str x1.1))), (1, some (.p none (List.map PV.str x2.1)))], nx := 2 }) ({ tm := [(5, .osl 0 0 (List.map PV.str x1.1).length), (7, .osl 1 0 (List.map PV.str x2.1).length)], hp := [(0, some (.p none (List.map PV.str x1.1))), (1, some (.p none (List.map PV.str x2.1)))], nx := 2 }) (by kernel_rfl) (Sub.refl _) ?_
      refine x_skip ?_
      refine x_tn ?_
      refine x_seq ?_
      refine x_rg (st2 := { tm := [(5, .osl 0 0 (List.map PV.str x1.1).length), (7, .osl 1 0 (List.map PV.str x2.1).length), (44, .pv (.int .i64 (List.length x1.1 : Int))), (45, .pv (.int .i64 0))], hp := [(0, some (.p none (List.map PV.str x1.1))), (1, some (.p none (List.map PV.str x2.1)))], nx := 2 }) (RegTo.mk [(.n, .e), (.n, (.len (List.length x1.1 : Int))), (.n, .e)] ({ tm := [(5, .osl 0 0 (List.map PV.str x1.1).length), (7, .osl 1 0 (List.map PV.str x2.1).length), (44, .pv (.int .i64 (List.length x1.1 : Int))), (45, .pv (.int .i64 0))], hp := [(0, some (.p none (List.map PV.str x1.1))), (1, some (.p none (List.map PV.str x2.1)))], nx := 2 }) [((((List.map PV.str x1.1).length : Nat) : Int) = (List.length x1.1 : Int))] (by kernel_rfl) (.cons (by rw [List.length_map]) .nil) (Sub.refl _)) ?_
      refine x_block ?_
      refine x_kw (st2 := { tm := [(5, .osl 0 0 (List.map PV.str x1.1).length), (7, .osl 1 0 (List.map PV.str x2.1).length), (44, .pv (.int .i64 (List.length x1.1 : Int))), (45, .pv (.int .i64 0))], hp := [(0, some (.p none (List.map PV.str x1.1))), (1, some (.p none (List.map PV.str x2.1)))], nx := 2 }) ({ tm := [(5, .osl 0 0 (List.map PV.str x1.1).length), (7, .osl 1 0 (List.map PV.str x2.1).length), (44, .pv (.int .i64 (List.length x1.1 : Int))), (45, .pv (.int .i64 0))], hp := [(0, some (.p none (List.map PV.str x1.1))), (1, some (.p none (List.map PV.str x2.1)))], nx := 2 }) (by kernel_rfl) (Sub.refl _) ?_
      refine x_loop (σ := Int) h (fun s => { tm := [(5, .osl 0 0 (List.map PV.str x1.1).length), (7, .osl 1 0 (List.map PV.str x2.1).length), (44, .pv (.int .i64 (List.length x1.1 : Int))), (45, .pv (.int .i64 s))], hp := [(0, some (.p none (List.map PV.str x1.1))), (1, some (.p none (List.map PV.str x2.1)))], nx := 2 }) (by kernel_rfl) ?_ ?_
      · rintro v15
        kernel_rfl
      · rintro v15 x16 h hx16
        replace h : path_Under_L16 x1 x2 v15 = some x16 := h
        unfold path_Under_L16 at h
        refine x_rg (st2 := { tm := [(5, .osl 0 0 (List.map PV.str x1.1).length), (7, .osl 1 0 (List.map PV.str x2.1).length), (44, .pv (.int .i64 (List.length x1.1 : Int))), (45, .pv (.int .i64 v15)), (46, .pv (.bool (decide (v15 < (List.length x1.1 : Int)))))], hp := [(0, some (.p none (List.map PV.str x1.1))), (1, some (.p none (List.map PV.str x2.1)))], nx := 2 }) (RegTo.mk [(.n, .e)] ({ tm := [(5, .osl 0 0 (List.map PV.str x1.1).length), (7, .osl 1 0 (List.map PV.str x2.1).length), (44, .pv (.int .i64 (List.length x1.1 : Int))), (45, .pv (.int .i64 v15)), (46, .pv (.bool (decide (v15 < (List.length x1.1 : Int)))))], hp := [(0, some (.p none (List.map PV.str x1.1))), (1, some (.p none (List.map PV.str x2.1)))], nx := 2 }) [] (by kernel_rfl) .nil (Sub.refl _)) ?_
        refine x_seq ?_
        refine x_cond _ rfl (fun hc17 => ?_) (fun hc17 => ?_)
        · replace h := ite_t h hc17
          refine x_kw (st2 := { tm := [(5, .osl 0 0 (List.map PV.str x1.1).length), (7, .osl 1 0 (List.map PV.str x2.1).length), (44, .pv (.int .i64 (List.length x1.1 : Int))), (45, .pv (.int .i64 v15))], hp := [(0, some (.p none (List.map PV.str x1.1))), (1, some (.p none (List.map PV.str x2.1)))], nx := 2 }) ({ tm := [(5, .osl 0 0 (List.map PV.str x1.1).length), (7, .osl 1 0 (List.map PV.str x2.1).length), (44, .pv (.int .i64 (List.length x1.1 : Int))), (45, .pv (.int .i64 v15))], hp := [(0, some (.p none (List.map PV.str x1.1))), (1, some (.p none (List.map PV.str x2.1)))], nx := 2 }) (by kernel_rfl) (Sub.refl _) ?_
          refine x_skip ?_
          refine x_tn ?_
          refine x_seq ?_
          refine x_block ?_
          refine x_rg (st2 := { tm := [(5, .osl 0 0 (List.map PV.str x1.1).length), (7, .osl 1 0 (List.map PV.str x2.1).length), (9, .pv (.int .i64 v15)), (44, .pv (.int .i64 (List.length x1.1 : Int))), (45, .pv (.int .i64 v15))], hp := [(0, some (.p none (List.map PV.str x1.1))), (1, some (.p none (List.map PV.str x2.1)))], nx := 2 }) (RegTo.mk [(.n, .e), (.n, .e)] ({ tm := [(5, .osl 0 0 (List.map PV.str x1.1).length), (7, .osl 1 0 (List.map PV.str x2.1).length), (9, .pv (.int .i64 v15)), (44, .pv (.int .i64 (List.length x1.1 : Int))), (45, .pv (.int .i64 v15))], hp := [(0, some (.p none (List.map PV.str x1.1))), (1, some (.p none (List.map PV.str x2.1)))], nx := 2 }) [] (by kernel_rfl) .nil (Sub.refl _)) ?_
          obtain ⟨x18, hx18, h⟩ := bind_some h
          obtain ⟨x19, hx19, h⟩ := bind_some h
          refine x_rg (st2 := { tm := [(5, .osl 0 0 (List.map PV.str x1.1).length), (7, .osl 1 0 (List.map PV.str x2.1).length), (44, .pv (.int .i64 (List.length x1.1 : Int))), (45, .pv (.int .i64 v15)), (56, .pv (.bool (!decide (x18 = x19))))], hp := [(0, some (.p none (List.map PV.str x1.1))), (1, some (.p none (List.map PV.str x2.1)))], nx := 2 }) (RegTo.mk [(.n, .e), (.n, .e), (.n, .rAt), (.n, (.ld (.str x18))), (.n, .e), (.n, .e), (.n, .rAt), (.n, (.ld (.str x19))), (.n, .e)] ({ tm := [(5, .osl 0 0 (List.map PV.str x1.1).length), (7, .osl 1 0 (List.map PV.str x2.1).length), (44, .pv (.int .i64 (List.length x1.1 : Int))), (45, .pv (.int .i64 v15)), (56, .pv (.bool (!decide (x18 = x19))))], hp := [(0, some (.p none (List.map PV.str x1.1))), (1, some (.p none (List.map PV.str x2.1)))], nx := 2 }) [(0 ≤ (v15 : Int) ∧ Int.toNat v15 < (List.map PV.str x1.1).length), ((List.map PV.str x1.1)[(0 + Int.toNat v15)]? = some (.str x18)), (0 ≤ (v15 : Int) ∧ Int.toNat v15 < (List.map PV.str x2.1).length), ((List.map PV.str x2.1)[(0 + Int.toNat v15)]? = some (.str x19))] (by kernel_rfl) (.cons (rAt_ob hx18 (by simp)) (.cons (ownAt hx18) (.cons (rAt_ob hx19 (by simp)) (.cons (ownAt hx19) .nil)))) (Sub.refl _)) ?_
          refine x_cond _ rfl (fun hc20 => ?_) (fun hc20 => ?_)
          · replace h := ite_t h hc20
            refine x_rg (st2 := { tm := [(4, .pv (.bool false))], hp := [], nx := 0 }) (RegTo.mk [(.n, .e)] ({ tm := [(4, .pv (.bool false))], hp := [], nx := 0 }) [] (by kernel_rfl) .nil (Sub.refl _)) ?_
            refine x_toret ?_
            refine x_br ?_
            refine x_tr ?_
            refine x_tr ?_
            replace h := done_leaf h hx16
            refine x_br ?_
            refine x_tr ?_
            obtain rfl := Option.some.inj h
            exact x_ret (.bool false) [] [] (by kernel_rfl) .nil (by decide) (.refl _) (fun _ => rfl)
          · replace h := ite_f h hc20
            refine x_kw (st2 := { tm := [(5, .osl 0 0 (List.map PV.str x1.1).length), (7, .osl 1 0 (List.map PV.str x2.1).length), (44, .pv (.int .i64 (List.length x1.1 : Int))), (45, .pv (.int .i64 v15))], hp := [(0, some (.p none (List.map PV.str x1.1))), (1, some (.p none (List.map PV.str x2.1)))], nx := 2 }) ({ tm := [(5, .osl 0 0 (List.map PV.str x1.1).length), (7, .osl 1 0 (List.map PV.str x2.1).length), (44, .pv (.int .i64 (List.length x1.1 : Int))), (45, .pv (.int .i64 v15))], hp := [(0, some (.p none (List.map PV.str x1.1))), (1, some (.p none (List.map PV.str x2.1)))], nx := 2 }) (by kernel_rfl) (Sub.refl _) ?_
            refine x_skip ?_
            refine x_bn ?_
            refine x_tn ?_
            refine x_rgt (st2 := { tm := [(5, .osl 0 0 (List.map PV.str x1.1).length), (7, .osl 1 0 (List.map PV.str x2.1).length), (44, .pv (.int .i64 (List.length x1.1 : Int))), (45, .pv (.int .i64 (IntKind.wrap .i64 (v15 + 1))))], hp := [(0, some (.p none (List.map PV.str x1.1))), (1, some (.p none (List.map PV.str x2.1)))], nx := 2 }) (RegTo.mk [(.n, .e), (.n, .e)] ({ tm := [(5, .osl 0 0 (List.map PV.str x1.1).length), (7, .osl 1 0 (List.map PV.str x2.1).length), (44, .pv (.int .i64 (List.length x1.1 : Int))), (45, .pv (.int .i64 (IntKind.wrap .i64 (v15 + 1))))], hp := [(0, some (.p none (List.map PV.str x1.1))), (1, some (.p none (List.map PV.str x2.1)))], nx := 2 }) [] (by kernel_rfl) .nil (Sub.refl _)) ?_
            refine x_tn ?_
            exact ⟨_, (Option.some.inj h).symm, by kernel_rfl⟩
        · replace h := ite_f h hc17
          refine x_kw (st2 := { tm := [], hp := [], nx := 0 }) ({ tm := [], hp := [], nx := 0 }) (by kernel_rfl) (Sub.refl _) ?_
          refine x_exit ?_
          refine x_te ?_
          refine x_te ?_
          replace h := done_leaf h hx16
          refine x_bh ?_
          refine x_tn ?_
          refine x_rg (st2 := { tm := [(4, .pv (.bool true))], hp := [], nx := 0 }) (RegTo.mk [(.n, .e)] ({ tm := [(4, .pv (.bool true))], hp := [], nx := 0 }) [] (by kernel_rfl) .nil (Sub.refl _)) ?_
          refine x_toret ?_
          obtain rfl := Option.some.inj h
          exact x_ret (.bool true) [] [] (by kernel_rfl) .nil (by decide) (.refl _) (fun _ => rfl)

theorem c11 {r : Bool} (h : law03_awake = some r) : CallOK Tryd.prog 11 [] (.bool r) true := by
  apply ok11
  unfold law03_awake at h
  refine x_rg (st2 := { tm := [], hp := [], nx := 0 }) (RegTo.mk [(.n, .e)] ({ tm := [], hp := [], nx := 0 }) [] (by kernel_rfl) .nil (Sub.refl _)) ?_
  obtain ⟨x1, hx1, h⟩ := bind_some h
  refine x_rg (st2 := { tm := [(1, .pv (.str x1.1)), (2, .pv (.int .i64 x1.2))], hp := [], nx := 0 }) (RegTo.mk [(.n, (.call [.str [47, 97, 47, 46, 46, 47, 98, 47, 47, 99, 47, 46]] (.tup [.str x1.1, .int .i64 x1.2]) true)), (.n, .e), (.n, .e), (.n, .e), (.n, .e), (.n, .e)] ({ tm := [(1, .pv (.str x1.1)), (2, .pv (.int .i64 x1.2))], hp := [], nx := 0 }) [(LesA [.str [47, 97, 47, 46, 46, 47, 98, 47, 47, 99, 47, 46]] [.str [47, 97, 47, 46, 46, 47, 98, 47, 47, 99, 47, 46]]), (CallOK Tryd.prog 14 [.str [47, 97, 47, 46, 46, 47, 98, 47, 47, 99, 47, 46]] (.tup [.str x1.1, .int .i64 x1.2]) true)] (by kernel_rfl) (.cons (LesA.rfl' _) (.cons (c14 hx1) .nil)) (Sub.refl _)) ?_
  obtain ⟨x2, hx2, h⟩ := bind_some h
  refine x_rg (st2 := { tm := [(1, .pv (.str x1.1)), (2, .pv (.int .i64 x1.2)), (3, .pv (.str x2.1)), (4, .pv (.int .i64 x2.2))], hp := [], nx := 0 }) (RegTo.mk [(.n, (.call [.str [47, 97, 47, 98], .str [46, 46, 47, 99]] (.tup [.str x2.1, .int .i64 x2.2]) true)), (.n, .e), (.n, .e), (.n, .e), (.n, .e), (.n, .e)] ({ tm := [(1, .pv (.str x1.1)), (2, .pv (.int .i64 x1.2)), (3, .pv (.str x2.1)), (4, .pv (.int .i64 x2.2))], hp := [], nx := 0 }) [(LesA [.str [47, 97, 47, 98], .str [46, 46, 47, 99]] [.str [47, 97, 47, 98], .str [46, 46, 47, 99]]), (CallOK Tryd.prog 19 [.str [47, 97, 47, 98], .str [46, 46, 47, 99]] (.tup [.str x2.1, .int .i64 x2.2]) true)] (by kernel_rfl) (.cons (LesA.rfl' _) (.cons (c19 hx2) .nil)) (Sub.refl _)) ?_
  obtain ⟨t16, ht, h⟩ := bind_some h
  refine x_rg (st2 := { tm := [(0, .pv (.bool t16))], hp := [], nx := 0 }) ?_ ?_
  · rcases Bool.eq_false_or_eq_true (decide (x1.1 = [47, 98, 47, 99])) with hg3 | hg3
    · replace ht := ite_t ht hg3
      rcases Bool.eq_false_or_eq_true (decide (x1.2 = 0)) with hg4 | hg4
      · replace ht := ite_t ht hg4
        rcases Bool.eq_false_or_eq_true (decide (x2.1 = [47, 97, 47, 99])) with hg5 | hg5
        · replace ht := ite_t ht hg5
          rcases Bool.eq_false_or_eq_true (decide (x2.2 = 0)) with hg6 | hg6
          · replace ht := ite_t ht hg6
            obtain ⟨x7, hx7, ht⟩ := bind_some ht
            rcases Bool.eq_false_or_eq_true x7 with hg8 | hg8
            · replace ht := ite_t ht hg8
              obtain ⟨x9, hx9, ht⟩ := bind_some ht
              rcases Bool.eq_false_or_eq_true (!x9) with hg10 | hg10
              · replace ht := ite_t ht hg10
                obtain ⟨x11, hx11, ht⟩ := bind_some ht
                rcases Bool.eq_false_or_eq_true (decide (x11 = [98])) with hg12 | hg12
                · replace ht := ite_t ht hg12
                  obtain ⟨x13, hx13, ht⟩ := bind_some ht
                  rcases Bool.eq_false_or_eq_true x13 with hg14 | hg14
                  · replace ht := ite_t ht hg14
                    obtain ⟨x15, hx15, ht⟩ := bind_some ht
                    have e := Option.some.inj ht
                    subst e
                    exact RegTo.mk [(.n, .e), (.n, .e), (.n, .e), (.y, .e), (.y, .e), (.n, (.pk true)), (.n, .e), (.y, .e), (.y, .e), (.n, (.pk true)), (.n, .e), (.y, .e), (.y, .e), (.n, (.pk true)), (.n, .e), (.y, (.call [.str [97, 46, 98]] (.bool x7) true)), (.n, (.pk true)), (.n, .e), (.y, (.call [.str [46, 46]] (.bool x9) true)), (.y, .e), (.n, (.pk true)), (.n, .e), (.y, (.call [.str [47, 97, 47, 98, 47]] (.str x11) true)), (.y, .e), (.n, (.pk true)), (.n, .e), (.y, (.call [.str [47, 97], .str [47, 97, 47, 98]] (.bool x13) true)), (.n, (.pk true)), (.n, .e), (.y, (.call [.str [47, 97], .str [47, 97, 98]] (.bool x15) true)), (.y, .e), (.n, (.pk true)), (.n, .e)] ({ tm := [(0, .pv (.bool (!x15)))], hp := [], nx := 0 }) [((decide (x1.1 = [47, 98, 47, 99])) = true), ((decide (x1.1 = [47, 98, 47, 99])) = true), ((decide (x1.1 = [47, 98, 47, 99])) = true), ((decide (x1.2 = 0)) = true), ((decide (x1.2 = 0)) = true), ((decide (x1.2 = 0)) = true), ((decide (x2.1 = [47, 97, 47, 99])) = true), ((decide (x2.1 = [47, 97, 47, 99])) = true), ((decide (x2.1 = [47, 97, 47, 99])) = true), ((decide (x2.2 = 0)) = true), (LesA [.str [97, 46, 98]] [.str [97, 46, 98]]), (CallOK Tryd.prog 12 [.str [97, 46, 98]] (.bool x7) true), ((decide (x2.2 = 0)) = true), (x7 = true), (LesA [.str [46, 46]] [.str [46, 46]]), (CallOK Tryd.prog 12 [.str [46, 46]] (.bool x9) true), (x7 = true), (x7 = true), ((!x9) = true), (LesA [.str [47, 97, 47, 98, 47]] [.str [47, 97, 47, 98, 47]]), (CallOK Tryd.prog 26 [.str [47, 97, 47, 98, 47]] (.str x11) true), ((!x9) = true), ((!x9) = true), ((decide (x11 = [98])) = true), (LesA [.str [47, 97], .str [47, 97, 47, 98]] [.str [47, 97], .str [47, 97, 47, 98]]), (CallOK Tryd.prog 21 [.str [47, 97], .str [47, 97, 47, 98]] (.bool x13) true), ((decide (x11 = [98])) = true), (x13 = true), (LesA [.str [47, 97], .str [47, 97, 98]] [.str [47, 97], .str [47, 97, 98]]), (CallOK Tryd.prog 21 [.str [47, 97], .str [47, 97, 98]] (.bool x15) true), (x13 = true), (x13 = true)] (by kernel_rfl) (.cons hg3 (.cons hg3 (.cons hg3 (.cons hg4 (.cons hg4 (.cons hg4 (.cons hg5 (.cons hg5 (.cons hg5 (.cons hg6 (.cons (LesA.rfl' _) (.cons (c12 hx7) (.cons hg6 (.cons hg8 (.cons (LesA.rfl' _) (.cons (c12 hx9) (.cons hg8 (.cons hg8 (.cons hg10 (.cons (LesA.rfl' _) (.cons (c26 hx11) (.cons hg10 (.cons hg10 (.cons hg12 (.cons (LesA.rfl' _) (.cons (c21 hx13) (.cons hg12 (.cons hg14 (.cons (LesA.rfl' _) (.cons (c21 hx15) (.cons hg14 (.cons hg14 .nil)))))))))))))))))))))))))))))))) (Sub.refl _)
                  · replace ht := ite_f ht hg14
                    have e := Option.some.inj ht
                    subst e
                    exact RegTo.mk [(.n, .e), (.n, .e), (.n, .e), (.y, .e), (.y, .e), (.n, (.pk true)), (.n, .e), (.y, .e), (.y, .e), (.n, (.pk true)), (.n, .e), (.y, .e), (.y, .e), (.n, (.pk true)), (.n, .e), (.y, (.call [.str [97, 46, 98]] (.bool x7) true)), (.n, (.pk true)), (.n, .e), (.y, (.call [.str [46, 46]] (.bool x9) true)), (.y, .e), (.n, (.pk true)), (.n, .e), (.y, (.call [.str [47, 97, 47, 98, 47]] (.str x11) true)), (.y, .e), (.n, (.pk true)), (.n, .e), (.y, (.call [.str [47, 97], .str [47, 97, 47, 98]] (.bool x13) true)), (.n, (.pk true)), (.n, .e), (.s, .e), (.s, .e), (.n, (.pk false)), (.n, .e)] ({ tm := [(0, .pv (.bool false))], hp := [], nx := 0 }) [((decide (x1.1 = [47, 98, 47, 99])) = true), ((decide (x1.1 = [47, 98, 47, 99])) = true), ((decide (x1.1 = [47, 98, 47, 99])) = true), ((decide (x1.2 = 0)) = true), ((decide (x1.2 = 0)) = true), ((decide (x1.2 = 0)) = true), ((decide (x2.1 = [47, 97, 47, 99])) = true), ((decide (x2.1 = [47, 97, 47, 99])) = true), ((decide (x2.1 = [47, 97, 47, 99])) = true), ((decide (x2.2 = 0)) = true), (LesA [.str [97, 46, 98]] [.str [97, 46, 98]]), (CallOK Tryd.prog 12 [.str [97, 46, 98]] (.bool x7) true), ((decide (x2.2 = 0)) = true), (x7 = true), (LesA [.str [46, 46]] [.str [46, 46]]), (CallOK Tryd.prog 12 [.str [46, 46]] (.bool x9) true), (x7 = true), (x7 = true), ((!x9) = true), (LesA [.str [47, 97, 47, 98, 47]] [.str [47, 97, 47, 98, 47]]), (CallOK Tryd.prog 26 [.str [47, 97, 47, 98, 47]] (.str x11) true), ((!x9) = true), ((!x9) = true), ((decide (x11 = [98])) = true), (LesA [.str [47, 97], .str [47, 97, 47, 98]] [.str [47, 97], .str [47, 97, 47, 98]]), (CallOK Tryd.prog 21 [.str [47, 97], .str [47, 97, 47, 98]] (.bool x13) true), ((decide (x11 = [98])) = true), (x13 = false), (x13 = false), (x13 = false)] (by kernel_rfl) (.cons hg3 (.cons hg3 (.cons hg3 (.cons hg4 (.cons hg4 (.cons hg4 (.cons hg5 (.cons hg5 (.cons hg5 (.cons hg6 (.cons (LesA.rfl' _) (.cons (c12 hx7) (.cons hg6 (.cons hg8 (.cons (LesA.rfl' _) (.cons (c12 hx9) (.cons hg8 (.cons hg8 (.cons hg10 (.cons (LesA.rfl' _) (.cons (c26 hx11) (.cons hg10 (.cons hg10 (.cons hg12 (.cons (LesA.rfl' _) (.cons (c21 hx13) (.cons hg12 (.cons hg14 (.cons hg14 (.cons hg14 .nil)))))))))))))))))))))))))))))) (Sub.refl _)
                · replace ht := ite_f ht hg12
                  have e := Option.some.inj ht
                  subst e
                  exact RegTo.mk [(.n, .e), (.n, .e), (.n, .e), (.y, .e), (.y, .e), (.n, (.pk true)), (.n, .e), (.y, .e), (.y, .e), (.n, (.pk true)), (.n, .e), (.y, .e), (.y, .e), (.n, (.pk true)), (.n, .e), (.y, (.call [.str [97, 46, 98]] (.bool x7) true)), (.n, (.pk true)), (.n, .e), (.y, (.call [.str [46, 46]] (.bool x9) true)), (.y, .e), (.n, (.pk true)), (.n, .e), (.y, (.call [.str [47, 97, 47, 98, 47]] (.str x11) true)), (.y, .e), (.n, (.pk true)), (.n, .e), (.s, .e), (.n, (.pk false)), (.n, .e), (.s, .e), (.s, .e), (.n, .e), (.n, .e)] ({ tm := [(0, .pv (.bool false))], hp := [], nx := 0 }) [((decide (x1.1 = [47, 98, 47, 99])) = true), ((decide (x1.1 = [47, 98, 47, 99])) = true), ((decide (x1.1 = [47, 98, 47, 99])) = true), ((decide (x1.2 = 0)) = true), ((decide (x1.2 = 0)) = true), ((decide (x1.2 = 0)) = true), ((decide (x2.1 = [47, 97, 47, 99])) = true), ((decide (x2.1 = [47, 97, 47, 99])) = true), ((decide (x2.1 = [47, 97, 47, 99])) = true), ((decide (x2.2 = 0)) = true), (LesA [.str [97, 46, 98]] [.str [97, 46, 98]]), (CallOK Tryd.prog 12 [.str [97, 46, 98]] (.bool x7) true), ((decide (x2.2 = 0)) = true), (x7 = true), (LesA [.str [46, 46]] [.str [46, 46]]), (CallOK Tryd.prog 12 [.str [46, 46]] (.bool x9) true), (x7 = true), (x7 = true), ((!x9) = true), (LesA [.str [47, 97, 47, 98, 47]] [.str [47, 97, 47, 98, 47]]), (CallOK Tryd.prog 26 [.str [47, 97, 47, 98, 47]] (.str x11) true), ((!x9) = true), ((!x9) = true), ((decide (x11 = [98])) = false), ((decide (x11 = [98])) = false), (false = false), (false = false)] (by kernel_rfl) (.cons hg3 (.cons hg3 (.cons hg3 (.cons hg4 (.cons hg4 (.cons hg4 (.cons hg5 (.cons hg5 (.cons hg5 (.cons hg6 (.cons (LesA.rfl' _) (.cons (c12 hx7) (.cons hg6 (.cons hg8 (.cons (LesA.rfl' _) (.cons (c12 hx9) (.cons hg8 (.cons hg8 (.cons hg10 (.cons (LesA.rfl' _) (.cons (c26 hx11) (.cons hg10 (.cons hg10 (.cons hg12 (.cons hg12 (.cons rfl (.cons rfl .nil))))))))))))))))))))))))))) (Sub.refl _)
              · replace ht := ite_f ht hg10
                have e := Option.some.inj ht
                subst e
                exact RegTo.mk [(.n, .e), (.n, .e), (.n, .e), (.y, .e), (.y, .e), (.n, (.pk true)), (.n, .e), (.y, .e), (.y, .e), (.n, (.pk true)), (.n, .e), (.y, .e), (.y, .e), (.n, (.pk true)), (.n, .e), (.y, (.call [.str [97, 46, 98]] (.bool x7) true)), (.n, (.pk true)), (.n, .e), (.y, (.call [.str [46, 46]] (.bool x9) true)), (.y, .e), (.n, (.pk true)), (.n, .e), (.s, .e), (.s, .e), (.n, (.pk false)), (.n, .e), (.s, .e), (.n, .e), (.n, .e), (.s, .e), (.s, .e), (.n, .e), (.n, .e)] ({ tm := [(0, .pv (.bool false))], hp := [], nx := 0 }) [((decide (x1.1 = [47, 98, 47, 99])) = true), ((decide (x1.1 = [47, 98, 47, 99])) = true), ((decide (x1.1 = [47, 98, 47, 99])) = true), ((decide (x1.2 = 0)) = true), ((decide (x1.2 = 0)) = true), ((decide (x1.2 = 0)) = true), ((decide (x2.1 = [47, 97, 47, 99])) = true), ((decide (x2.1 = [47, 97, 47, 99])) = true), ((decide (x2.1 = [47, 97, 47, 99])) = true), ((decide (x2.2 = 0)) = true), (LesA [.str [97, 46, 98]] [.str [97, 46, 98]]), (CallOK Tryd.prog 12 [.str [97, 46, 98]] (.bool x7) true), ((decide (x2.2 = 0)) = true), (x7 = true), (LesA [.str [46, 46]] [.str [46, 46]]), (CallOK Tryd.prog 12 [.str [46, 46]] (.bool x9) true), (x7 = true), (x7 = true), ((!x9) = false), ((!x9) = false), ((!x9) = false), (false = false), (false = false), (false = false)] (by kernel_rfl) (.cons hg3 (.cons hg3 (.cons hg3 (.cons hg4 (.cons hg4 (.cons hg4 (.cons hg5 (.cons hg5 (.cons hg5 (.cons hg6 (.cons (LesA.rfl' _) (.cons (c12 hx7) (.cons hg6 (.cons hg8 (.cons (LesA.rfl' _) (.cons (c12 hx9) (.cons hg8 (.cons hg8 (.cons hg10 (.cons hg10 (.cons hg10 (.cons rfl (.cons rfl (.cons rfl .nil)))))))))))))))))))))))) (Sub.refl _)
            · replace ht := ite_f ht hg8
              have e := Option.some.inj ht
              subst e
              exact RegTo.mk [(.n, .e), (.n, .e), (.n, .e), (.y, .e), (.y, .e), (.n, (.pk true)), (.n, .e), (.y, .e), (.y, .e), (.n, (.pk true)), (.n, .e), (.y, .e), (.y, .e), (.n, (.pk true)), (.n, .e), (.y, (.call [.str [97, 46, 98]] (.bool x7) true)), (.n, (.pk true)), (.n, .e), (.s, .e), (.s, .e), (.n, (.pk false)), (.n, .e), (.s, .e), (.s, .e), (.n, .e), (.n, .e), (.s, .e), (.n, .e), (.n, .e), (.s, .e), (.s, .e), (.n, .e), (.n, .e)] ({ tm := [(0, .pv (.bool false))], hp := [], nx := 0 }) [((decide (x1.1 = [47, 98, 47, 99])) = true), ((decide (x1.1 = [47, 98, 47, 99])) = true), ((decide (x1.1 = [47, 98, 47, 99])) = true), ((decide (x1.2 = 0)) = true), ((decide (x1.2 = 0)) = true), ((decide (x1.2 = 0)) = true), ((decide (x2.1 = [47, 97, 47, 99])) = true), ((decide (x2.1 = [47, 97, 47, 99])) = true), ((decide (x2.1 = [47, 97, 47, 99])) = true), ((decide (x2.2 = 0)) = true), (LesA [.str [97, 46, 98]] [.str [97, 46, 98]]), (CallOK Tryd.prog 12 [.str [97, 46, 98]] (.bool x7) true), ((decide (x2.2 = 0)) = true), (x7 = false), (x7 = false), (x7 = false), (false = false), (false = false), (false = false), (false = false), (false = false)] (by kernel_rfl) (.cons hg3 (.cons hg3 (.cons hg3 (.cons hg4 (.cons hg4 (.cons hg4 (.cons hg5 (.cons hg5 (.cons hg5 (.cons hg6 (.cons (LesA.rfl' _) (.cons (c12 hx7) (.cons hg6 (.cons hg8 (.cons hg8 (.cons hg8 (.cons rfl (.cons rfl (.cons rfl (.cons rfl (.cons rfl .nil))))))))))))))))))))) (Sub.refl _)
          · replace ht := ite_f ht hg6
            have e := Option.some.inj ht
            subst e
            exact RegTo.mk [(.n, .e), (.n, .e), (.n, .e), (.y, .e), (.y, .e), (.n, (.pk true)), (.n, .e), (.y, .e), (.y, .e), (.n, (.pk true)), (.n, .e), (.y, .e), (.y, .e), (.n, (.pk true)), (.n, .e), (.s, .e), (.n, (.pk false)), (.n, .e), (.s, .e), (.s, .e), (.n, .e), (.n, .e), (.s, .e), (.s, .e), (.n, .e), (.n, .e), (.s, .e), (.n, .e), (.n, .e), (.s, .e), (.s, .e), (.n, .e), (.n, .e)] ({ tm := [(0, .pv (.bool false))], hp := [], nx := 0 }) [((decide (x1.1 = [47, 98, 47, 99])) = true), ((decide (x1.1 = [47, 98, 47, 99])) = true), ((decide (x1.1 = [47, 98, 47, 99])) = true), ((decide (x1.2 = 0)) = true), ((decide (x1.2 = 0)) = true), ((decide (x1.2 = 0)) = true), ((decide (x2.1 = [47, 97, 47, 99])) = true), ((decide (x2.1 = [47, 97, 47, 99])) = true), ((decide (x2.1 = [47, 97, 47, 99])) = true), ((decide (x2.2 = 0)) = false), ((decide (x2.2 = 0)) = false), (false = false), (false = false), (false = false), (false = false), (false = false), (false = false), (false = false)] (by kernel_rfl) (.cons hg3 (.cons hg3 (.cons hg3 (.cons hg4 (.cons hg4 (.cons hg4 (.cons hg5 (.cons hg5 (.cons hg5 (.cons hg6 (.cons hg6 (.cons rfl (.cons rfl (.cons rfl (.cons rfl (.cons rfl (.cons rfl (.cons rfl .nil)))))))))))))))))) (Sub.refl _)
        · replace ht := ite_f ht hg5
          have e := Option.some.inj ht
          subst e
          exact RegTo.mk [(.n, .e), (.n, .e), (.n, .e), (.y, .e), (.y, .e), (.n, (.pk true)), (.n, .e), (.y, .e), (.y, .e), (.n, (.pk true)), (.n, .e), (.s, .e), (.s, .e), (.n, (.pk false)), (.n, .e), (.s, .e), (.n, .e), (.n, .e), (.s, .e), (.s, .e), (.n, .e), (.n, .e), (.s, .e), (.s, .e), (.n, .e), (.n, .e), (.s, .e), (.n, .e), (.n, .e), (.s, .e), (.s, .e), (.n, .e), (.n, .e)] ({ tm := [(0, .pv (.bool false))], hp := [], nx := 0 }) [((decide (x1.1 = [47, 98, 47, 99])) = true), ((decide (x1.1 = [47, 98, 47, 99])) = true), ((decide (x1.1 = [47, 98, 47, 99])) = true), ((decide (x1.2 = 0)) = true), ((decide (x1.2 = 0)) = true), ((decide (x1.2 = 0)) = true), ((decide (x2.1 = [47, 97, 47, 99])) = false), ((decide (x2.1 = [47, 97, 47, 99])) = false), ((decide (x2.1 = [47, 97, 47, 99])) = false), (false = false), (false = false), (false = false), (false = false), (false = false), (false = false), (false = false), (false = false)] (by kernel_rfl) (.cons hg3 (.cons hg3 (.cons hg3 (.cons hg4 (.cons hg4 (.cons hg4 (.cons hg5 (.cons hg5 (.cons hg5 (.cons rfl (.cons rfl (.cons rfl (.cons rfl (.cons rfl (.cons rfl (.cons rfl (.cons rfl .nil))))))))))))))))) (Sub.refl _)
      · replace ht := ite_f ht hg4
        have e := Option.some.inj ht
        subst e
        exact RegTo.mk [(.n, .e), (.n, .e), (.n, .e), (.y, .e), (.y, .e), (.n, (.pk true)), (.n, .e), (.s, .e), (.s, .e), (.n, (.pk false)), (.n, .e), (.s, .e), (.s, .e), (.n, .e), (.n, .e), (.s, .e), (.n, .e), (.n, .e), (.s, .e), (.s, .e), (.n, .e), (.n, .e), (.s, .e), (.s, .e), (.n, .e), (.n, .e), (.s, .e), (.n, .e), (.n, .e), (.s, .e), (.s, .e), (.n, .e), (.n, .e)] ({ tm := [(0, .pv (.bool false))], hp := [], nx := 0 }) [((decide (x1.1 = [47, 98, 47, 99])) = true), ((decide (x1.1 = [47, 98, 47, 99])) = true), ((decide (x1.1 = [47, 98, 47, 99])) = true), ((decide (x1.2 = 0)) = false), ((decide (x1.2 = 0)) = false), ((decide (x1.2 = 0)) = false), (false = false), (false = false), (false = false), (false = false), (false = false), (false = false), (false = false), (false = false), (false = false), (false = false)] (by kernel_rfl) (.cons hg3 (.cons hg3 (.cons hg3 (.cons hg4 (.cons hg4 (.cons hg4 (.cons rfl (.cons rfl (.cons rfl (.cons rfl (.cons rfl (.cons rfl (.cons rfl (.cons rfl (.cons rfl (.cons rfl .nil)))))))))))))))) (Sub.refl _)
    · replace ht := ite_f ht hg3
      have e := Option.some.inj ht
      subst e
      exact RegTo.mk [(.n, .e), (.n, .e), (.n, .e), (.s, .e), (.s, .e), (.n, (.pk false)), (.n, .e), (.s, .e), (.s, .e), (.n, .e), (.n, .e), (.s, .e), (.s, .e), (.n, .e), (.n, .e), (.s, .e), (.n, .e), (.n, .e), (.s, .e), (.s, .e), (.n, .e), (.n, .e), (.s, .e), (.s, .e), (.n, .e), (.n, .e), (.s, .e), (.n, .e), (.n, .e), (.s, .e), (.s, .e), (.n, .e), (.n, .e)] ({ tm := [(0, .pv (.bool false))], hp := [], nx := 0 }) [((decide (x1.1 = [47, 98, 47, 99])) = false), ((decide (x1.1 = [47, 98, 47, 99])) = false), ((decide (x1.1 = [47, 98, 47, 99])) = false), (false = false), (false = false), (false = false), (false = false), (false = false), (false = false), (false = false), (false = false), (false = false), (false = false), (false = false), (false = false)] (by kernel_rfl) (.cons hg3 (.cons hg3 (.cons hg3 (.cons rfl (.cons rfl (.cons rfl (.cons rfl (.cons rfl (.cons rfl (.cons rfl (.cons rfl (.cons rfl (.cons rfl (.cons rfl (.cons rfl .nil))))))))))))))) (Sub.refl _)
  · clear ht
    refine x_toret ?_
    obtain rfl := Option.some.inj h
    exact x_ret (.bool t16) [] [] (by kernel_rfl) .nil (by decide) (.refl _) (fun _ => rfl)

theorem c13 {name : Str} {r : Bool} (h : ref03_Valid name = some r) : CallOK Tryd.prog 13 [.str name] (.bool r) true := by
  apply ok13
  unfold ref03_Valid at h
  refine x_rg (st2 := { tm := [(0, .pv (.str name))], hp := [], nx := 0 }) (RegTo.mk [(.n, .e)] ({ tm := [(0, .pv (.str name))], hp := [], nx := 0 }) [] (by kernel_rfl) .nil (Sub.refl _)) ?_
  refine x_seq ?_
  refine x_rg (st2 := { tm := [(0, .pv (.str name)), (3, .pv (.int .i64 0))], hp := [], nx := 0 }) (RegTo.mk [(.n, .e)] ({ tm := [(0, .pv (.str name)), (3, .pv (.int .i64 0))], hp := [], nx := 0 }) [] (by kernel_rfl) .nil (Sub.refl _)) ?_
  refine x_block ?_
  refine x_kw (st2 := { tm := [(0, .pv (.str name)), (3, .pv (.int .i64 0))], hp := [], nx := 0 }) ({ tm := [(0, .pv (.str name)), (3, .pv (.int .i64 0))], hp := [], nx := 0 }) (by kernel_rfl) (Sub.refl _) ?_
  refine x_loop (σ := Int) h (fun s => { tm := [(0, .pv (.str name)), (3, .pv (.int .i64 s))], hp := [], nx := 0 }) (by kernel_rfl) ?_ ?_
  · rintro i
    kernel_rfl
  · rintro i x10 h hx10
    replace h : ref03_Valid_L10 name i = some x10 := h
    unfold ref03_Valid_L10 at h
    refine x_seq ?_
    refine x_rg (st2 := { tm := [(0, .pv (.str name)), (3, .pv (.int .i64 i)), (7, .pv (.bool (decide (i < (List.length name : Int)))))], hp := [], nx := 0 }) (RegTo.mk [(.n, .e), (.n, .e), (.n, .e), (.n, .e)] ({ tm := [(0, .pv (.str name)), (3, .pv (.int .i64 i)), (7, .pv (.bool (decide (i < (List.length name : Int)))))], hp := [], nx := 0 }) [] (by kernel_rfl) .nil (Sub.refl _)) ?_
    refine x_cond _ rfl (fun hc11 => ?_) (fun hc11 => ?_)
    · replace h := ite_t h hc11
      refine x_kw (st2 := { tm := [(0, .pv (.str name)), (3, .pv (.int .i64 i))], hp := [], nx := 0 }) ({ tm := [(0, .pv (.str name)), (3, .pv (.int .i64 i))], hp := [], nx := 0 }) (by kernel_rfl) (Sub.refl _) ?_
      refine x_skip ?_
      refine x_tn ?_
      refine x_seq ?_
      refine x_block ?_
      obtain ⟨c12, hc12, h⟩ := bind_some h
      obtain ⟨t17, ht, h⟩ := bind_some h
      refine x_rg (st2 := { tm := [(0, .pv (.str name)), (3, .pv (.int .i64 i)), (25, .pv (.bool t17))], hp := [], nx := 0 }) ?_ ?_
      · rcases Bool.eq_false_or_eq_true (decide ((c12.toNat : Int) < 33)) with hg13 | hg13
        · replace ht := ite_t ht hg13
          have e := Option.some.inj ht
          subst e
          exact RegTo.mk [(.n, .e), (.n, .e), (.n, (.sAt c12)), (.n, .e), (.n, .e), (.s, .e), (.s, .e), (.s, .e), (.s, .e), (.n, (.pk true)), (.n, .e), (.s, .e), (.s, .e), (.s, .e), (.s, .e), (.n, .e)] ({ tm := [(0, .pv (.str name)), (3, .pv (.int .i64 i)), (25, .pv (.bool true))], hp := [], nx := 0 }) [(strAt name i = some c12), ((decide ((c12.toNat : Int) < 33)) = true), ((decide ((c12.toNat : Int) < 33)) = true), ((decide ((c12.toNat : Int) < 33)) = true), ((decide ((c12.toNat : Int) < 33)) = true), ((decide ((c12.toNat : Int) < 33)) = true), (true = true), (true = true), (true = true), (true = true)] (by kernel_rfl) (.cons hc12 (.cons hg13 (.cons hg13 (.cons hg13 (.cons hg13 (.cons hg13 (.cons rfl (.cons rfl (.cons rfl (.cons rfl .nil)))))))))) (Sub.refl _)
        · replace ht := ite_f ht hg13
          obtain ⟨c14, hc14, ht⟩ := bind_some ht
          rcases Bool.eq_false_or_eq_true (decide (126 < (c14.toNat : Int))) with hg15 | hg15
          · replace ht := ite_t ht hg15
            have e := Option.some.inj ht
            subst e
            exact RegTo.mk [(.n, .e), (.n, .e), (.n, (.sAt c12)), (.n, .e), (.n, .e), (.y, .e), (.y, .e), (.y, (.sAt c14)), (.y, .e), (.n, (.pk false)), (.n, .e), (.s, .e), (.s, .e), (.s, .e), (.s, .e), (.n, (.pk true))] ({ tm := [(0, .pv (.str name)), (3, .pv (.int .i64 i)), (25, .pv (.bool true))], hp := [], nx := 0 }) [(strAt name i = some c12), ((decide ((c12.toNat : Int) < 33)) = false), ((decide ((c12.toNat : Int) < 33)) = false), ((decide ((c12.toNat : Int) < 33)) = false), (strAt name i = some c14), ((decide ((c12.toNat : Int) < 33)) = false), ((decide ((c12.toNat : Int) < 33)) = false), ((decide (126 < (c14.toNat : Int))) = true), ((decide (126 < (c14.toNat : Int))) = true), ((decide (126 < (c14.toNat : Int))) = true), ((decide (126 < (c14.toNat : Int))) = true), ((decide (126 < (c14.toNat : Int))) = true)] (by kernel_rfl) (.cons hc12 (.cons hg13 (.cons hg13 (.cons hg13 (.cons hc14 (.cons hg13 (.cons hg13 (.cons hg15 (.cons hg15 (.cons hg15 (.cons hg15 (.cons hg15 .nil)))))))))))) (Sub.refl _)
          · replace ht := ite_f ht hg15
            obtain ⟨c16, hc16, ht⟩ := bind_some ht
            have e := Option.some.inj ht
            subst e
            exact RegTo.mk [(.n, .e), (.n, .e), (.n, (.sAt c12)), (.n, .e), (.n, .e), (.y, .e), (.y, .e), (.y, (.sAt c14)), (.y, .e), (.n, (.pk false)), (.n, .e), (.y, .e), (.y, .e), (.y, (.sAt c16)), (.y, .e), (.n, (.pk false))] ({ tm := [(0, .pv (.str name)), (3, .pv (.int .i64 i)), (25, .pv (.bool (decide ((c16.toNat : Int) = 47))))], hp := [], nx := 0 }) [(strAt name i = some c12), ((decide ((c12.toNat : Int) < 33)) = false), ((decide ((c12.toNat : Int) < 33)) = false), ((decide ((c12.toNat : Int) < 33)) = false), (strAt name i = some c14), ((decide ((c12.toNat : Int) < 33)) = false), ((decide ((c12.toNat : Int) < 33)) = false), ((decide (126 < (c14.toNat : Int))) = false), ((decide (126 < (c14.toNat : Int))) = false), ((decide (126 < (c14.toNat : Int))) = false), (strAt name i = some c16), ((decide (126 < (c14.toNat : Int))) = false), ((decide (126 < (c14.toNat : Int))) = false)] (by kernel_rfl) (.cons hc12 (.cons hg13 (.cons hg13 (.cons hg13 (.cons hc14 (.cons hg13 (.cons hg13 (.cons hg15 (.cons hg15 (.cons hg15 (.cons hc16 (.cons hg15 (.cons hg15 .nil))))))))))))) (Sub.refl _)
      · clear ht
        refine x_cond _ rfl (fun hc18 => ?_) (fun hc18 => ?_)
        · replace h := ite_t h hc18
          refine x_rg (st2 := { tm := [(2, .pv (.bool false))], hp := [], nx := 0 }) (RegTo.mk [(.n, .e)] ({ tm := [(2, .pv (.bool false))], hp := [], nx := 0 }) [] (by kernel_rfl) .nil (Sub.refl _)) ?_
          refine x_toret ?_
          refine x_br ?_
          refine x_tr ?_
          refine x_tr ?_
          replace h := done_leaf h hx10
          refine x_br ?_
          refine x_tr ?_
          obtain rfl := Option.some.inj h
          exact x_ret (.bool false) [] [] (by kernel_rfl) .nil (by decide) (.refl _) (fun _ => rfl)
        · replace h := ite_f h hc18
          refine x_kw (st2 := { tm := [(0, .pv (.str name)), (3, .pv (.int .i64 i))], hp := [], nx := 0 }) ({ tm := [(0, .pv (.str name)), (3, .pv (.int .i64 i))], hp := [], nx := 0 }) (by kernel_rfl) (Sub.refl _) ?_
          refine x_skip ?_
          refine x_bn ?_
          refine x_tn ?_
          refine x_rgt (st2 := { tm := [(0, .pv (.str name)), (3, .pv (.int .i64 (IntKind.wrap .i64 (i + 1))))], hp := [], nx := 0 }) (RegTo.mk [(.n, .e), (.n, .e), (.n, .e)] ({ tm := [(0, .pv (.str name)), (3, .pv (.int .i64 (IntKind.wrap .i64 (i + 1))))], hp := [], nx := 0 }) [] (by kernel_rfl) .nil (Sub.refl _)) ?_
          refine x_tn ?_
          exact ⟨_, (Option.some.inj h).symm, by kernel_rfl⟩
    · replace h := ite_f h hc11
      refine x_kw (st2 := { tm := [(0, .pv (.str name))], hp := [], nx := 0 }) ({ tm := [(0, .pv (.str name))], hp := [], nx := 0 }) (by kernel_rfl) (Sub.refl _) ?_
      refine x_exit ?_
      refine x_te ?_
      refine x_te ?_
      replace h := done_leaf h hx10
      refine x_bh ?_
      refine x_tn ?_
      refine x_rg (st2 := { tm := [(2, .pv (.bool ((decide (1 ≤ (List.length name : Int))) && ((decide ((List.length name : Int) ≤ 64)) && ((!decide (name = [46])) && (!decide (name = [46, 46])))))))], hp := [], nx := 0 }) ?_ ?_
      · rcases Bool.eq_false_or_eq_true (decide (1 ≤ (List.length name : Int))) with hg19 | hg19
        · rcases Bool.eq_false_or_eq_true (decide ((List.length name : Int) ≤ 64)) with hg20 | hg20
          · rcases Bool.eq_false_or_eq_true (!decide (name = [46])) with hg21 | hg21
            · exact RegTo.mk [(.n, .e), (.n, .e), (.n, .e), (.n, .e), (.y, .e), (.y, .e), (.y, .e), (.n, (.pk true)), (.n, .e), (.y, .e), (.y, .e), (.n, (.pk true)), (.n, .e), (.y, .e), (.y, .e), (.n, (.pk true)), (.n, .e)] ({ tm := [(2, .pv (.bool (!decide (name = [46, 46]))))], hp := [], nx := 0 }) [((decide (1 ≤ (List.length name : Int))) = true), ((decide (1 ≤ (List.length name : Int))) = true), ((decide (1 ≤ (List.length name : Int))) = true), ((decide (1 ≤ (List.length name : Int))) = true), ((decide ((List.length name : Int) ≤ 64)) = true), ((decide ((List.length name : Int) ≤ 64)) = true), ((decide ((List.length name : Int) ≤ 64)) = true), ((!decide (name = [46])) = true), ((!decide (name = [46])) = true), ((!decide (name = [46])) = true)] (by kernel_rfl) (.cons hg19 (.cons hg19 (.cons hg19 (.cons hg19 (.cons hg20 (.cons hg20 (.cons hg20 (.cons hg21 (.cons hg21 (.cons hg21 .nil)))))))))) (.of_eq (by simp only [hg19, hg20, hg21, Bool.true_or, Bool.false_or, Bool.true_and, Bool.false_and, Bool.or_true, Bool.or_false, Bool.and_true, Bool.and_false, Bool.false_eq_true, if_true, if_false, reduceIte]))
            · exact RegTo.mk [(.n, .e), (.n, .e), (.n, .e), (.n, .e), (.y, .e), (.y, .e), (.y, .e), (.n, (.pk true)), (.n, .e), (.y, .e), (.y, .e), (.n, (.pk true)), (.n, .e), (.s, .e), (.s, .e), (.n, (.pk false)), (.n, .e)] ({ tm := [(2, .pv (.bool false))], hp := [], nx := 0 }) [((decide (1 ≤ (List.length name : Int))) = true), ((decide (1 ≤ (List.length name : Int))) = true), ((decide (1 ≤ (List.length name : Int))) = true), ((decide (1 ≤ (List.length name : Int))) = true), ((decide ((List.length name : Int) ≤ 64)) = true), ((decide ((List.length name : Int) ≤ 64)) = true), ((decide ((List.length name : Int) ≤ 64)) = true), ((!decide (name = [46])) = false), ((!decide (name = [46])) = false), ((!decide (name = [46])) = false)] (by kernel_rfl) (.cons hg19 (.cons hg19 (.cons hg19 (.cons hg19 (.cons hg20 (.cons hg20 (.cons hg20 (.cons hg21 (.cons hg21 (.cons hg21 .nil)))))))))) (.of_eq (by simp only [hg19, hg20, hg21, Bool.true_or, Bool.false_or, Bool.true_and, Bool.false_and, Bool.or_true, Bool.or_false, Bool.and_true, Bool.and_false, Bool.false_eq_true, if_true, if_false, reduceIte]))
          · exact RegTo.mk [(.n, .e), (.n, .e), (.n, .e), (.n, .e), (.y, .e), (.y, .e), (.y, .e), (.n, (.pk true)), (.n, .e), (.s, .e), (.s, .e), (.n, (.pk false)), (.n, .e), (.s, .e), (.s, .e), (.n, .e), (.n, .e)] ({ tm := [(2, .pv (.bool false))], hp := [], nx := 0 }) [((decide (1 ≤ (List.length name : Int))) = true), ((decide (1 ≤ (List.length name : Int))) = true), ((decide (1 ≤ (List.length name : Int))) = true), ((decide (1 ≤ (List.length name : Int))) = true), ((decide ((List.length name : Int) ≤ 64)) = false), ((decide ((List.length name : Int) ≤ 64)) = false), ((decide ((List.length name : Int) ≤ 64)) = false), (false = false), (false = false)] (by kernel_rfl) (.cons hg19 (.cons hg19 (.cons hg19 (.cons hg19 (.cons hg20 (.cons hg20 (.cons hg20 (.cons rfl (.cons rfl .nil))))))))) (.of_eq (by simp only [hg19, hg20, Bool.true_or, Bool.false_or, Bool.true_and, Bool.false_and, Bool.or_true, Bool.or_false, Bool.and_true, Bool.and_false, Bool.false_eq_true, if_true, if_false, reduceIte]))
        · exact RegTo.mk [(.n, .e), (.n, .e), (.n, .e), (.n, .e), (.s, .e), (.s, .e), (.s, .e), (.n, (.pk false)), (.n, .e), (.s, .e), (.s, .e), (.n, .e), (.n, .e), (.s, .e), (.s, .e), (.n, .e), (.n, .e)] ({ tm := [(2, .pv (.bool false))], hp := [], nx := 0 }) [((decide (1 ≤ (List.length name : Int))) = false), ((decide (1 ≤ (List.length name : Int))) = false), ((decide (1 ≤ (List.length name : Int))) = false), ((decide (1 ≤ (List.length name : Int))) = false), (false = false), (false = false), (false = false), (false = false)] (by kernel_rfl) (.cons hg19 (.cons hg19 (.cons hg19 (.cons hg19 (.cons rfl (.cons rfl (.cons rfl (.cons rfl .nil)))))))) (.of_eq (by simp only [hg19, Bool.true_or, Bool.false_or, Bool.true_and, Bool.false_and, Bool.or_true, Bool.or_false, Bool.and_true, Bool.and_false, Bool.false_eq_true, if_true, if_false, reduceIte]))
      · refine x_toret ?_
        obtain rfl := Option.some.inj h
        exact x_ret (.bool ((decide (1 ≤ (List.length name : Int))) && ((decide ((List.length name : Int) ≤ 64)) && ((!decide (name = [46])) && (!decide (name = [46, 46])))))) [] [] (by kernel_rfl) .nil (by decide) (.refl _) (fun _ => rfl)

theorem c3 {name : Str} {r : Bool} (h : law03_PathNames name = some r) : CallOK Tryd.prog 3 [.str name] (.bool r) true := by
  apply ok3
  unfold law03_PathNames at h
  refine x_rg (st2 := { tm := [(0, .pv (.str name))], hp := [], nx := 0 }) (RegTo.mk [(.n, .e)] ({ tm := [(0, .pv (.str name))], hp := [], nx := 0 }) [] (by kernel_rfl) .nil (Sub.refl _)) ?_
  refine x_seq ?_
  refine x_rg (st2 := { tm := [(0, .pv (.str name)), (5, .pv (.bool (decide (5000 < (List.length name : Int)))))], hp := [], nx := 0 }) (RegTo.mk [(.n, .e), (.n, .e), (.n, .e)] ({ tm := [(0, .pv (.str name)), (5, .pv (.bool (decide (5000 < (List.length name : Int)))))], hp := [], nx := 0 }) [] (by kernel_rfl) .nil (Sub.refl _)) ?_
  refine x_cond _ rfl (fun hc1 => ?_) (fun hc1 => ?_)
  · replace h := ite_t h hc1
    obtain ⟨x2, hx2, h⟩ := bind_some h
    refine x_rg (st2 := { tm := [(2, .pv (.bool x2))], hp := [], nx := 0 }) (RegTo.mk [(.n, (.call [] (.bool x2) true)), (.n, .e)] ({ tm := [(2, .pv (.bool x2))], hp := [], nx := 0 }) [(LesA [] []), (CallOK Tryd.prog 11 [] (.bool x2) true)] (by kernel_rfl) (.cons (LesA.rfl' _) (.cons (c11 hx2) .nil)) (Sub.refl _)) ?_
    refine x_toret ?_
    refine x_tr ?_
    obtain rfl := Option.some.inj h
    exact x_ret (.bool x2) [] [] (by kernel_rfl) .nil (by decide) (.refl _) (fun _ => rfl)
  · replace h := ite_f h hc1
    refine x_kw (st2 := { tm := [(0, .pv (.str name))], hp := [], nx := 0 }) ({ tm := [(0, .pv (.str name))], hp := [], nx := 0 }) (by kernel_rfl) (Sub.refl _) ?_
    refine x_skip ?_
    refine x_tn ?_
    obtain ⟨x3, hx3, h⟩ := bind_some h
    obtain ⟨x4, hx4, h⟩ := bind_some h
    obtain ⟨t7, ht, h⟩ := bind_some h
    refine x_rg (st2 := { tm := [(2, .pv (.bool t7))], hp := [], nx := 0 }) ?_ ?_
    · rcases Bool.eq_false_or_eq_true (decide (x3 = x4)) with hg5 | hg5
      · replace ht := ite_t ht hg5
        obtain ⟨x6, hx6, ht⟩ := bind_some ht
        have e := Option.some.inj ht
        subst e
        exact RegTo.mk [(.n, .e), (.n, (.call [.str name] (.bool x3) true)), (.n, .e), (.n, (.call [.str name] (.bool x4) true)), (.n, .e), (.n, .e), (.y, (.call [] (.bool x6) true)), (.n, (.pk true)), (.n, .e)] ({ tm := [(2, .pv (.bool x6))], hp := [], nx := 0 }) [(LesA [.str name] [.str name]), (CallOK Tryd.prog 12 [.str name] (.bool x3) true), (LesA [.str name] [.str name]), (CallOK Tryd.prog 13 [.str name] (.bool x4) true), ((decide (x3 = x4)) = true), (LesA [] []), (CallOK Tryd.prog 11 [] (.bool x6) true), ((decide (x3 = x4)) = true)] (by kernel_rfl) (.cons (LesA.rfl' _) (.cons (c12 hx3) (.cons (LesA.rfl' _) (.cons (c13 hx4) (.cons hg5 (.cons (LesA.rfl' _) (.cons (c11 hx6) (.cons hg5 .nil)))))))) (Sub.refl _)
      · replace ht := ite_f ht hg5
        have e := Option.some.inj ht
        subst e
        exact RegTo.mk [(.n, .e), (.n, (.call [.str name] (.bool x3) true)), (.n, .e), (.n, (.call [.str name] (.bool x4) true)), (.n, .e), (.n, .e), (.s, .e), (.n, (.pk false)), (.n, .e)] ({ tm := [(2, .pv (.bool false))], hp := [], nx := 0 }) [(LesA [.str name] [.str name]), (CallOK Tryd.prog 12 [.str name] (.bool x3) true), (LesA [.str name] [.str name]), (CallOK Tryd.prog 13 [.str name] (.bool x4) true), ((decide (x3 = x4)) = false), ((decide (x3 = x4)) = false)] (by kernel_rfl) (.cons (LesA.rfl' _) (.cons (c12 hx3) (.cons (LesA.rfl' _) (.cons (c13 hx4) (.cons hg5 (.cons hg5 .nil)))))) (Sub.refl _)
    · clear ht
      refine x_toret ?_
      obtain rfl := Option.some.inj h
      exact x_ret (.bool t7) [] [] (by kernel_rfl) .nil (by decide) (.refl _) (fun _ => rfl)

theorem c25 {p : Str} {r : (List Str)} (h : ref03_Parts p = some r) : CallOK Tryd.prog 25 [.str p] (.usl none (List.map PV.str r)) true := by
  apply ok25
  unfold ref03_Parts at h
  refine x_rg (st2 := { tm := [(0, .pv (.str p))], hp := [], nx := 0 }) (RegTo.mk [(.n, .e)] ({ tm := [(0, .pv (.str p))], hp := [], nx := 0 }) [] (by kernel_rfl) .nil (Sub.refl _)) ?_
  refine x_rg (st2 := { tm := [(0, .pv (.str p)), (3, .osl 0 0 (List.map PV.str ([] : List Str)).length)], hp := [(0, some (.p none (List.map PV.str ([] : List Str))))], nx := 1 }) (RegTo.mk [(.n, .e)] ({ tm := [(0, .pv (.str p)), (3, .pv (.nilsl))], hp := [], nx := 0 }) [] (by kernel_rfl) .nil ((Sub.keep (ks := [0, 3]) (st := ownSt 3 none ({ tm := [(0, .pv (.str p)), (3, .pv (.nilsl))], hp := [], nx := 0 })) (st' := { tm := [(0, .pv (.str p)), (3, .osl 0 0 (List.map PV.str ([] : List Str)).length)], hp := [(0, some (.p none (List.map PV.str ([] : List Str))))], nx := 1 }) (by kernel_rfl)).trans (own_sound 3 none ({ tm := [(0, .pv (.str p)), (3, .pv (.nilsl))], hp := [], nx := 0 })))) ?_
  refine x_rg (st2 := { tm := [(0, .pv (.str p)), (3, .osl 0 0 (List.map PV.str ([] : List Str)).length), (4, .pv (.int .i64 0))], hp := [(0, some (.p none (List.map PV.str ([] : List Str))))], nx := 1 }) (RegTo.mk [(.n, .e)] ({ tm := [(0, .pv (.str p)), (3, .osl 0 0 (List.map PV.str ([] : List Str)).length), (4, .pv (.int .i64 0))], hp := [(0, some (.p none (List.map PV.str ([] : List Str))))], nx := 1 }) [] (by kernel_rfl) .nil (Sub.refl _)) ?_
  refine x_seq ?_
  refine x_rg (st2 := { tm := [(0, .pv (.str p)), (3, .osl 0 0 (List.map PV.str ([] : List Str)).length), (4, .pv (.int .i64 0)), (5, .pv (.int .i64 0))], hp := [(0, some (.p none (List.map PV.str ([] : List Str))))], nx := 1 }) (RegTo.mk [(.n, .e)] ({ tm := [(0, .pv (.str p)), (3, .osl 0 0 (List.map PV.str ([] : List Str)).length), (4, .pv (.int .i64 0)), (5, .pv (.int .i64 0))], hp := [(0, some (.p none (List.map PV.str ([] : List Str))))], nx := 1 }) [] (by kernel_rfl) .nil (Sub.refl _)) ?_
  refine x_block ?_
  refine x_kw (st2 := { tm := [(0, .pv (.str p)), (3, .osl 0 0 (List.map PV.str ([] : List Str)).length), (4, .pv (.int .i64 0)), (5, .pv (.int .i64 0))], hp := [(0, some (.p none (List.map PV.str ([] : List Str))))], nx := 1 }) ({ tm := [(0, .pv (.str p)), (3, .osl 0 0 (List.map PV.str ([] : List Str)).length), (4, .pv (.int .i64 0)), (5, .pv (.int .i64 0))], hp := [(0, some (.p none (List.map PV.str ([] : List Str))))], nx := 1 }) (by kernel_rfl) (Sub.refl _) ?_
  refine x_loop (σ := (Int × Int × (List Str))) h (fun s => { tm := [(0, .pv (.str p)), (3, .osl 0 0 (List.map PV.str s.2.2).length), (4, .pv (.int .i64 s.1)), (5, .pv (.int .i64 s.2.1))], hp := [(0, some (.p none (List.map PV.str s.2.2)))], nx := 1 }) (by kernel_rfl) ?_ ?_
  · rintro ⟨from_, i, out⟩
    kernel_rfl
  · rintro ⟨from_, i, out⟩ x11 h hx11
    replace h : ref03_Parts_L11 p from_ i out = some x11 := h
    unfold ref03_Parts_L11 at h
    refine x_seq ?_
    refine x_rg (st2 := { tm := [(0, .pv (.str p)), (3, .osl 0 0 (List.map PV.str out).length), (4, .pv (.int .i64 from_)), (5, .pv (.int .i64 i)), (9, .pv (.bool (decide (i ≤ (List.length p : Int)))))], hp := [(0, some (.p none (List.map PV.str out)))], nx := 1 }) (RegTo.mk [(.n, .e), (.n, .e), (.n, .e), (.n, .e)] ({ tm := [(0, .pv (.str p)), (3, .osl 0 0 (List.map PV.str out).length), (4, .pv (.int .i64 from_)), (5, .pv (.int .i64 i)), (9, .pv (.bool (decide (i ≤ (List.length p : Int)))))], hp := [(0, some (.p none (List.map PV.str out)))], nx := 1 }) [] (by kernel_rfl) .nil (Sub.refl _)) ?_
    refine x_cond _ rfl (fun hc12 => ?_) (fun hc12 => ?_)
    · replace h := ite_t h hc12
      refine x_kw (st2 := { tm := [(0, .pv (.str p)), (3, .osl 0 0 (List.map PV.str out).length), (4, .pv (.int .i64 from_)), (5, .pv (.int .i64 i))], hp := [(0, some (.p none (List.map PV.str out)))], nx := 1 }) ({ tm := [(0, .pv (.str p)), (3, .osl 0 0 (List.map PV.str out).length), (4, .pv (.int .i64 from_)), (5, .pv (.int .i64 i))], hp := [(0, some (.p none (List.map PV.str out)))], nx := 1 }) (by kernel_rfl) (Sub.refl _) ?_
      refine x_skip ?_
      refine x_tn ?_
      refine x_seq ?_
      refine x_block ?_
      obtain ⟨t15, ht, h⟩ := bind_some h
      refine x_rg (st2 := { tm := [(0, .pv (.str p)), (3, .osl 0 0 (List.map PV.str out).length), (4, .pv (.int .i64 from_)), (5, .pv (.int .i64 i)), (21, .pv (.bool t15))], hp := [(0, some (.p none (List.map PV.str out)))], nx := 1 }) ?_ ?_
      · rcases Bool.eq_false_or_eq_true (decide (i = (List.length p : Int))) with hg13 | hg13
        · replace ht := ite_t ht hg13
          have e := Option.some.inj ht
          subst e
          exact RegTo.mk [(.n, .e), (.n, .e), (.n, .e), (.n, .e), (.n, .e), (.s, .e), (.s, .e), (.s, .e), (.s, .e), (.n, (.pk true))] ({ tm := [(0, .pv (.str p)), (3, .osl 0 0 (List.map PV.str out).length), (4, .pv (.int .i64 from_)), (5, .pv (.int .i64 i)), (21, .pv (.bool true))], hp := [(0, some (.p none (List.map PV.str out)))], nx := 1 }) [((decide (i = (List.length p : Int))) = true), ((decide (i = (List.length p : Int))) = true), ((decide (i = (List.length p : Int))) = true), ((decide (i = (List.length p : Int))) = true), ((decide (i = (List.length p : Int))) = true)] (by kernel_rfl) (.cons hg13 (.cons hg13 (.cons hg13 (.cons hg13 (.cons hg13 .nil))))) (Sub.refl _)
        · replace ht := ite_f ht hg13
          obtain ⟨c14, hc14, ht⟩ := bind_some ht
          have e := Option.some.inj ht
          subst e
          exact RegTo.mk [(.n, .e), (.n, .e), (.n, .e), (.n, .e), (.n, .e), (.y, .e), (.y, .e), (.y, (.sAt c14)), (.y, .e), (.n, (.pk false))] ({ tm := [(0, .pv (.str p)), (3, .osl 0 0 (List.map PV.str out).length), (4, .pv (.int .i64 from_)), (5, .pv (.int .i64 i)), (21, .pv (.bool (decide ((c14.toNat : Int) = 47))))], hp := [(0, some (.p none (List.map PV.str out)))], nx := 1 }) [((decide (i = (List.length p : Int))) = false), ((decide (i = (List.length p : Int))) = false), ((decide (i = (List.length p : Int))) = false), (strAt p i = some c14), ((decide (i = (List.length p : Int))) = false), ((decide (i = (List.length p : Int))) = false)] (by kernel_rfl) (.cons hg13 (.cons hg13 (.cons hg13 (.cons hc14 (.cons hg13 (.cons hg13 .nil)))))) (Sub.refl _)
      · clear ht
        refine x_cond _ rfl (fun hc16 => ?_) (fun hc16 => ?_)
        · replace h := ite_t h hc16
          obtain ⟨x17, hx17, h⟩ := bind_some h
          obtain ⟨x18, hx18, h⟩ := bind_some h
          refine x_rg (st2 := { tm := [(0, .pv (.str p)), (3, .osl 0 0 (List.map PV.str x18).length), (5, .pv (.int .i64 i))], hp := [(0, some (.p none (List.map PV.str x18)))], nx := 1 }) (RegTo.mk [(.n, .e), (.n, .e), (.n, .e), (.n, .e), (.n, (.cutS x17)), (.n, .e), (.n, (.app (List.map PV.str x18))), (.n, .e)] ({ tm := [(0, .pv (.str p)), (3, .osl 0 0 (List.map PV.str x18).length), (5, .pv (.int .i64 i))], hp := [(0, some (.p none (List.map PV.str x18)))], nx := 1 }) [(cut p from_ i = some x17), (List.take (List.map PV.str out).length (List.map PV.str out) ++ List.take 1 (List.drop 0 ([.str x17] : List PV)) = (List.map PV.str x18)), (List.length (List.map PV.str x18) * 16 ≤ 140737488355328), (List.length (List.map PV.str x18) ≤ 9223372036854775807), ((List.map PV.str out).length ≤ List.length (List.map PV.str out)), (0 + 1 ≤ List.length ([.str x17] : List PV))] (by kernel_rfl) (.cons hx17 (.cons (app_ob hx18 (.all _) (.rfl _)) (.cons (by rw [List.length_map]; exact (appL_ok hx18).2.1) (.cons (by rw [List.length_map]; exact (appL_ok hx18).2.2) (.cons (Nat.le_refl _) (.cons (by simp) .nil)))))) (Sub.refl _)) ?_
          refine x_rgt (st2 := { tm := [(0, .pv (.str p)), (3, .osl 0 0 (List.map PV.str x18).length), (4, .pv (.int .i64 (IntKind.wrap .i64 (i + 1)))), (5, .pv (.int .i64 i))], hp := [(0, some (.p none (List.map PV.str x18)))], nx := 1 }) (RegTo.mk [(.n, .e), (.n, .e), (.n, .e)] ({ tm := [(0, .pv (.str p)), (3, .osl 0 0 (List.map PV.str x18).length), (4, .pv (.int .i64 (IntKind.wrap .i64 (i + 1)))), (5, .pv (.int .i64 i))], hp := [(0, some (.p none (List.map PV.str x18)))], nx := 1 }) [] (by kernel_rfl) .nil (Sub.refl _)) ?_
          refine x_bn ?_
          refine x_tn ?_
          refine x_rgt (st2 := { tm := [(0, .pv (.str p)), (3, .osl 0 0 (List.map PV.str x18).length), (4, .pv (.int .i64 (IntKind.wrap .i64 (i + 1)))), (5, .pv (.int .i64 (IntKind.wrap .i64 (i + 1))))], hp := [(0, some (.p none (List.map PV.str x18)))], nx := 1 }) (RegTo.mk [(.n, .e), (.n, .e), (.n, .e)] ({ tm := [(0, .pv (.str p)), (3, .osl 0 0 (List.map PV.str x18).length), (4, .pv (.int .i64 (IntKind.wrap .i64 (i + 1)))), (5, .pv (.int .i64 (IntKind.wrap .i64 (i + 1))))], hp := [(0, some (.p none (List.map PV.str x18)))], nx := 1 }) [] (by kernel_rfl) .nil (Sub.refl _)) ?_
          refine x_tn ?_
          exact ⟨_, (Option.some.inj h).symm, by kernel_rfl⟩
        · replace h := ite_f h hc16
          refine x_kw (st2 := { tm := [(0, .pv (.str p)), (3, .osl 0 0 (List.map PV.str out).length), (4, .pv (.int .i64 from_)), (5, .pv (.int .i64 i))], hp := [(0, some (.p none (List.map PV.str out)))], nx := 1 }) ({ tm := [(0, .pv (.str p)), (3, .osl 0 0 (List.map PV.str out).length), (4, .pv (.int .i64 from_)), (5, .pv (.int .i64 i))], hp := [(0, some (.p none (List.map PV.str out)))], nx := 1 }) (by kernel_rfl) (Sub.refl _) ?_
          refine x_skip ?_
          refine x_bn ?_
          refine x_tn ?_
          refine x_rgt (st2 := { tm := [(0, .pv (.str p)), (3, .osl 0 0 (List.map PV.str out).length), (4, .pv (.int .i64 from_)), (5, .pv (.int .i64 (IntKind.wrap .i64 (i + 1))))], hp := [(0, some (.p none (List.map PV.str out)))], nx := 1 }) (RegTo.mk [(.n, .e), (.n, .e), (.n, .e)] ({ tm := [(0, .pv (.str p)), (3, .osl 0 0 (List.map PV.str out).length), (4, .pv (.int .i64 from_)), (5, .pv (.int .i64 (IntKind.wrap .i64 (i + 1))))], hp := [(0, some (.p none (List.map PV.str out)))], nx := 1 }) [] (by kernel_rfl) .nil (Sub.refl _)) ?_
          refine x_tn ?_
          exact ⟨_, (Option.some.inj h).symm, by kernel_rfl⟩
    · replace h := ite_f h hc12
      refine x_kw (st2 := { tm := [(3, .osl 0 0 (List.map PV.str out).length)], hp := [(0, some (.p none (List.map PV.str out)))], nx := 1 }) ({ tm := [(3, .osl 0 0 (List.map PV.str out).length)], hp := [(0, some (.p none (List.map PV.str out)))], nx := 1 }) (by kernel_rfl) (Sub.refl _) ?_
      refine x_exit ?_
      refine x_te ?_
      refine x_te ?_
      replace h := done_leaf h hx11
      refine x_bh ?_
      refine x_tn ?_
      refine x_rg (st2 := { tm := [(2, .osl 0 0 (List.map PV.str out).length)], hp := [(0, some (.p none (List.map PV.str out)))], nx := 1 }) (RegTo.mk [(.n, .e), (.n, .e)] ({ tm := [(2, .osl 0 0 (List.map PV.str out).length)], hp := [(0, some (.p none (List.map PV.str out)))], nx := 1 }) [] (by kernel_rfl) .nil (Sub.refl _)) ?_
      refine x_toret ?_
      obtain rfl := Option.some.inj h
      exact x_ret (.usl none (List.take (List.map PV.str out).length (List.map PV.str out))) [0] [(List.map PV.str out).length ≤ List.length (List.map PV.str out)] (by kernel_rfl) (.cons (Nat.le_refl _) .nil) (by decide) (.of_eq (by rw [List.take_length])) (fun _ => (usl_ns (sh := none) (fun _ => rfl)))

theorem c24 {p : Str} {r : Bool} (h : ref03_Rooted p = some r) : CallOK Tryd.prog 24 [.str p] (.bool r) true := by
  apply ok24
  unfold ref03_Rooted at h
  refine x_rg (st2 := { tm := [(0, .pv (.str p))], hp := [], nx := 0 }) (RegTo.mk [(.n, .e)] ({ tm := [(0, .pv (.str p))], hp := [], nx := 0 }) [] (by kernel_rfl) .nil (Sub.refl _)) ?_
  obtain ⟨t3, ht, h⟩ := bind_some h
  refine x_rg (st2 := { tm := [(2, .pv (.bool t3))], hp := [], nx := 0 }) ?_ ?_
  · rcases Bool.eq_false_or_eq_true (decide (0 < (List.length p : Int))) with hg1 | hg1
    · replace ht := ite_t ht hg1
      obtain ⟨c2, hc2, ht⟩ := bind_some ht
      have e := Option.some.inj ht
      subst e
      exact RegTo.mk [(.n, .e), (.n, .e), (.n, .e), (.n, .e), (.y, .e), (.y, (.sAt c2)), (.y, .e), (.n, (.pk true)), (.n, .e)] ({ tm := [(2, .pv (.bool (decide ((c2.toNat : Int) = 47))))], hp := [], nx := 0 }) [((decide (0 < (List.length p : Int))) = true), ((decide (0 < (List.length p : Int))) = true), (strAt p 0 = some c2), ((decide (0 < (List.length p : Int))) = true), ((decide (0 < (List.length p : Int))) = true)] (by kernel_rfl) (.cons hg1 (.cons hg1 (.cons hc2 (.cons hg1 (.cons hg1 .nil))))) (Sub.refl _)
    · replace ht := ite_f ht hg1
      have e := Option.some.inj ht
      subst e
      exact RegTo.mk [(.n, .e), (.n, .e), (.n, .e), (.n, .e), (.s, .e), (.s, .e), (.s, .e), (.n, (.pk false)), (.n, .e)] ({ tm := [(2, .pv (.bool false))], hp := [], nx := 0 }) [((decide (0 < (List.length p : Int))) = false), ((decide (0 < (List.length p : Int))) = false), ((decide (0 < (List.length p : Int))) = false), ((decide (0 < (List.length p : Int))) = false)] (by kernel_rfl) (.cons hg1 (.cons hg1 (.cons hg1 (.cons hg1 .nil)))) (Sub.refl _)
  · clear ht
    refine x_toret ?_
    obtain rfl := Option.some.inj h
    exact x_ret (.bool t3) [] [] (by kernel_rfl) .nil (by decide) (.refl _) (fun _ => rfl)

theorem c17 {p : Str} {r : ((List Str) × Int)} (h : ref03_Split p = some r) : CallOK Tryd.prog 17 [.str p] (.tup [.usl none (List.map PV.str r.1), .int .i64 r.2]) true := by
  apply ok17
  unfold ref03_Split at h
  refine x_rg (st2 := { tm := [(0, .pv (.str p))], hp := [], nx := 0 }) (RegTo.mk [(.n, .e), (.n, .e)] ({ tm := [(0, .pv (.str p))], hp := [], nx := 0 }) [] (by kernel_rfl) .nil (Sub.refl _)) ?_
  refine x_seq ?_
  refine x_rg (st2 := { tm := [(0, .pv (.str p)), (11, .pv (.bool (decide (1024 < (List.length p : Int)))))], hp := [], nx := 0 }) (RegTo.mk [(.n, .e), (.n, .e), (.n, .e)] ({ tm := [(0, .pv (.str p)), (11, .pv (.bool (decide (1024 < (List.length p : Int)))))], hp := [], nx := 0 }) [] (by kernel_rfl) .nil (Sub.refl _)) ?_
  refine x_cond _ rfl (fun hc1 => ?_) (fun hc1 => ?_)
  · replace h := ite_t h hc1
    refine x_rg (st2 := { tm := [(2, .pv (.nilsl)), (3, .pv (.int .i64 4))], hp := [], nx := 0 }) (RegTo.mk [(.n, .e), (.n, .e)] ({ tm := [(2, .pv (.nilsl)), (3, .pv (.int .i64 4))], hp := [], nx := 0 }) [] (by kernel_rfl) .nil (Sub.refl _)) ?_
    refine x_toret ?_
    refine x_tr ?_
    obtain rfl := Option.some.inj h
    exact x_ret (.tup [.nilsl, .int .i64 4]) [] [] (by kernel_rfl) .nil (by decide) (.tup (.cons (.nilUsl _) (.cons (.refl _) .nil))) (fun _ => tup_ns (.cons (usl_ns (sh := none) (fun _ => rfl)) (.cons rfl .nil)))
  · replace h := ite_f h hc1
    refine x_kw (st2 := { tm := [(0, .pv (.str p))], hp := [], nx := 0 }) ({ tm := [(0, .pv (.str p))], hp := [], nx := 0 }) (by kernel_rfl) (Sub.refl _) ?_
    refine x_skip ?_
    refine x_tn ?_
    obtain ⟨x2, hx2, h⟩ := bind_some h
    refine x_rg (st2 := { tm := [(0, .pv (.str p)), (4, .osl 0 0 (List.map PV.str x2).length)], hp := [(0, some (.p none (List.map PV.str x2)))], nx := 1 }) (RegTo.mk [(.n, .e), (.n, (.call [.str p] (.usl none (List.map PV.str x2)) true)), (.n, .e)] ({ tm := [(0, .pv (.str p)), (4, .osl 0 0 (List.map PV.str x2).length)], hp := [(0, some (.p none (List.map PV.str x2)))], nx := 1 }) [(LesA [.str p] [.str p]), (CallOK Tryd.prog 25 [.str p] (.usl none (List.map PV.str x2)) true)] (by kernel_rfl) (.cons (LesA.rfl' _) (.cons (c25 hx2) .nil)) (Sub.refl _)) ?_
    refine x_seq ?_
    refine x_rg (st2 := { tm := [(0, .pv (.str p)), (4, .osl 0 0 (List.map PV.str x2).length), (5, .pv (.int .i64 0))], hp := [(0, some (.p none (List.map PV.str x2)))], nx := 1 }) (RegTo.mk [(.n, .e)] ({ tm := [(0, .pv (.str p)), (4, .osl 0 0 (List.map PV.str x2).length), (5, .pv (.int .i64 0))], hp := [(0, some (.p none (List.map PV.str x2)))], nx := 1 }) [] (by kernel_rfl) .nil (Sub.refl _)) ?_
    refine x_block ?_
    refine x_kw (st2 := { tm := [(0, .pv (.str p)), (4, .osl 0 0 (List.map PV.str x2).length), (5, .pv (.int .i64 0))], hp := [(0, some (.p none (List.map PV.str x2)))], nx := 1 }) ({ tm := [(0, .pv (.str p)), (4, .osl 0 0 (List.map PV.str x2).length), (5, .pv (.int .i64 0))], hp := [(0, some (.p none (List.map PV.str x2)))], nx := 1 }) (by kernel_rfl) (Sub.refl _) ?_
    refine x_loop (σ := Int) h (fun s => { tm := [(0, .pv (.str p)), (4, .osl 0 0 (List.map PV.str x2).length), (5, .pv (.int .i64 s))], hp := [(0, some (.p none (List.map PV.str x2)))], nx := 1 }) (by kernel_rfl) ?_ ?_
    · rintro i
      kernel_rfl
    · rintro i x15 h hx15
      replace h : ref03_Split_L15 p x2 i = some x15 := h
      unfold ref03_Split_L15 at h
      refine x_seq ?_
      refine x_rg (st2 := { tm := [(0, .pv (.str p)), (4, .osl 0 0 (List.map PV.str x2).length), (5, .pv (.int .i64 i)), (17, .pv (.bool (decide (i < (List.length x2 : Int)))))], hp := [(0, some (.p none (List.map PV.str x2)))], nx := 1 }) (RegTo.mk [(.n, .e), (.n, .e), (.n, (.len (List.length x2 : Int))), (.n, .e)] ({ tm := [(0, .pv (.str p)), (4, .osl 0 0 (List.map PV.str x2).length), (5, .pv (.int .i64 i)), (17, .pv (.bool (decide (i < (List.length x2 : Int)))))], hp := [(0, some (.p none (List.map PV.str x2)))], nx := 1 }) [((((List.map PV.str x2).length : Nat) : Int) = (List.length x2 : Int))] (by kernel_rfl) (.cons (by rw [List.length_map]) .nil) (Sub.refl _)) ?_
      refine x_cond _ rfl (fun hc16 => ?_) (fun hc16 => ?_)
      · replace h := ite_t h hc16
        refine x_kw (st2 := { tm := [(0, .pv (.str p)), (4, .osl 0 0 (List.map PV.str x2).length), (5, .pv (.int .i64 i))], hp := [(0, some (.p none (List.map PV.str x2)))], nx := 1 }) ({ tm := [(0, .pv (.str p)), (4, .osl 0 0 (List.map PV.str x2).length), (5, .pv (.int .i64 i))], hp := [(0, some (.p none (List.map PV.str x2)))], nx := 1 }) (by kernel_rfl) (Sub.refl _) ?_
        refine x_skip ?_
        refine x_tn ?_
        refine x_seq ?_
        refine x_block ?_
        obtain ⟨x17, hx17, h⟩ := bind_some h
        obtain ⟨t25, ht, h⟩ := bind_some h
        refine x_rg (st2 := { tm := [(0, .pv (.str p)), (4, .osl 0 0 (List.map PV.str x2).length), (5, .pv (.int .i64 i)), (46, .pv (.bool t25))], hp := [(0, some (.p none (List.map PV.str x2)))], nx := 1 }) ?_ ?_
        · rcases Bool.eq_false_or_eq_true (!decide (x17 = [])) with hg18 | hg18
          · replace ht := ite_t ht hg18
            obtain ⟨x19, hx19, ht⟩ := bind_some ht
            rcases Bool.eq_false_or_eq_true (!decide (x19 = [46])) with hg20 | hg20
            · replace ht := ite_t ht hg20
              obtain ⟨x21, hx21, ht⟩ := bind_some ht
              rcases Bool.eq_false_or_eq_true (!decide (x21 = [46, 46])) with hg22 | hg22
              · replace ht := ite_t ht hg22
                obtain ⟨x23, hx23, ht⟩ := bind_some ht
                obtain ⟨x24, hx24, ht⟩ := bind_some ht
                have e := Option.some.inj ht
                subst e
                exact RegTo.mk [(.n, .e), (.n, .e), (.n, .rAt), (.n, (.ld (.str x17))), (.n, .e), (.n, .e), (.y, .e), (.y, .e), (.y, .rAt), (.y, (.ld (.str x19))), (.y, .e), (.n, (.pk true)), (.n, .e), (.y, .e), (.y, .e), (.y, .rAt), (.y, (.ld (.str x21))), (.y, .e), (.n, (.pk true)), (.n, .e), (.y, .e), (.y, .e), (.y, .rAt), (.y, (.ld (.str x23))), (.y, (.call [.str x23] (.bool x24) true)), (.y, .e), (.n, (.pk true))] ({ tm := [(0, .pv (.str p)), (4, .osl 0 0 (List.map PV.str x2).length), (5, .pv (.int .i64 i)), (46, .pv (.bool (!x24)))], hp := [(0, some (.p none (List.map PV.str x2)))], nx := 1 }) [(0 ≤ (i : Int) ∧ Int.toNat i < (List.map PV.str x2).length), ((List.map PV.str x2)[(0 + Int.toNat i)]? = some (.str x17)), ((!decide (x17 = [])) = true), ((!decide (x17 = [])) = true), ((!decide (x17 = [])) = true), (0 ≤ (i : Int) ∧ Int.toNat i < (List.map PV.str x2).length), ((!decide (x17 = [])) = true), ((List.map PV.str x2)[(0 + Int.toNat i)]? = some (.str x19)), ((!decide (x17 = [])) = true), ((!decide (x17 = [])) = true), ((!decide (x19 = [46])) = true), ((!decide (x19 = [46])) = true), ((!decide (x19 = [46])) = true), (0 ≤ (i : Int) ∧ Int.toNat i < (List.map PV.str x2).length), ((!decide (x19 = [46])) = true), ((List.map PV.str x2)[(0 + Int.toNat i)]? = some (.str x21)), ((!decide (x19 = [46])) = true), ((!decide (x19 = [46])) = true), ((!decide (x21 = [46, 46])) = true), ((!decide (x21 = [46, 46])) = true), ((!decide (x21 = [46, 46])) = true), (0 ≤ (i : Int) ∧ Int.toNat i < (List.map PV.str x2).length), ((!decide (x21 = [46, 46])) = true), ((List.map PV.str x2)[(0 + Int.toNat i)]? = some (.str x23)), ((!decide (x21 = [46, 46])) = true), (LesA [.str x23] [.str x23]), (CallOK Tryd.prog 13 [.str x23] (.bool x24) true), ((!decide (x21 = [46, 46])) = true), ((!decide (x21 = [46, 46])) = true)] (by kernel_rfl) (.cons (rAt_ob hx17 (by simp)) (.cons (ownAt hx17) (.cons hg18 (.cons hg18 (.cons hg18 (.cons (rAt_ob hx19 (by simp)) (.cons hg18 (.cons (ownAt hx19) (.cons hg18 (.cons hg18 (.cons hg20 (.cons hg20 (.cons hg20 (.cons (rAt_ob hx21 (by simp)) (.cons hg20 (.cons (ownAt hx21) (.cons hg20 (.cons hg20 (.cons hg22 (.cons hg22 (.cons hg22 (.cons (rAt_ob hx23 (by simp)) (.cons hg22 (.cons (ownAt hx23) (.cons hg22 (.cons (LesA.rfl' _) (.cons (c13 hx24) (.cons hg22 (.cons hg22 .nil))))))))))))))))))))))))))))) (Sub.refl _)
              · replace ht := ite_f ht hg22
                have e := Option.some.inj ht
                subst e
                exact RegTo.mk [(.n, .e), (.n, .e), (.n, .rAt), (.n, (.ld (.str x17))), (.n, .e), (.n, .e), (.y, .e), (.y, .e), (.y, .rAt), (.y, (.ld (.str x19))), (.y, .e), (.n, (.pk true)), (.n, .e), (.y, .e), (.y, .e), (.y, .rAt), (.y, (.ld (.str x21))), (.y, .e), (.n, (.pk true)), (.n, .e), (.s, .e), (.s, .e), (.s, .e), (.s, .e), (.s, .e), (.s, .e), (.n, (.pk false))] ({ tm := [(0, .pv (.str p)), (4, .osl 0 0 (List.map PV.str x2).length), (5, .pv (.int .i64 i)), (46, .pv (.bool false))], hp := [(0, some (.p none (List.map PV.str x2)))], nx := 1 }) [(0 ≤ (i : Int) ∧ Int.toNat i < (List.map PV.str x2).length), ((List.map PV.str x2)[(0 + Int.toNat i)]? = some (.str x17)), ((!decide (x17 = [])) = true), ((!decide (x17 = [])) = true), ((!decide (x17 = [])) = true), (0 ≤ (i : Int) ∧ Int.toNat i < (List.map PV.str x2).length), ((!decide (x17 = [])) = true), ((List.map PV.str x2)[(0 + Int.toNat i)]? = some (.str x19)), ((!decide (x17 = [])) = true), ((!decide (x17 = [])) = true), ((!decide (x19 = [46])) = true), ((!decide (x19 = [46])) = true), ((!decide (x19 = [46])) = true), (0 ≤ (i : Int) ∧ Int.toNat i < (List.map PV.str x2).length), ((!decide (x19 = [46])) = true), ((List.map PV.str x2)[(0 + Int.toNat i)]? = some (.str x21)), ((!decide (x19 = [46])) = true), ((!decide (x19 = [46])) = true), ((!decide (x21 = [46, 46])) = false), ((!decide (x21 = [46, 46])) = false), ((!decide (x21 = [46, 46])) = false), ((!decide (x21 = [46, 46])) = false), ((!decide (x21 = [46, 46])) = false), ((!decide (x21 = [46, 46])) = false), ((!decide (x21 = [46, 46])) = false)] (by kernel_rfl) (.cons (rAt_ob hx17 (by simp)) (.cons (ownAt hx17) (.cons hg18 (.cons hg18 (.cons hg18 (.cons (rAt_ob hx19 (by simp)) (.cons hg18 (.cons (ownAt hx19) (.cons hg18 (.cons hg18 (.cons hg20 (.cons hg20 (.cons hg20 (.cons (rAt_ob hx21 (by simp)) (.cons hg20 (.cons (ownAt hx21) (.cons hg20 (.cons hg20 (.cons hg22 (.cons hg22 (.cons hg22 (.cons hg22 (.cons hg22 (.cons hg22 (.cons hg22 .nil))))))))))))))))))))))))) (Sub.refl _)
            · replace ht := ite_f ht hg20
              have e := Option.some.inj ht
              subst e
              exact RegTo.mk [(.n, .e), (.n, .e), (.n, .rAt), (.n, (.ld (.str x17))), (.n, .e), (.n, .e), (.y, .e), (.y, .e), (.y, .rAt), (.y, (.ld (.str x19))), (.y, .e), (.n, (.pk true)), (.n, .e), (.s, .e), (.s, .e), (.s, .e), (.s, .e), (.s, .e), (.n, (.pk false)), (.n, .e), (.s, .e), (.s, .e), (.s, .e), (.s, .e), (.s, .e), (.s, .e), (.n, .e)] ({ tm := [(0, .pv (.str p)), (4, .osl 0 0 (List.map PV.str x2).length), (5, .pv (.int .i64 i)), (46, .pv (.bool false))], hp := [(0, some (.p none (List.map PV.str x2)))], nx := 1 }) [(0 ≤ (i : Int) ∧ Int.toNat i < (List.map PV.str x2).length), ((List.map PV.str x2)[(0 + Int.toNat i)]? = some (.str x17)), ((!decide (x17 = [])) = true), ((!decide (x17 = [])) = true), ((!decide (x17 = [])) = true), (0 ≤ (i : Int) ∧ Int.toNat i < (List.map PV.str x2).length), ((!decide (x17 = [])) = true), ((List.map PV.str x2)[(0 + Int.toNat i)]? = some (.str x19)), ((!decide (x17 = [])) = true), ((!decide (x17 = [])) = true), ((!decide (x19 = [46])) = false), ((!decide (x19 = [46])) = false), ((!decide (x19 = [46])) = false), ((!decide (x19 = [46])) = false), ((!decide (x19 = [46])) = false), ((!decide (x19 = [46])) = false), (false = false), (false = false), (false = false), (false = false), (false = false), (false = false)] (by kernel_rfl) (.cons (rAt_ob hx17 (by simp)) (.cons (ownAt hx17) (.cons hg18 (.cons hg18 (.cons hg18 (.cons (rAt_ob hx19 (by simp)) (.cons hg18 (.cons (ownAt hx19) (.cons hg18 (.cons hg18 (.cons hg20 (.cons hg20 (.cons hg20 (.cons hg20 (.cons hg20 (.cons hg20 (.cons rfl (.cons rfl (.cons rfl (.cons rfl (.cons rfl (.cons rfl .nil)))))))))))))))))))))) (Sub.refl _)
          · replace ht := ite_f ht hg18
            have e := Option.some.inj ht
            subst e
            exact RegTo.mk [(.n, .e), (.n, .e), (.n, .rAt), (.n, (.ld (.str x17))), (.n, .e), (.n, .e), (.s, .e), (.s, .e), (.s, .e), (.s, .e), (.s, .e), (.n, (.pk false)), (.n, .e), (.s, .e), (.s, .e), (.s, .e), (.s, .e), (.s, .e), (.n, .e), (.n, .e), (.s, .e), (.s, .e), (.s, .e), (.s, .e), (.s, .e), (.s, .e), (.n, .e)] ({ tm := [(0, .pv (.str p)), (4, .osl 0 0 (List.map PV.str x2).length), (5, .pv (.int .i64 i)), (46, .pv (.bool false))], hp := [(0, some (.p none (List.map PV.str x2)))], nx := 1 }) [(0 ≤ (i : Int) ∧ Int.toNat i < (List.map PV.str x2).length), ((List.map PV.str x2)[(0 + Int.toNat i)]? = some (.str x17)), ((!decide (x17 = [])) = false), ((!decide (x17 = [])) = false), ((!decide (x17 = [])) = false), ((!decide (x17 = [])) = false), ((!decide (x17 = [])) = false), ((!decide (x17 = [])) = false), (false = false), (false = false), (false = false), (false = false), (false = false), (false = false), (false = false), (false = false), (false = false), (false = false), (false = false)] (by kernel_rfl) (.cons (rAt_ob hx17 (by simp)) (.cons (ownAt hx17) (.cons hg18 (.cons hg18 (.cons hg18 (.cons hg18 (.cons hg18 (.cons hg18 (.cons rfl (.cons rfl (.cons rfl (.cons rfl (.cons rfl (.cons rfl (.cons rfl (.cons rfl (.cons rfl (.cons rfl (.cons rfl .nil))))))))))))))))))) (Sub.refl _)
        · clear ht
          refine x_cond _ rfl (fun hc26 => ?_) (fun hc26 => ?_)
          · replace h := ite_t h hc26
            refine x_rg (st2 := { tm := [(2, .pv (.nilsl)), (3, .pv (.int .i64 6))], hp := [], nx := 0 }) (RegTo.mk [(.n, .e), (.n, .e)] ({ tm := [(2, .pv (.nilsl)), (3, .pv (.int .i64 6))], hp := [], nx := 0 }) [] (by kernel_rfl) .nil (Sub.refl _)) ?_
            refine x_toret ?_
            refine x_br ?_
            refine x_tr ?_
            refine x_tr ?_
            replace h := done_leaf h hx15
            refine x_br ?_
            refine x_tr ?_
            obtain rfl := Option.some.inj h
            exact x_ret (.tup [.nilsl, .int .i64 6]) [] [] (by kernel_rfl) .nil (by decide) (.tup (.cons (.nilUsl _) (.cons (.refl _) .nil))) (fun _ => tup_ns (.cons (usl_ns (sh := none) (fun _ => rfl)) (.cons rfl .nil)))
          · replace h := ite_f h hc26
            refine x_kw (st2 := { tm := [(0, .pv (.str p)), (4, .osl 0 0 (List.map PV.str x2).length), (5, .pv (.int .i64 i))], hp := [(0, some (.p none (List.map PV.str x2)))], nx := 1 }) ({ tm := [(0, .pv (.str p)), (4, .osl 0 0 (List.map PV.str x2).length), (5, .pv (.int .i64 i))], hp := [(0, some (.p none (List.map PV.str x2)))], nx := 1 }) (by kernel_rfl) (Sub.refl _) ?_
            refine x_skip ?_
            refine x_bn ?_
            refine x_tn ?_
            refine x_rgt (st2 := { tm := [(0, .pv (.str p)), (4, .osl 0 0 (List.map PV.str x2).length), (5, .pv (.int .i64 (IntKind.wrap .i64 (i + 1))))], hp := [(0, some (.p none (List.map PV.str x2)))], nx := 1 }) (RegTo.mk [(.n, .e), (.n, .e), (.n, .e)] ({ tm := [(0, .pv (.str p)), (4, .osl 0 0 (List.map PV.str x2).length), (5, .pv (.int .i64 (IntKind.wrap .i64 (i + 1))))], hp := [(0, some (.p none (List.map PV.str x2)))], nx := 1 }) [] (by kernel_rfl) .nil (Sub.refl _)) ?_
            refine x_tn ?_
            exact ⟨_, (Option.some.inj h).symm, by kernel_rfl⟩
      · replace h := ite_f h hc16
        refine x_kw (st2 := { tm := [(0, .pv (.str p)), (4, .osl 0 0 (List.map PV.str x2).length)], hp := [(0, some (.p none (List.map PV.str x2)))], nx := 1 }) ({ tm := [(0, .pv (.str p)), (4, .osl 0 0 (List.map PV.str x2).length)], hp := [(0, some (.p none (List.map PV.str x2)))], nx := 1 }) (by kernel_rfl) (Sub.refl _) ?_
        refine x_exit ?_
        refine x_te ?_
        refine x_te ?_
        replace h := done_map h hx15
        refine x_bh ?_
        refine x_tn ?_
        refine x_rg (st2 := { tm := [(0, .pv (.str p)), (4, .osl 0 0 (List.map PV.str x2).length), (6, .osl 1 0 (List.map PV.str ([] : List Str)).length)], hp := [(0, some (.p none (List.map PV.str x2))), (1, some (.p none (List.map PV.str ([] : List Str))))], nx := 2 }) (RegTo.mk [(.n, .e)] ({ tm := [(0, .pv (.str p)), (4, .osl 0 0 (List.map PV.str x2).length), (6, .pv (.nilsl))], hp := [(0, some (.p none (List.map PV.str x2)))], nx := 1 }) [] (by kernel_rfl) .nil ((Sub.keep (ks := [0, 4, 6]) (st := ownSt 6 none ({ tm := [(0, .pv (.str p)), (4, .osl 0 0 (List.map PV.str x2).length), (6, .pv (.nilsl))], hp := [(0, some (.p none (List.map PV.str x2)))], nx := 1 })) (st' := { tm := [(0, .pv (.str p)), (4, .osl 0 0 (List.map PV.str x2).length), (6, .osl 1 0 (List.map PV.str ([] : List Str)).length)], hp := [(0, some (.p none (List.map PV.str x2))), (1, some (.p none (List.map PV.str ([] : List Str))))], nx := 2 }) (by kernel_rfl)).trans (own_sound 6 none ({ tm := [(0, .pv (.str p)), (4, .osl 0 0 (List.map PV.str x2).length), (6, .pv (.nilsl))], hp := [(0, some (.p none (List.map PV.str x2)))], nx := 1 })))) ?_
        refine x_seq ?_
        refine x_rg (st2 := { tm := [(0, .pv (.str p)), (4, .osl 0 0 (List.map PV.str x2).length), (6, .osl 1 0 (List.map PV.str ([] : List Str)).length), (7, .pv (.int .i64 0))], hp := [(0, some (.p none (List.map PV.str x2))), (1, some (.p none (List.map PV.str ([] : List Str))))], nx := 2 }) (RegTo.mk [(.n, .e)] ({ tm := [(0, .pv (.str p)), (4, .osl 0 0 (List.map PV.str x2).length), (6, .osl 1 0 (List.map PV.str ([] : List Str)).length), (7, .pv (.int .i64 0))], hp := [(0, some (.p none (List.map PV.str x2))), (1, some (.p none (List.map PV.str ([] : List Str))))], nx := 2 }) [] (by kernel_rfl) .nil (Sub.refl _)) ?_
        refine x_block ?_
        refine x_kw (st2 := { tm := [(0, .pv (.str p)), (4, .osl 0 0 (List.map PV.str x2).length), (6, .osl 1 0 (List.map PV.str ([] : List Str)).length), (7, .pv (.int .i64 0))], hp := [(0, some (.p none (List.map PV.str x2))), (1, some (.p none (List.map PV.str ([] : List Str))))], nx := 2 }) ({ tm := [(0, .pv (.str p)), (4, .osl 0 0 (List.map PV.str x2).length), (6, .osl 1 0 (List.map PV.str ([] : List Str)).length), (7, .pv (.int .i64 0))], hp := [(0, some (.p none (List.map PV.str x2))), (1, some (.p none (List.map PV.str ([] : List Str))))], nx := 2 }) (by kernel_rfl) (Sub.refl _) ?_
        refine x_loop (σ := (Int × (List Str))) h (fun s => { tm := [(0, .pv (.str p)), (4, .osl 0 0 (List.map PV.str x2).length), (6, .osl 1 0 (List.map PV.str s.2).length), (7, .pv (.int .i64 s.1))], hp := [(0, some (.p none (List.map PV.str x2))), (1, some (.p none (List.map PV.str s.2)))], nx := 2 }) (by kernel_rfl) ?_ ?_
        · rintro ⟨i_1, out⟩
          kernel_rfl
        · rintro ⟨i_1, out⟩ x49 h hx49
          replace h : ref03_Split_L49 p x2 i_1 out = some x49 := h
          unfold ref03_Split_L49 at h
          refine x_seq ?_
          refine x_rg (st2 := { tm := [(0, .pv (.str p)), (4, .osl 0 0 (List.map PV.str x2).length), (6, .osl 1 0 (List.map PV.str out).length), (7, .pv (.int .i64 i_1)), (50, .pv (.bool (decide (i_1 < (List.length x2 : Int)))))], hp := [(0, some (.p none (List.map PV.str x2))), (1, some (.p none (List.map PV.str out)))], nx := 2 }) (RegTo.mk [(.n, .e), (.n, .e), (.n, (.len (List.length x2 : Int))), (.n, .e)] ({ tm := [(0, .pv (.str p)), (4, .osl 0 0 (List.map PV.str x2).length), (6, .osl 1 0 (List.map PV.str out).length), (7, .pv (.int .i64 i_1)), (50, .pv (.bool (decide (i_1 < (List.length x2 : Int)))))], hp := [(0, some (.p none (List.map PV.str x2))), (1, some (.p none (List.map PV.str out)))], nx := 2 }) [((((List.map PV.str x2).length : Nat) : Int) = (List.length x2 : Int))] (by kernel_rfl) (.cons (by rw [List.length_map]) .nil) (Sub.refl _)) ?_
          refine x_cond _ rfl (fun hc50 => ?_) (fun hc50 => ?_)
          · replace h := ite_t h hc50
            refine x_kw (st2 := { tm := [(0, .pv (.str p)), (4, .osl 0 0 (List.map PV.str x2).length), (6, .osl 1 0 (List.map PV.str out).length), (7, .pv (.int .i64 i_1))], hp := [(0, some (.p none (List.map PV.str x2))), (1, some (.p none (List.map PV.str out)))], nx := 2 }) ({ tm := [(0, .pv (.str p)), (4, .osl 0 0 (List.map PV.str x2).length), (6, .osl 1 0 (List.map PV.str out).length), (7, .pv (.int .i64 i_1))], hp := [(0, some (.p none (List.map PV.str x2))), (1, some (.p none (List.map PV.str out)))], nx := 2 }) (by kernel_rfl) (Sub.refl _) ?_
            refine x_skip ?_
            refine x_tn ?_
            refine x_seq ?_
            refine x_block ?_
            refine x_rg (st2 := { tm := [(0, .pv (.str p)), (4, .osl 0 0 (List.map PV.str x2).length), (6, .osl 1 0 (List.map PV.str out).length), (7, .pv (.int .i64 i_1)), (8, .pv (.int .i64 (List.length out : Int)))], hp := [(0, some (.p none (List.map PV.str x2))), (1, some (.p none (List.map PV.str out)))], nx := 2 }) (RegTo.mk [(.n, .e), (.n, (.len (List.length out : Int))), (.n, .e)] ({ tm := [(0, .pv (.str p)), (4, .osl 0 0 (List.map PV.str x2).length), (6, .osl 1 0 (List.map PV.str out).length), (7, .pv (.int .i64 i_1)), (8, .pv (.int .i64 (List.length out : Int)))], hp := [(0, some (.p none (List.map PV.str x2))), (1, some (.p none (List.map PV.str out)))], nx := 2 }) [((((List.map PV.str out).length : Nat) : Int) = (List.length out : Int))] (by kernel_rfl) (.cons (by rw [List.length_map]) .nil) (Sub.refl _)) ?_
            refine x_block ?_
            obtain ⟨x51, hx51, h⟩ := bind_some h
            obtain ⟨t54, ht, h⟩ := bind_some h
            refine x_rg (st2 := { tm := [(0, .pv (.str p)), (4, .osl 0 0 (List.map PV.str x2).length), (6, .osl 1 0 (List.map PV.str out).length), (7, .pv (.int .i64 i_1)), (8, .pv (.int .i64 (List.length out : Int))), (62, .pv (.bool t54))], hp := [(0, some (.p none (List.map PV.str x2))), (1, some (.p none (List.map PV.str out)))], nx := 2 }) ?_ ?_
            · rcases Bool.eq_false_or_eq_true (decide (x51 = [])) with hg52 | hg52
              · replace ht := ite_t ht hg52
                have e := Option.some.inj ht
                subst e
                exact RegTo.mk [(.n, .e), (.n, .e), (.n, .rAt), (.n, (.ld (.str x51))), (.n, .e), (.n, .e), (.s, .e), (.s, .e), (.s, .e), (.s, .e), (.s, .e), (.n, (.pk true)), (.n, .e)] ({ tm := [(0, .pv (.str p)), (4, .osl 0 0 (List.map PV.str x2).length), (6, .osl 1 0 (List.map PV.str out).length), (7, .pv (.int .i64 i_1)), (8, .pv (.int .i64 (List.length out : Int))), (62, .pv (.bool true))], hp := [(0, some (.p none (List.map PV.str x2))), (1, some (.p none (List.map PV.str out)))], nx := 2 }) [(0 ≤ (i_1 : Int) ∧ Int.toNat i_1 < (List.map PV.str x2).length), ((List.map PV.str x2)[(0 + Int.toNat i_1)]? = some (.str x51)), ((decide (x51 = [])) = true), ((decide (x51 = [])) = true), ((decide (x51 = [])) = true), ((decide (x51 = [])) = true), ((decide (x51 = [])) = true), ((decide (x51 = [])) = true)] (by kernel_rfl) (.cons (rAt_ob hx51 (by simp)) (.cons (ownAt hx51) (.cons hg52 (.cons hg52 (.cons hg52 (.cons hg52 (.cons hg52 (.cons hg52 .nil)))))))) (Sub.refl _)
              · replace ht := ite_f ht hg52
                obtain ⟨x53, hx53, ht⟩ := bind_some ht
                have e := Option.some.inj ht
                subst e
                exact RegTo.mk [(.n, .e), (.n, .e), (.n, .rAt), (.n, (.ld (.str x51))), (.n, .e), (.n, .e), (.y, .e), (.y, .e), (.y, .rAt), (.y, (.ld (.str x53))), (.y, .e), (.n, (.pk false)), (.n, .e)] ({ tm := [(0, .pv (.str p)), (4, .osl 0 0 (List.map PV.str x2).length), (6, .osl 1 0 (List.map PV.str out).length), (7, .pv (.int .i64 i_1)), (8, .pv (.int .i64 (List.length out : Int))), (62, .pv (.bool (decide (x53 = [46]))))], hp := [(0, some (.p none (List.map PV.str x2))), (1, some (.p none (List.map PV.str out)))], nx := 2 }) [(0 ≤ (i_1 : Int) ∧ Int.toNat i_1 < (List.map PV.str x2).length), ((List.map PV.str x2)[(0 + Int.toNat i_1)]? = some (.str x51)), ((decide (x51 = [])) = false), ((decide (x51 = [])) = false), ((decide (x51 = [])) = false), (0 ≤ (i_1 : Int) ∧ Int.toNat i_1 < (List.map PV.str x2).length), ((decide (x51 = [])) = false), ((List.map PV.str x2)[(0 + Int.toNat i_1)]? = some (.str x53)), ((decide (x51 = [])) = false), ((decide (x51 = [])) = false)] (by kernel_rfl) (.cons (rAt_ob hx51 (by simp)) (.cons (ownAt hx51) (.cons hg52 (.cons hg52 (.cons hg52 (.cons (rAt_ob hx53 (by simp)) (.cons hg52 (.cons (ownAt hx53) (.cons hg52 (.cons hg52 .nil)))))))))) (Sub.refl _)
            · clear ht
              refine x_cond _ rfl (fun hc55 => ?_) (fun hc55 => ?_)
              · replace h := ite_t h hc55
                refine x_kw (st2 := { tm := [(0, .pv (.str p)), (4, .osl 0 0 (List.map PV.str x2).length), (6, .osl 1 0 (List.map PV.str out).length), (7, .pv (.int .i64 i_1))], hp := [(0, some (.p none (List.map PV.str x2))), (1, some (.p none (List.map PV.str out)))], nx := 2 }) ({ tm := [(0, .pv (.str p)), (4, .osl 0 0 (List.map PV.str x2).length), (6, .osl 1 0 (List.map PV.str out).length), (7, .pv (.int .i64 i_1))], hp := [(0, some (.p none (List.map PV.str x2))), (1, some (.p none (List.map PV.str out)))], nx := 2 }) (by kernel_rfl) (Sub.refl _) ?_
                refine x_skip ?_
                refine x_bn ?_
                refine x_bn ?_
                refine x_tn ?_
                refine x_rgt (st2 := { tm := [(0, .pv (.str p)), (4, .osl 0 0 (List.map PV.str x2).length), (6, .osl 1 0 (List.map PV.str out).length), (7, .pv (.int .i64 (IntKind.wrap .i64 (i_1 + 1))))], hp := [(0, some (.p none (List.map PV.str x2))), (1, some (.p none (List.map PV.str out)))], nx := 2 }) (RegTo.mk [(.n, .e), (.n, .e), (.n, .e)] ({ tm := [(0, .pv (.str p)), (4, .osl 0 0 (List.map PV.str x2).length), (6, .osl 1 0 (List.map PV.str out).length), (7, .pv (.int .i64 (IntKind.wrap .i64 (i_1 + 1))))], hp := [(0, some (.p none (List.map PV.str x2))), (1, some (.p none (List.map PV.str out)))], nx := 2 }) [] (by kernel_rfl) .nil (Sub.refl _)) ?_
                refine x_tn ?_
                exact ⟨_, (Option.some.inj h).symm, by kernel_rfl⟩
              · replace h := ite_f h hc55
                obtain ⟨x56, hx56, h⟩ := bind_some h
                obtain ⟨t60, ht, h⟩ := bind_some h
                refine x_rg (st2 := { tm := [(0, .pv (.str p)), (4, .osl 0 0 (List.map PV.str x2).length), (6, .osl 1 0 (List.map PV.str out).length), (7, .pv (.int .i64 i_1)), (8, .pv (.int .i64 (List.length out : Int))), (75, .pv (.bool t60))], hp := [(0, some (.p none (List.map PV.str x2))), (1, some (.p none (List.map PV.str out)))], nx := 2 }) ?_ ?_
                · rcases Bool.eq_false_or_eq_true (decide (x56 = [46, 46])) with hg57 | hg57
                  · replace ht := ite_t ht hg57
                    rcases Bool.eq_false_or_eq_true (decide (0 < (List.length out : Int))) with hg58 | hg58
                    · replace ht := ite_t ht hg58
                      obtain ⟨x59, hx59, ht⟩ := bind_some ht
                      have e := Option.some.inj ht
                      subst e
                      exact RegTo.mk [(.n, .e), (.n, .e), (.n, .rAt), (.n, (.ld (.str x56))), (.n, .e), (.n, .e), (.y, .e), (.y, .e), (.n, (.pk true)), (.n, .e), (.y, .e), (.y, .e), (.y, .e), (.y, .rAt), (.y, (.ld (.str x59))), (.y, .e), (.n, (.pk true)), (.n, .e)] ({ tm := [(0, .pv (.str p)), (4, .osl 0 0 (List.map PV.str x2).length), (6, .osl 1 0 (List.map PV.str out).length), (7, .pv (.int .i64 i_1)), (8, .pv (.int .i64 (List.length out : Int))), (75, .pv (.bool (!decide (x59 = [46, 46]))))], hp := [(0, some (.p none (List.map PV.str x2))), (1, some (.p none (List.map PV.str out)))], nx := 2 }) [(0 ≤ (i_1 : Int) ∧ Int.toNat i_1 < (List.map PV.str x2).length), ((List.map PV.str x2)[(0 + Int.toNat i_1)]? = some (.str x56)), ((decide (x56 = [46, 46])) = true), ((decide (x56 = [46, 46])) = true), ((decide (x56 = [46, 46])) = true), ((decide (0 < (List.length out : Int))) = true), ((decide (0 < (List.length out : Int))) = true), ((decide (0 < (List.length out : Int))) = true), ((decide (0 < (List.length out : Int))) = true), (0 ≤ ((IntKind.wrap .i64 ((List.length out : Int) - 1)) : Int) ∧ Int.toNat (IntKind.wrap .i64 ((List.length out : Int) - 1)) < (List.map PV.str out).length), ((decide (0 < (List.length out : Int))) = true), ((List.map PV.str out)[(0 + Int.toNat (IntKind.wrap .i64 ((List.length out : Int) - 1)))]? = some (.str x59)), ((decide (0 < (List.length out : Int))) = true), ((decide (0 < (List.length out : Int))) = true)] (by kernel_rfl) (.cons (rAt_ob hx56 (by simp)) (.cons (ownAt hx56) (.cons hg57 (.cons hg57 (.cons hg57 (.cons hg58 (.cons hg58 (.cons hg58 (.cons hg58 (.cons (rAt_ob hx59 (by simp)) (.cons hg58 (.cons (ownAt hx59) (.cons hg58 (.cons hg58 .nil)))))))))))))) (Sub.refl _)
                    · replace ht := ite_f ht hg58
                      have e := Option.some.inj ht
                      subst e
                      exact RegTo.mk [(.n, .e), (.n, .e), (.n, .rAt), (.n, (.ld (.str x56))), (.n, .e), (.n, .e), (.y, .e), (.y, .e), (.n, (.pk true)), (.n, .e), (.s, .e), (.s, .e), (.s, .e), (.s, .e), (.s, .e), (.s, .e), (.n, (.pk false)), (.n, .e)] ({ tm := [(0, .pv (.str p)), (4, .osl 0 0 (List.map PV.str x2).length), (6, .osl 1 0 (List.map PV.str out).length), (7, .pv (.int .i64 i_1)), (8, .pv (.int .i64 (List.length out : Int))), (75, .pv (.bool false))], hp := [(0, some (.p none (List.map PV.str x2))), (1, some (.p none (List.map PV.str out)))], nx := 2 }) [(0 ≤ (i_1 : Int) ∧ Int.toNat i_1 < (List.map PV.str x2).length), ((List.map PV.str x2)[(0 + Int.toNat i_1)]? = some (.str x56)), ((decide (x56 = [46, 46])) = true), ((decide (x56 = [46, 46])) = true), ((decide (x56 = [46, 46])) = true), ((decide (0 < (List.length out : Int))) = false), ((decide (0 < (List.length out : Int))) = false), ((decide (0 < (List.length out : Int))) = false), ((decide (0 < (List.length out : Int))) = false), ((decide (0 < (List.length out : Int))) = false), ((decide (0 < (List.length out : Int))) = false), ((decide (0 < (List.length out : Int))) = false)] (by kernel_rfl) (.cons (rAt_ob hx56 (by simp)) (.cons (ownAt hx56) (.cons hg57 (.cons hg57 (.cons hg57 (.cons hg58 (.cons hg58 (.cons hg58 (.cons hg58 (.cons hg58 (.cons hg58 (.cons hg58 .nil)))))))))))) (Sub.refl _)
                  · replace ht := ite_f ht hg57
                    have e := Option.some.inj ht
                    subst e
                    exact RegTo.mk [(.n, .e), (.n, .e), (.n, .rAt), (.n, (.ld (.str x56))), (.n, .e), (.n, .e), (.s, .e), (.s, .e), (.n, (.pk false)), (.n, .e), (.s, .e), (.s, .e), (.s, .e), (.s, .e), (.s, .e), (.s, .e), (.n, .e), (.n, .e)] ({ tm := [(0, .pv (.str p)), (4, .osl 0 0 (List.map PV.str x2).length), (6, .osl 1 0 (List.map PV.str out).length), (7, .pv (.int .i64 i_1)), (8, .pv (.int .i64 (List.length out : Int))), (75, .pv (.bool false))], hp := [(0, some (.p none (List.map PV.str x2))), (1, some (.p none (List.map PV.str out)))], nx := 2 }) [(0 ≤ (i_1 : Int) ∧ Int.toNat i_1 < (List.map PV.str x2).length), ((List.map PV.str x2)[(0 + Int.toNat i_1)]? = some (.str x56)), ((decide (x56 = [46, 46])) = false), ((decide (x56 = [46, 46])) = false), ((decide (x56 = [46, 46])) = false), (false = false), (false = false), (false = false), (false = false), (false = false), (false = false)] (by kernel_rfl) (.cons (rAt_ob hx56 (by simp)) (.cons (ownAt hx56) (.cons hg57 (.cons hg57 (.cons hg57 (.cons rfl (.cons rfl (.cons rfl (.cons rfl (.cons rfl (.cons rfl .nil))))))))))) (Sub.refl _)
                · clear ht
                  refine x_cond _ rfl (fun hc61 => ?_) (fun hc61 => ?_)
                  · replace h := ite_t h hc61
                    obtain ⟨x62, hx62, h⟩ := bind_some h
                    refine x_rgt (st2 := { tm := [(0, .pv (.str p)), (4, .osl 0 0 (List.map PV.str x2).length), (6, .osl 1 0 (List.map PV.str x62).length), (7, .pv (.int .i64 i_1))], hp := [(0, some (.p none (List.map PV.str x2))), (1, some (.p none (List.map PV.str x62)))], nx := 2 }) (RegTo.mk [(.n, .e), (.n, .e), (.n, .e), (.n, .cutR), (.n, .e)] ({ tm := [(0, .pv (.str p)), (4, .osl 0 0 (List.map PV.str x2).length), (6, .osl 1 (0 + Int.toNat 0) (Int.toNat (IntKind.wrap .i64 ((List.length out : Int) - 1)) - Int.toNat 0)), (7, .pv (.int .i64 i_1))], hp := [(0, some (.p none (List.map PV.str x2))), (1, some (.p none (List.map PV.str out)))], nx := 2 }) [(0 ≤ (0 : Int) ∧ (0 : Int) ≤ (IntKind.wrap .i64 ((List.length out : Int) - 1)) ∧ (IntKind.wrap .i64 ((List.length out : Int) - 1)) ≤ (((List.map PV.str out).length : Nat) : Int))] (by kernel_rfl) (.cons (cutR_ob hx62 (by simp)) .nil) (((Sub.of_eq (show ({ tm := [(0, .pv (.str p)), (4, .osl 0 0 (List.map PV.str x2).length), (6, .osl 1 0 (List.map PV.str x62).length), (7, .pv (.int .i64 i_1))], hp := [(0, some (.p none (List.map PV.str x2))), (1, some (.p none (List.map PV.str x62)))], nx := 2 } : VSt) = trimSt 1 (Int.toNat (IntKind.wrap .i64 ((List.length out : Int) - 1)) - Int.toNat 0) ({ tm := [(0, .pv (.str p)), (4, .osl 0 0 (List.map PV.str x2).length), (6, .osl 1 (0 + Int.toNat 0) (Int.toNat (IntKind.wrap .i64 ((List.length out : Int) - 1)) - Int.toNat 0)), (7, .pv (.int .i64 i_1))], hp := [(0, some (.p none (List.map PV.str x2))), (1, some (.p none (List.map PV.str out)))], nx := 2 }) from (show ({ tm := [(0, .pv (.str p)), (4, .osl 0 0 (List.map PV.str x2).length), (6, .osl 1 0 (List.map PV.str x62).length), (7, .pv (.int .i64 i_1))], hp := [(0, some (.p none (List.map PV.str x2))), (1, some (.p none (List.map PV.str x62)))], nx := 2 } : VSt) = { tm := [(0, .pv (.str p)), (4, .osl 0 0 (List.map PV.str x2).length), (6, .osl 1 (0 + Int.toNat 0) (Int.toNat (IntKind.wrap .i64 ((List.length out : Int) - 1)) - Int.toNat 0)), (7, .pv (.int .i64 i_1))], hp := [(0, some (.p none (List.map PV.str x2))), (1, some (.p none (List.take (Int.toNat (IntKind.wrap .i64 ((List.length out : Int) - 1)) - Int.toNat 0) (List.map PV.str out))))], nx := 2 } from (by rw [(cutR_f hx62).2, (cutR_f hx62).1]; try rfl)).trans (by kernel_rfl))).trans (Sub.trim 1 (Int.toNat (IntKind.wrap .i64 ((List.length out : Int) - 1)) - Int.toNat 0) _)))) ?_
                    refine x_bn ?_
                    refine x_bn ?_
                    refine x_tn ?_
                    refine x_rgt (st2 := { tm := [(0, .pv (.str p)), (4, .osl 0 0 (List.map PV.str x2).length), (6, .osl 1 0 (List.map PV.str x62).length), (7, .pv (.int .i64 (IntKind.wrap .i64 (i_1 + 1))))], hp := [(0, some (.p none (List.map PV.str x2))), (1, some (.p none (List.map PV.str x62)))], nx := 2 }) (RegTo.mk [(.n, .e), (.n, .e), (.n, .e)] ({ tm := [(0, .pv (.str p)), (4, .osl 0 0 (List.map PV.str x2).length), (6, .osl 1 0 (List.map PV.str x62).length), (7, .pv (.int .i64 (IntKind.wrap .i64 (i_1 + 1))))], hp := [(0, some (.p none (List.map PV.str x2))), (1, some (.p none (List.map PV.str x62)))], nx := 2 }) [] (by kernel_rfl) .nil (Sub.refl _)) ?_
                    refine x_tn ?_
                    exact ⟨_, (Option.some.inj h).symm, by kernel_rfl⟩
                  · replace h := ite_f h hc61
                    obtain ⟨x63, hx63, h⟩ := bind_some h
                    obtain ⟨t66, ht, h⟩ := bind_some h
                    refine x_rg (st2 := { tm := [(0, .pv (.str p)), (4, .osl 0 0 (List.map PV.str x2).length), (6, .osl 1 0 (List.map PV.str out).length), (7, .pv (.int .i64 i_1)), (97, .pv (.bool t66))], hp := [(0, some (.p none (List.map PV.str x2))), (1, some (.p none (List.map PV.str out)))], nx := 2 }) ?_ ?_
                    · rcases Bool.eq_false_or_eq_true (decide (x63 = [46, 46])) with hg64 | hg64
                      · replace ht := ite_t ht hg64
                        obtain ⟨x65, hx65, ht⟩ := bind_some ht
                        have e := Option.some.inj ht
                        subst e
                        exact RegTo.mk [(.n, .e), (.n, .e), (.n, .rAt), (.n, (.ld (.str x63))), (.n, .e), (.n, .e), (.y, .e), (.y, (.call [.str p] (.bool x65) true)), (.n, (.pk true)), (.n, .e)] ({ tm := [(0, .pv (.str p)), (4, .osl 0 0 (List.map PV.str x2).length), (6, .osl 1 0 (List.map PV.str out).length), (7, .pv (.int .i64 i_1)), (97, .pv (.bool x65))], hp := [(0, some (.p none (List.map PV.str x2))), (1, some (.p none (List.map PV.str out)))], nx := 2 }) [(0 ≤ (i_1 : Int) ∧ Int.toNat i_1 < (List.map PV.str x2).length), ((List.map PV.str x2)[(0 + Int.toNat i_1)]? = some (.str x63)), ((decide (x63 = [46, 46])) = true), ((decide (x63 = [46, 46])) = true), (LesA [.str p] [.str p]), (CallOK Tryd.prog 24 [.str p] (.bool x65) true), ((decide (x63 = [46, 46])) = true)] (by kernel_rfl) (.cons (rAt_ob hx63 (by simp)) (.cons (ownAt hx63) (.cons hg64 (.cons hg64 (.cons (LesA.rfl' _) (.cons (c24 hx65) (.cons hg64 .nil))))))) (Sub.refl _)
                      · replace ht := ite_f ht hg64
                        have e := Option.some.inj ht
                        subst e
                        exact RegTo.mk [(.n, .e), (.n, .e), (.n, .rAt), (.n, (.ld (.str x63))), (.n, .e), (.n, .e), (.s, .e), (.s, .e), (.n, (.pk false)), (.n, .e)] ({ tm := [(0, .pv (.str p)), (4, .osl 0 0 (List.map PV.str x2).length), (6, .osl 1 0 (List.map PV.str out).length), (7, .pv (.int .i64 i_1)), (97, .pv (.bool false))], hp := [(0, some (.p none (List.map PV.str x2))), (1, some (.p none (List.map PV.str out)))], nx := 2 }) [(0 ≤ (i_1 : Int) ∧ Int.toNat i_1 < (List.map PV.str x2).length), ((List.map PV.str x2)[(0 + Int.toNat i_1)]? = some (.str x63)), ((decide (x63 = [46, 46])) = false), ((decide (x63 = [46, 46])) = false), ((decide (x63 = [46, 46])) = false)] (by kernel_rfl) (.cons (rAt_ob hx63 (by simp)) (.cons (ownAt hx63) (.cons hg64 (.cons hg64 (.cons hg64 .nil))))) (Sub.refl _)
                    · clear ht
                      refine x_cond _ rfl (fun hc67 => ?_) (fun hc67 => ?_)
                      · replace h := ite_t h hc67
                        refine x_kw (st2 := { tm := [(0, .pv (.str p)), (4, .osl 0 0 (List.map PV.str x2).length), (6, .osl 1 0 (List.map PV.str out).length), (7, .pv (.int .i64 i_1))], hp := [(0, some (.p none (List.map PV.str x2))), (1, some (.p none (List.map PV.str out)))], nx := 2 }) ({ tm := [(0, .pv (.str p)), (4, .osl 0 0 (List.map PV.str x2).length), (6, .osl 1 0 (List.map PV.str out).length), (7, .pv (.int .i64 i_1))], hp := [(0, some (.p none (List.map PV.str x2))), (1, some (.p none (List.map PV.str out)))], nx := 2 }) (by kernel_rfl) (Sub.refl _) ?_
                        refine x_skip ?_
                        refine x_bn ?_
                        refine x_bn ?_
                        refine x_tn ?_
                        refine x_rgt (st2 := { tm := [(0, .pv (.str p)), (4, .osl 0 0 (List.map PV.str x2).length), (6, .osl 1 0 (List.map PV.str out).length), (7, .pv (.int .i64 (IntKind.wrap .i64 (i_1 + 1))))], hp := [(0, some (.p none (List.map PV.str x2))), (1, some (.p none (List.map PV.str out)))], nx := 2 }) (RegTo.mk [(.n, .e), (.n, .e), (.n, .e)] ({ tm := [(0, .pv (.str p)), (4, .osl 0 0 (List.map PV.str x2).length), (6, .osl 1 0 (List.map PV.str out).length), (7, .pv (.int .i64 (IntKind.wrap .i64 (i_1 + 1))))], hp := [(0, some (.p none (List.map PV.str x2))), (1, some (.p none (List.map PV.str out)))], nx := 2 }) [] (by kernel_rfl) .nil (Sub.refl _)) ?_
                        refine x_tn ?_
                        exact ⟨_, (Option.some.inj h).symm, by kernel_rfl⟩
                      · replace h := ite_f h hc67
                        obtain ⟨x68, hx68, h⟩ := bind_some h
                        obtain ⟨x69, hx69, h⟩ := bind_some h
                        refine x_rgt (st2 := { tm := [(0, .pv (.str p)), (4, .osl 0 0 (List.map PV.str x2).length), (6, .osl 1 0 (List.map PV.str x69).length), (7, .pv (.int .i64 i_1))], hp := [(0, some (.p none (List.map PV.str x2))), (1, some (.p none (List.map PV.str x69)))], nx := 2 }) (RegTo.mk [(.n, .e), (.n, .e), (.n, .e), (.n, .rAt), (.n, (.ld (.str x68))), (.n, .e), (.n, (.app (List.map PV.str x69))), (.n, .e)] ({ tm := [(0, .pv (.str p)), (4, .osl 0 0 (List.map PV.str x2).length), (6, .osl 1 0 (List.map PV.str x69).length), (7, .pv (.int .i64 i_1))], hp := [(0, some (.p none (List.map PV.str x2))), (1, some (.p none (List.map PV.str x69)))], nx := 2 }) [(0 ≤ (i_1 : Int) ∧ Int.toNat i_1 < (List.map PV.str x2).length), ((List.map PV.str x2)[(0 + Int.toNat i_1)]? = some (.str x68)), (List.take (List.map PV.str out).length (List.map PV.str out) ++ List.take 1 (List.drop 0 ([.str x68] : List PV)) = (List.map PV.str x69)), (List.length (List.map PV.str x69) * 16 ≤ 140737488355328), (List.length (List.map PV.str x69) ≤ 9223372036854775807), ((List.map PV.str out).length ≤ List.length (List.map PV.str out)), (0 + 1 ≤ List.length ([.str x68] : List PV))] (by kernel_rfl) (.cons (rAt_ob hx68 (by simp)) (.cons (ownAt hx68) (.cons (app_ob hx69 (.all _) (.rfl _)) (.cons (by rw [List.length_map]; exact (appL_ok hx69).2.1) (.cons (by rw [List.length_map]; exact (appL_ok hx69).2.2) (.cons (Nat.le_refl _) (.cons (by simp) .nil))))))) (Sub.refl _)) ?_
                        refine x_bn ?_
                        refine x_bn ?_
                        refine x_tn ?_
                        refine x_rgt (st2 := { tm := [(0, .pv (.str p)), (4, .osl 0 0 (List.map PV.str x2).length), (6, .osl 1 0 (List.map PV.str x69).length), (7, .pv (.int .i64 (IntKind.wrap .i64 (i_1 + 1))))], hp := [(0, some (.p none (List.map PV.str x2))), (1, some (.p none (List.map PV.str x69)))], nx := 2 }) (RegTo.mk [(.n, .e), (.n, .e), (.n, .e)] ({ tm := [(0, .pv (.str p)), (4, .osl 0 0 (List.map PV.str x2).length), (6, .osl 1 0 (List.map PV.str x69).length), (7, .pv (.int .i64 (IntKind.wrap .i64 (i_1 + 1))))], hp := [(0, some (.p none (List.map PV.str x2))), (1, some (.p none (List.map PV.str x69)))], nx := 2 }) [] (by kernel_rfl) .nil (Sub.refl _)) ?_
                        refine x_tn ?_
                        exact ⟨_, (Option.some.inj h).symm, by kernel_rfl⟩
          · replace h := ite_f h hc50
            refine x_kw (st2 := { tm := [(6, .osl 0 0 (List.map PV.str out).length)], hp := [(0, some (.p none (List.map PV.str out)))], nx := 1 }) ({ tm := [(6, .osl 0 0 (List.map PV.str out).length)], hp := [(0, some (.p none (List.map PV.str out)))], nx := 1 }) (by kernel_rfl) (Sub.refl _) ?_
            refine x_exit ?_
            refine x_te ?_
            refine x_te ?_
            replace h := done_map h hx49
            unfold ref03_Split_A71 at h
            refine x_bh ?_
            refine x_tn ?_
            refine x_seq ?_
            refine x_rg (st2 := { tm := [(6, .osl 0 0 (List.map PV.str out).length), (109, .pv (.bool (decide (32 < (List.length out : Int)))))], hp := [(0, some (.p none (List.map PV.str out)))], nx := 1 }) (RegTo.mk [(.n, .e), (.n, (.len (List.length out : Int))), (.n, .e)] ({ tm := [(6, .osl 0 0 (List.map PV.str out).length), (109, .pv (.bool (decide (32 < (List.length out : Int)))))], hp := [(0, some (.p none (List.map PV.str out)))], nx := 1 }) [((((List.map PV.str out).length : Nat) : Int) = (List.length out : Int))] (by kernel_rfl) (.cons (by rw [List.length_map]) .nil) (Sub.refl _)) ?_
            refine x_cond _ rfl (fun hc70 => ?_) (fun hc70 => ?_)
            · replace h := ite_t h hc70
              refine x_rg (st2 := { tm := [(2, .pv (.nilsl)), (3, .pv (.int .i64 4))], hp := [], nx := 0 }) (RegTo.mk [(.n, .e), (.n, .e)] ({ tm := [(2, .pv (.nilsl)), (3, .pv (.int .i64 4))], hp := [], nx := 0 }) [] (by kernel_rfl) .nil (Sub.refl _)) ?_
              refine x_toret ?_
              refine x_tr ?_
              obtain rfl := Option.some.inj h
              exact x_ret (.tup [.nilsl, .int .i64 4]) [] [] (by kernel_rfl) .nil (by decide) (.tup (.cons (.nilUsl _) (.cons (.refl _) .nil))) (fun _ => tup_ns (.cons (usl_ns (sh := none) (fun _ => rfl)) (.cons rfl .nil)))
            · replace h := ite_f h hc70
              refine x_kw (st2 := { tm := [(6, .osl 0 0 (List.map PV.str out).length)], hp := [(0, some (.p none (List.map PV.str out)))], nx := 1 }) ({ tm := [(6, .osl 0 0 (List.map PV.str out).length)], hp := [(0, some (.p none (List.map PV.str out)))], nx := 1 }) (by kernel_rfl) (Sub.refl _) ?_
              refine x_skip ?_
              refine x_tn ?_
              refine x_rg (st2 := { tm := [(2, .osl 0 0 (List.map PV.str out).length), (3, .pv (.int .i64 0))], hp := [(0, some (.p none (List.map PV.str out)))], nx := 1 }) (RegTo.mk [(.n, .e), (.n, .e), (.n, .e)] ({ tm := [(2, .osl 0 0 (List.map PV.str out).length), (3, .pv (.int .i64 0))], hp := [(0, some (.p none (List.map PV.str out)))], nx := 1 }) [] (by kernel_rfl) .nil (Sub.refl _)) ?_
              refine x_toret ?_
              obtain rfl := Option.some.inj h
              exact x_ret (.tup [.usl none (List.take (List.map PV.str out).length (List.map PV.str out)), .int .i64 0]) [0] [(List.map PV.str out).length ≤ List.length (List.map PV.str out)] (by kernel_rfl) (.cons (Nat.le_refl _) .nil) (by decide) (.tup (.cons (.of_eq (by rw [List.take_length])) (.cons (.refl _) .nil))) (fun _ => tup_ns (.cons (usl_ns (sh := none) (fun _ => rfl)) (.cons rfl .nil)))

theorem c23 {rooted : Bool} {l : (List Str)} {r : Str} (h : ref03_Build rooted l = some r) : CallOK Tryd.prog 23 [.bool rooted, .sl none (List.map PV.str l)] (.str r) true := by
  apply ok23
  unfold ref03_Build at h
  refine x_rg (st2 := { tm := [(0, .pv (.bool rooted)), (1, .pv (.sl none (List.map PV.str l)))], hp := [], nx := 0 }) (RegTo.mk [(.n, .e)] ({ tm := [(0, .pv (.bool rooted)), (1, .pv (.sl none (List.map PV.str l)))], hp := [], nx := 0 }) [] (by kernel_rfl) .nil (Sub.refl _)) ?_
  refine x_rg (st2 := { tm := [(0, .pv (.bool rooted)), (1, .pv (.sl none (List.map PV.str l))), (5, .pv (.str []))], hp := [], nx := 0 }) (RegTo.mk [(.n, .e)] ({ tm := [(0, .pv (.bool rooted)), (1, .pv (.sl none (List.map PV.str l))), (5, .pv (.str []))], hp := [], nx := 0 }) [] (by kernel_rfl) .nil (Sub.refl _)) ?_
  refine x_seq ?_
  refine x_rg (st2 := { tm := [(0, .pv (.bool rooted)), (1, .pv (.sl none (List.map PV.str l))), (5, .pv (.str [])), (6, .pv (.int .i64 0))], hp := [], nx := 0 }) (RegTo.mk [(.n, .e)] ({ tm := [(0, .pv (.bool rooted)), (1, .pv (.sl none (List.map PV.str l))), (5, .pv (.str [])), (6, .pv (.int .i64 0))], hp := [], nx := 0 }) [] (by kernel_rfl) .nil (Sub.refl _)) ?_
  refine x_block ?_
  refine x_kw (st2 := { tm := [(0, .pv (.bool rooted)), (1, .pv (.sl none (List.map PV.str l))), (5, .pv (.str [])), (6, .pv (.int .i64 0))], hp := [], nx := 0 }) ({ tm := [(0, .pv (.bool rooted)), (1, .pv (.sl none (List.map PV.str l))), (5, .pv (.str [])), (6, .pv (.int .i64 0))], hp := [], nx := 0 }) (by kernel_rfl) (Sub.refl _) ?_
  refine x_loop (σ := (Str × Int)) h (fun s => { tm := [(0, .pv (.bool rooted)), (1, .pv (.sl none (List.map PV.str l))), (5, .pv (.str s.1)), (6, .pv (.int .i64 s.2))], hp := [], nx := 0 }) (by kernel_rfl) ?_ ?_
  · rintro ⟨s_, i⟩
    kernel_rfl
  · rintro ⟨s_, i⟩ x6 h hx6
    replace h : ref03_Build_L6 rooted l s_ i = some x6 := h
    unfold ref03_Build_L6 at h
    refine x_seq ?_
    refine x_rg (st2 := { tm := [(0, .pv (.bool rooted)), (1, .pv (.sl none (List.map PV.str l))), (5, .pv (.str s_)), (6, .pv (.int .i64 i)), (10, .pv (.bool (decide (i < (List.length l : Int)))))], hp := [], nx := 0 }) (RegTo.mk [(.n, .e), (.n, .e), (.n, (.len (List.length l : Int))), (.n, .e)] ({ tm := [(0, .pv (.bool rooted)), (1, .pv (.sl none (List.map PV.str l))), (5, .pv (.str s_)), (6, .pv (.int .i64 i)), (10, .pv (.bool (decide (i < (List.length l : Int)))))], hp := [], nx := 0 }) [((List.length (List.map PV.str l) : Int) = (List.length l : Int))] (by kernel_rfl) (.cons (by rw [List.length_map]) .nil) (Sub.refl _)) ?_
    refine x_cond _ rfl (fun hc7 => ?_) (fun hc7 => ?_)
    · replace h := ite_t h hc7
      refine x_kw (st2 := { tm := [(0, .pv (.bool rooted)), (1, .pv (.sl none (List.map PV.str l))), (5, .pv (.str s_)), (6, .pv (.int .i64 i))], hp := [], nx := 0 }) ({ tm := [(0, .pv (.bool rooted)), (1, .pv (.sl none (List.map PV.str l))), (5, .pv (.str s_)), (6, .pv (.int .i64 i))], hp := [], nx := 0 }) (by kernel_rfl) (Sub.refl _) ?_
      refine x_skip ?_
      refine x_tn ?_
      refine x_seq ?_
      refine x_block ?_
      refine x_join (τ := Str) (fun t => ref03_Build_K8 l i t = some x6) (fun t => { tm := [(0, .pv (.bool rooted)), (1, .pv (.sl none (List.map PV.str l))), (5, .pv (.str t)), (6, .pv (.int .i64 i))], hp := [], nx := 0 }) ?_ ?_
      · rintro p9 h
        replace h : ref03_Build_K8 l i p9 = some x6 := h
        unfold ref03_Build_K8 at h
        obtain ⟨x10, hx10, h⟩ := bind_some h
        obtain ⟨x11, hx11, h⟩ := bind_some h
        refine x_rgt (st2 := { tm := [(0, .pv (.bool rooted)), (1, .pv (.sl none (List.map PV.str l))), (5, .pv (.str x11)), (6, .pv (.int .i64 i))], hp := [], nx := 0 }) (RegTo.mk [(.n, .e), (.n, .e), (.n, .e), (.n, (.pAt (.str x10))), (.n, .e), (.n, (.cat x11)), (.n, .e)] ({ tm := [(0, .pv (.bool rooted)), (1, .pv (.sl none (List.map PV.str l))), (5, .pv (.str x11)), (6, .pv (.int .i64 i))], hp := [], nx := 0 }) [(lsAt (List.map PV.str l) i = some (.str x10)), (catS p9 x10 = some x11)] (by kernel_rfl) (.cons (lsAt_map hx10) (.cons hx11 .nil)) (Sub.refl _)) ?_
        refine x_bn ?_
        refine x_tn ?_
        refine x_rgt (st2 := { tm := [(0, .pv (.bool rooted)), (1, .pv (.sl none (List.map PV.str l))), (5, .pv (.str x11)), (6, .pv (.int .i64 (IntKind.wrap .i64 (i + 1))))], hp := [], nx := 0 }) (RegTo.mk [(.n, .e), (.n, .e), (.n, .e)] ({ tm := [(0, .pv (.bool rooted)), (1, .pv (.sl none (List.map PV.str l))), (5, .pv (.str x11)), (6, .pv (.int .i64 (IntKind.wrap .i64 (i + 1))))], hp := [], nx := 0 }) [] (by kernel_rfl) .nil (Sub.refl _)) ?_
        refine x_tn ?_
        exact ⟨_, (Option.some.inj h).symm, by kernel_rfl⟩
      · refine x_rg (st2 := { tm := [(0, .pv (.bool rooted)), (1, .pv (.sl none (List.map PV.str l))), (5, .pv (.str s_)), (6, .pv (.int .i64 i)), (14, .pv (.bool (decide (0 < i))))], hp := [], nx := 0 }) (RegTo.mk [(.n, .e), (.n, .e)] ({ tm := [(0, .pv (.bool rooted)), (1, .pv (.sl none (List.map PV.str l))), (5, .pv (.str s_)), (6, .pv (.int .i64 i)), (14, .pv (.bool (decide (0 < i))))], hp := [], nx := 0 }) [] (by kernel_rfl) .nil (Sub.refl _)) ?_
        refine x_cond _ rfl (fun hc12 => ?_) (fun hc12 => ?_)
        · replace h := ite_t h hc12
          obtain ⟨x13, hx13, h⟩ := bind_some h
          refine x_rgt (st2 := { tm := [(0, .pv (.bool rooted)), (1, .pv (.sl none (List.map PV.str l))), (5, .pv (.str x13)), (6, .pv (.int .i64 i))], hp := [], nx := 0 }) (RegTo.mk [(.n, .e), (.n, (.cat x13)), (.n, .e)] ({ tm := [(0, .pv (.bool rooted)), (1, .pv (.sl none (List.map PV.str l))), (5, .pv (.str x13)), (6, .pv (.int .i64 i))], hp := [], nx := 0 }) [(catS s_ [47] = some x13)] (by kernel_rfl) (.cons hx13 .nil) (Sub.refl _)) ?_
          refine x_tn ?_
          exact ⟨x13, h, by kernel_rfl⟩
        · replace h := ite_f h hc12
          refine x_kw (st2 := { tm := [(0, .pv (.bool rooted)), (1, .pv (.sl none (List.map PV.str l))), (5, .pv (.str s_)), (6, .pv (.int .i64 i))], hp := [], nx := 0 }) ({ tm := [(0, .pv (.bool rooted)), (1, .pv (.sl none (List.map PV.str l))), (5, .pv (.str s_)), (6, .pv (.int .i64 i))], hp := [], nx := 0 }) (by kernel_rfl) (Sub.refl _) ?_
          refine x_skip ?_
          refine x_tn ?_
          exact ⟨s_, h, by kernel_rfl⟩
    · replace h := ite_f h hc7
      refine x_kw (st2 := { tm := [(0, .pv (.bool rooted)), (5, .pv (.str s_))], hp := [], nx := 0 }) ({ tm := [(0, .pv (.bool rooted)), (5, .pv (.str s_))], hp := [], nx := 0 }) (by kernel_rfl) (Sub.refl _) ?_
      refine x_exit ?_
      refine x_te ?_
      refine x_te ?_
      replace h := done_map h hx6
      unfold ref03_Build_A17 at h
      refine x_bh ?_
      refine x_tn ?_
      refine x_seq ?_
      refine x_rg (st2 := { tm := [(5, .pv (.str s_)), (23, .pv (.bool rooted))], hp := [], nx := 0 }) (RegTo.mk [(.n, .e)] ({ tm := [(5, .pv (.str s_)), (23, .pv (.bool rooted))], hp := [], nx := 0 }) [] (by kernel_rfl) .nil (Sub.refl _)) ?_
      refine x_cond _ rfl (fun hc14 => ?_) (fun hc14 => ?_)
      · replace h := ite_t h hc14
        obtain ⟨x15, hx15, h⟩ := bind_some h
        refine x_rg (st2 := { tm := [(4, .pv (.str x15))], hp := [], nx := 0 }) (RegTo.mk [(.n, .e), (.n, (.cat x15)), (.n, .e)] ({ tm := [(4, .pv (.str x15))], hp := [], nx := 0 }) [(catS [47] s_ = some x15)] (by kernel_rfl) (.cons hx15 .nil) (Sub.refl _)) ?_
        refine x_toret ?_
        refine x_tr ?_
        obtain rfl := Option.some.inj h
        exact x_ret (.str x15) [] [] (by kernel_rfl) .nil (by decide) (.refl _) (fun _ => rfl)
      · replace h := ite_f h hc14
        refine x_kw (st2 := { tm := [(5, .pv (.str s_))], hp := [], nx := 0 }) ({ tm := [(5, .pv (.str s_))], hp := [], nx := 0 }) (by kernel_rfl) (Sub.refl _) ?_
        refine x_skip ?_
        refine x_tn ?_
        refine x_seq ?_
        refine x_rg (st2 := { tm := [(5, .pv (.str s_)), (27, .pv (.bool (decide (s_ = []))))], hp := [], nx := 0 }) (RegTo.mk [(.n, .e), (.n, .e)] ({ tm := [(5, .pv (.str s_)), (27, .pv (.bool (decide (s_ = []))))], hp := [], nx := 0 }) [] (by kernel_rfl) .nil (Sub.refl _)) ?_
        refine x_cond _ rfl (fun hc16 => ?_) (fun hc16 => ?_)
        · replace h := ite_t h hc16
          refine x_rg (st2 := { tm := [(4, .pv (.str [46]))], hp := [], nx := 0 }) (RegTo.mk [(.n, .e)] ({ tm := [(4, .pv (.str [46]))], hp := [], nx := 0 }) [] (by kernel_rfl) .nil (Sub.refl _)) ?_
          refine x_toret ?_
          refine x_tr ?_
          obtain rfl := Option.some.inj h
          exact x_ret (.str [46]) [] [] (by kernel_rfl) .nil (by decide) (.refl _) (fun _ => rfl)
        · replace h := ite_f h hc16
          refine x_kw (st2 := { tm := [(5, .pv (.str s_))], hp := [], nx := 0 }) ({ tm := [(5, .pv (.str s_))], hp := [], nx := 0 }) (by kernel_rfl) (Sub.refl _) ?_
          refine x_skip ?_
          refine x_tn ?_
          refine x_rg (st2 := { tm := [(4, .pv (.str s_))], hp := [], nx := 0 }) (RegTo.mk [(.n, .e), (.n, .e)] ({ tm := [(4, .pv (.str s_))], hp := [], nx := 0 }) [] (by kernel_rfl) .nil (Sub.refl _)) ?_
          refine x_toret ?_
          obtain rfl := Option.some.inj h
          exact x_ret (.str s_) [] [] (by kernel_rfl) .nil (by decide) (.refl _) (fun _ => rfl)

theorem c15 {p : Str} {r : (Str × Int)} (h : ref03_Clean p = some r) : CallOK Tryd.prog 15 [.str p] (.tup [.str r.1, .int .i64 r.2]) true := by
  apply ok15
  unfold ref03_Clean at h
  refine x_rg (st2 := { tm := [(0, .pv (.str p))], hp := [], nx := 0 }) (RegTo.mk [(.n, .e), (.n, .e)] ({ tm := [(0, .pv (.str p))], hp := [], nx := 0 }) [] (by kernel_rfl) .nil (Sub.refl _)) ?_
  obtain ⟨x1, hx1, h⟩ := bind_some h
  refine x_rg (st2 := { tm := [(0, .pv (.str p)), (4, .osl 0 0 (List.map PV.str x1.1).length), (5, .pv (.int .i64 x1.2))], hp := [(0, some (.p none (List.map PV.str x1.1)))], nx := 1 }) (RegTo.mk [(.n, .e), (.n, (.call [.str p] (.tup [.usl none (List.map PV.str x1.1), .int .i64 x1.2]) true)), (.n, .e), (.n, .e), (.n, .e), (.n, .e), (.n, .e)] ({ tm := [(0, .pv (.str p)), (4, .osl 0 0 (List.map PV.str x1.1).length), (5, .pv (.int .i64 x1.2))], hp := [(0, some (.p none (List.map PV.str x1.1)))], nx := 1 }) [(LesA [.str p] [.str p]), (CallOK Tryd.prog 17 [.str p] (.tup [.usl none (List.map PV.str x1.1), .int .i64 x1.2]) true)] (by kernel_rfl) (.cons (LesA.rfl' _) (.cons (c17 hx1) .nil)) (Sub.refl _)) ?_
  refine x_seq ?_
  refine x_rg (st2 := { tm := [(0, .pv (.str p)), (4, .osl 0 0 (List.map PV.str x1.1).length), (5, .pv (.int .i64 x1.2)), (12, .pv (.bool (!decide (x1.2 = 0))))], hp := [(0, some (.p none (List.map PV.str x1.1)))], nx := 1 }) (RegTo.mk [(.n, .e), (.n, .e)] ({ tm := [(0, .pv (.str p)), (4, .osl 0 0 (List.map PV.str x1.1).length), (5, .pv (.int .i64 x1.2)), (12, .pv (.bool (!decide (x1.2 = 0))))], hp := [(0, some (.p none (List.map PV.str x1.1)))], nx := 1 }) [] (by kernel_rfl) .nil (Sub.refl _)) ?_
  refine x_cond _ rfl (fun hc2 => ?_) (fun hc2 => ?_)
  · replace h := ite_t h hc2
    refine x_rg (st2 := { tm := [(2, .pv (.str [])), (3, .pv (.int .i64 x1.2))], hp := [], nx := 0 }) (RegTo.mk [(.n, .e), (.n, .e), (.n, .e)] ({ tm := [(2, .pv (.str [])), (3, .pv (.int .i64 x1.2))], hp := [], nx := 0 }) [] (by kernel_rfl) .nil (Sub.refl _)) ?_
    refine x_toret ?_
    refine x_tr ?_
    obtain rfl := Option.some.inj h
    exact x_ret (.tup [.str [], .int .i64 x1.2]) [] [] (by kernel_rfl) .nil (by decide) (.tup (.cons (.refl _) (.cons (.refl _) .nil))) (fun _ => rfl)
  · replace h := ite_f h hc2
    refine x_kw (st2 := { tm := [(0, .pv (.str p)), (4, .osl 0 0 (List.map PV.str x1.1).length)], hp := [(0, some (.p none (List.map PV.str x1.1)))], nx := 1 }) ({ tm := [(0, .pv (.str p)), (4, .osl 0 0 (List.map PV.str x1.1).length)], hp := [(0, some (.p none (List.map PV.str x1.1)))], nx := 1 }) (by kernel_rfl) (Sub.refl _) ?_
    refine x_skip ?_
    refine x_tn ?_
    obtain ⟨x3, hx3, h⟩ := bind_some h
    obtain ⟨x4, hx4, h⟩ := bind_some h
    refine x_rg (st2 := { tm := [(2, .pv (.str x4)), (3, .pv (.int .i64 0))], hp := [], nx := 0 }) (RegTo.mk [(.n, .e), (.n, (.call [.str p] (.bool x3) true)), (.n, .e), (.n, (.call [.bool x3, .sl none (List.map PV.str x1.1)] (.str x4) true)), (.n, .e), (.n, .e)] ({ tm := [(2, .pv (.str x4)), (3, .pv (.int .i64 0))], hp := [], nx := 0 }) [(LesA [.str p] [.str p]), (CallOK Tryd.prog 24 [.str p] (.bool x3) true), (LesA [.bool x3, .sl none (List.take (List.map PV.str x1.1).length (List.drop 0 (List.map PV.str x1.1)))] [.bool x3, .sl none (List.map PV.str x1.1)]), (CallOK Tryd.prog 23 [.bool x3, .sl none (List.map PV.str x1.1)] (.str x4) true), (0 + (List.map PV.str x1.1).length ≤ List.length (List.map PV.str x1.1))] (by kernel_rfl) (.cons (LesA.rfl' _) (.cons (c24 hx3) (.cons (.cons (.refl _) (.cons (.of_eq (by rw [List.drop_zero, List.take_length])) .nil)) (.cons (c23 hx4) (.cons (by simp) .nil))))) (Sub.refl _)) ?_
    refine x_toret ?_
    obtain rfl := Option.some.inj h
    exact x_ret (.tup [.str x4, .int .i64 0]) [] [] (by kernel_rfl) .nil (by decide) (.tup (.cons (.refl _) (.cons (.refl _) .nil))) (fun _ => rfl)

theorem c18 {a : (List Str)} {b : (List Str)} {r : Bool} (h : law03_same a b = some r) : CallOK Tryd.prog 18 [.sl none (List.map PV.str a), .sl none (List.map PV.str b)] (.bool r) true := by
  apply ok18
  unfold law03_same at h
  refine x_rg (st2 := { tm := [(0, .pv (.sl none (List.map PV.str a))), (1, .pv (.sl none (List.map PV.str b)))], hp := [], nx := 0 }) (RegTo.mk [(.n, .e)] ({ tm := [(0, .pv (.sl none (List.map PV.str a))), (1, .pv (.sl none (List.map PV.str b)))], hp := [], nx := 0 }) [] (by kernel_rfl) .nil (Sub.refl _)) ?_
  refine x_seq ?_
  refine x_rg (st2 := { tm := [(0, .pv (.sl none (List.map PV.str a))), (1, .pv (.sl none (List.map PV.str b))), (10, .pv (.bool (!decide ((List.length a : Int) = (List.length b : Int)))))], hp := [], nx := 0 }) (RegTo.mk [(.n, .e), (.n, (.len (List.length a : Int))), (.n, .e), (.n, (.len (List.length b : Int))), (.n, .e)] ({ tm := [(0, .pv (.sl none (List.map PV.str a))), (1, .pv (.sl none (List.map PV.str b))), (10, .pv (.bool (!decide ((List.length a : Int) = (List.length b : Int)))))], hp := [], nx := 0 }) [((List.length (List.map PV.str a) : Int) = (List.length a : Int)), ((List.length (List.map PV.str b) : Int) = (List.length b : Int))] (by kernel_rfl) (.cons (by rw [List.length_map]) (.cons (by rw [List.length_map]) .nil)) (Sub.refl _)) ?_
  refine x_cond _ rfl (fun hc1 => ?_) (fun hc1 => ?_)
  · replace h := ite_t h hc1
    refine x_rg (st2 := { tm := [(4, .pv (.bool false))], hp := [], nx := 0 }) (RegTo.mk [(.n, .e)] ({ tm := [(4, .pv (.bool false))], hp := [], nx := 0 }) [] (by kernel_rfl) .nil (Sub.refl _)) ?_
    refine x_toret ?_
    refine x_tr ?_
    obtain rfl := Option.some.inj h
    exact x_ret (.bool false) [] [] (by kernel_rfl) .nil (by decide) (.refl _) (fun _ => rfl)
  · replace h := ite_f h hc1
    refine x_kw (st2 := { tm := [(0, .pv (.sl none (List.map PV.str a))), (1, .pv (.sl none (List.map PV.str b)))], hp := [], nx := 0 }) ({ tm := [(0, .pv (.sl none (List.map PV.str a))), (1, .pv (.sl none (List.map PV.str b)))], hp := [], nx := 0 }) (by kernel_rfl) (Sub.refl _) ?_
    refine x_skip ?_
    refine x_tn ?_
    refine x_seq ?_
    refine x_rg (st2 := { tm := [(0, .pv (.sl none (List.map PV.str a))), (1, .pv (.sl none (List.map PV.str b))), (12, .pv (.int .i64 (List.length a : Int))), (13, .pv (.int .i64 0))], hp := [], nx := 0 }) (RegTo.mk [(.n, .e), (.n, (.len (List.length a : Int))), (.n, .e)] ({ tm := [(0, .pv (.sl none (List.map PV.str a))), (1, .pv (.sl none (List.map PV.str b))), (12, .pv (.int .i64 (List.length a : Int))), (13, .pv (.int .i64 0))], hp := [], nx := 0 }) [((List.length (List.map PV.str a) : Int) = (List.length a : Int))] (by kernel_rfl) (.cons (by rw [List.length_map]) .nil) (Sub.refl _)) ?_
    refine x_block ?_
    refine x_kw (st2 := { tm := [(0, .pv (.sl none (List.map PV.str a))), (1, .pv (.sl none (List.map PV.str b))), (12, .pv (.int .i64 (List.length a : Int))), (13, .pv (.int .i64 0))], hp := [], nx := 0 }) ({ tm := [(0, .pv (.sl none (List.map PV.str a))), (1, .pv (.sl none (List.map PV.str b))), (12, .pv (.int .i64 (List.length a : Int))), (13, .pv (.int .i64 0))], hp := [], nx := 0 }) (by kernel_rfl) (Sub.refl _) ?_
    refine x_loop (σ := Int) h (fun s => { tm := [(0, .pv (.sl none (List.map PV.str a))), (1, .pv (.sl none (List.map PV.str b))), (12, .pv (.int .i64 (List.length a : Int))), (13, .pv (.int .i64 s))], hp := [], nx := 0 }) (by kernel_rfl) ?_ ?_
    · rintro v6
      kernel_rfl
    · rintro v6 x7 h hx7
      replace h : law03_same_L7 a b v6 = some x7 := h
      unfold law03_same_L7 at h
      refine x_rg (st2 := { tm := [(0, .pv (.sl none (List.map PV.str a))), (1, .pv (.sl none (List.map PV.str b))), (12, .pv (.int .i64 (List.length a : Int))), (13, .pv (.int .i64 v6)), (14, .pv (.bool (decide (v6 < (List.length a : Int)))))], hp := [], nx := 0 }) (RegTo.mk [(.n, .e)] ({ tm := [(0, .pv (.sl none (List.map PV.str a))), (1, .pv (.sl none (List.map PV.str b))), (12, .pv (.int .i64 (List.length a : Int))), (13, .pv (.int .i64 v6)), (14, .pv (.bool (decide (v6 < (List.length a : Int)))))], hp := [], nx := 0 }) [] (by kernel_rfl) .nil (Sub.refl _)) ?_
      refine x_seq ?_
      refine x_cond _ rfl (fun hc8 => ?_) (fun hc8 => ?_)
      · replace h := ite_t h hc8
        refine x_kw (st2 := { tm := [(0, .pv (.sl none (List.map PV.str a))), (1, .pv (.sl none (List.map PV.str b))), (12, .pv (.int .i64 (List.length a : Int))), (13, .pv (.int .i64 v6))], hp := [], nx := 0 }) ({ tm := [(0, .pv (.sl none (List.map PV.str a))), (1, .pv (.sl none (List.map PV.str b))), (12, .pv (.int .i64 (List.length a : Int))), (13, .pv (.int .i64 v6))], hp := [], nx := 0 }) (by kernel_rfl) (Sub.refl _) ?_
        refine x_skip ?_
        refine x_tn ?_
        refine x_seq ?_
        refine x_block ?_
        refine x_rg (st2 := { tm := [(0, .pv (.sl none (List.map PV.str a))), (1, .pv (.sl none (List.map PV.str b))), (5, .pv (.int .i64 v6)), (12, .pv (.int .i64 (List.length a : Int))), (13, .pv (.int .i64 v6))], hp := [], nx := 0 }) (RegTo.mk [(.n, .e), (.n, .e)] ({ tm := [(0, .pv (.sl none (List.map PV.str a))), (1, .pv (.sl none (List.map PV.str b))), (5, .pv (.int .i64 v6)), (12, .pv (.int .i64 (List.length a : Int))), (13, .pv (.int .i64 v6))], hp := [], nx := 0 }) [] (by kernel_rfl) .nil (Sub.refl _)) ?_
        obtain ⟨x9, hx9, h⟩ := bind_some h
        obtain ⟨x10, hx10, h⟩ := bind_some h
        refine x_rg (st2 := { tm := [(0, .pv (.sl none (List.map PV.str a))), (1, .pv (.sl none (List.map PV.str b))), (12, .pv (.int .i64 (List.length a : Int))), (13, .pv (.int .i64 v6)), (24, .pv (.bool (!decide (x9 = x10))))], hp := [], nx := 0 }) (RegTo.mk [(.n, .e), (.n, .e), (.n, (.pAt (.str x9))), (.n, .e), (.n, .e), (.n, .e), (.n, (.pAt (.str x10))), (.n, .e), (.n, .e)] ({ tm := [(0, .pv (.sl none (List.map PV.str a))), (1, .pv (.sl none (List.map PV.str b))), (12, .pv (.int .i64 (List.length a : Int))), (13, .pv (.int .i64 v6)), (24, .pv (.bool (!decide (x9 = x10))))], hp := [], nx := 0 }) [(lsAt (List.map PV.str a) v6 = some (.str x9)), (lsAt (List.map PV.str b) v6 = some (.str x10))] (by kernel_rfl) (.cons (lsAt_map hx9) (.cons (lsAt_map hx10) .nil)) (Sub.refl _)) ?_
        refine x_cond _ rfl (fun hc11 => ?_) (fun hc11 => ?_)
        · replace h := ite_t h hc11
          refine x_rg (st2 := { tm := [(4, .pv (.bool false))], hp := [], nx := 0 }) (RegTo.mk [(.n, .e)] ({ tm := [(4, .pv (.bool false))], hp := [], nx := 0 }) [] (by kernel_rfl) .nil (Sub.refl _)) ?_
          refine x_toret ?_
          refine x_br ?_
          refine x_tr ?_
          refine x_tr ?_
          replace h := done_leaf h hx7
          refine x_br ?_
          refine x_tr ?_
          obtain rfl := Option.some.inj h
          exact x_ret (.bool false) [] [] (by kernel_rfl) .nil (by decide) (.refl _) (fun _ => rfl)
        · replace h := ite_f h hc11
          refine x_kw (st2 := { tm := [(0, .pv (.sl none (List.map PV.str a))), (1, .pv (.sl none (List.map PV.str b))), (12, .pv (.int .i64 (List.length a : Int))), (13, .pv (.int .i64 v6))], hp := [], nx := 0 }) ({ tm := [(0, .pv (.sl none (List.map PV.str a))), (1, .pv (.sl none (List.map PV.str b))), (12, .pv (.int .i64 (List.length a : Int))), (13, .pv (.int .i64 v6))], hp := [], nx := 0 }) (by kernel_rfl) (Sub.refl _) ?_
          refine x_skip ?_
          refine x_bn ?_
          refine x_tn ?_
          refine x_rgt (st2 := { tm := [(0, .pv (.sl none (List.map PV.str a))), (1, .pv (.sl none (List.map PV.str b))), (12, .pv (.int .i64 (List.length a : Int))), (13, .pv (.int .i64 (IntKind.wrap .i64 (v6 + 1))))], hp := [], nx := 0 }) (RegTo.mk [(.n, .e), (.n, .e)] ({ tm := [(0, .pv (.sl none (List.map PV.str a))), (1, .pv (.sl none (List.map PV.str b))), (12, .pv (.int .i64 (List.length a : Int))), (13, .pv (.int .i64 (IntKind.wrap .i64 (v6 + 1))))], hp := [], nx := 0 }) [] (by kernel_rfl) .nil (Sub.refl _)) ?_
          refine x_tn ?_
          exact ⟨_, (Option.some.inj h).symm, by kernel_rfl⟩
      · replace h := ite_f h hc8
        refine x_kw (st2 := { tm := [], hp := [], nx := 0 }) ({ tm := [], hp := [], nx := 0 }) (by kernel_rfl) (Sub.refl _) ?_
        refine x_exit ?_
        refine x_te ?_
        refine x_te ?_
        replace h := done_leaf h hx7
        refine x_bh ?_
        refine x_tn ?_
        refine x_rg (st2 := { tm := [(4, .pv (.bool true))], hp := [], nx := 0 }) (RegTo.mk [(.n, .e)] ({ tm := [(4, .pv (.bool true))], hp := [], nx := 0 }) [] (by kernel_rfl) .nil (Sub.refl _)) ?_
        refine x_toret ?_
        obtain rfl := Option.some.inj h
        exact x_ret (.bool true) [] [] (by kernel_rfl) .nil (by decide) (.refl _) (fun _ => rfl)

theorem c4 {p : Str} {r : Bool} (h : law03_PathCleans p = some r) : CallOK Tryd.prog 4 [.str p] (.bool r) true := by
  apply ok4
  unfold law03_PathCleans at h
  refine x_rg (st2 := { tm := [(0, .pv (.str p))], hp := [], nx := 0 }) (RegTo.mk [(.n, .e)] ({ tm := [(0, .pv (.str p))], hp := [], nx := 0 }) [] (by kernel_rfl) .nil (Sub.refl _)) ?_
  refine x_seq ?_
  refine x_rg (st2 := { tm := [(0, .pv (.str p)), (13, .pv (.bool (decide (5000 < (List.length p : Int)))))], hp := [], nx := 0 }) (RegTo.mk [(.n, .e), (.n, .e), (.n, .e)] ({ tm := [(0, .pv (.str p)), (13, .pv (.bool (decide (5000 < (List.length p : Int)))))], hp := [], nx := 0 }) [] (by kernel_rfl) .nil (Sub.refl _)) ?_
  refine x_cond _ rfl (fun hc1 => ?_) (fun hc1 => ?_)
  · replace h := ite_t h hc1
    obtain ⟨x2, hx2, h⟩ := bind_some h
    refine x_rg (st2 := { tm := [(2, .pv (.bool x2))], hp := [], nx := 0 }) (RegTo.mk [(.n, (.call [] (.bool x2) true)), (.n, .e)] ({ tm := [(2, .pv (.bool x2))], hp := [], nx := 0 }) [(LesA [] []), (CallOK Tryd.prog 11 [] (.bool x2) true)] (by kernel_rfl) (.cons (LesA.rfl' _) (.cons (c11 hx2) .nil)) (Sub.refl _)) ?_
    refine x_toret ?_
    refine x_tr ?_
    obtain rfl := Option.some.inj h
    exact x_ret (.bool x2) [] [] (by kernel_rfl) .nil (by decide) (.refl _) (fun _ => rfl)
  · replace h := ite_f h hc1
    refine x_kw (st2 := { tm := [(0, .pv (.str p))], hp := [], nx := 0 }) ({ tm := [(0, .pv (.str p))], hp := [], nx := 0 }) (by kernel_rfl) (Sub.refl _) ?_
    refine x_skip ?_
    refine x_tn ?_
    obtain ⟨x3, hx3, h⟩ := bind_some h
    refine x_rg (st2 := { tm := [(0, .pv (.str p)), (3, .pv (.str x3.1)), (4, .pv (.int .i64 x3.2))], hp := [], nx := 0 }) (RegTo.mk [(.n, .e), (.n, (.call [.str p] (.tup [.str x3.1, .int .i64 x3.2]) true)), (.n, .e), (.n, .e), (.n, .e), (.n, .e), (.n, .e)] ({ tm := [(0, .pv (.str p)), (3, .pv (.str x3.1)), (4, .pv (.int .i64 x3.2))], hp := [], nx := 0 }) [(LesA [.str p] [.str p]), (CallOK Tryd.prog 14 [.str p] (.tup [.str x3.1, .int .i64 x3.2]) true)] (by kernel_rfl) (.cons (LesA.rfl' _) (.cons (c14 hx3) .nil)) (Sub.refl _)) ?_
    obtain ⟨x4, hx4, h⟩ := bind_some h
    refine x_rg (st2 := { tm := [(0, .pv (.str p)), (3, .pv (.str x3.1)), (4, .pv (.int .i64 x3.2)), (5, .pv (.str x4.1)), (6, .pv (.int .i64 x4.2))], hp := [], nx := 0 }) (RegTo.mk [(.n, .e), (.n, (.call [.str p] (.tup [.str x4.1, .int .i64 x4.2]) true)), (.n, .e), (.n, .e), (.n, .e), (.n, .e), (.n, .e)] ({ tm := [(0, .pv (.str p)), (3, .pv (.str x3.1)), (4, .pv (.int .i64 x3.2)), (5, .pv (.str x4.1)), (6, .pv (.int .i64 x4.2))], hp := [], nx := 0 }) [(LesA [.str p] [.str p]), (CallOK Tryd.prog 15 [.str p] (.tup [.str x4.1, .int .i64 x4.2]) true)] (by kernel_rfl) (.cons (LesA.rfl' _) (.cons (c15 hx4) .nil)) (Sub.refl _)) ?_
    obtain ⟨x5, hx5, h⟩ := bind_some h
    refine x_rg (st2 := { tm := [(0, .pv (.str p)), (3, .pv (.str x3.1)), (4, .pv (.int .i64 x3.2)), (5, .pv (.str x4.1)), (6, .pv (.int .i64 x4.2)), (7, .osl 0 0 (List.map PV.str x5.1).length), (8, .pv (.int .i64 x5.2))], hp := [(0, some (.p none (List.map PV.str x5.1)))], nx := 1 }) (RegTo.mk [(.n, .e), (.n, (.call [.str p] (.tup [.usl none (List.map PV.str x5.1), .int .i64 x5.2]) true)), (.n, .e), (.n, .e), (.n, .e), (.n, .e), (.n, .e)] ({ tm := [(0, .pv (.str p)), (3, .pv (.str x3.1)), (4, .pv (.int .i64 x3.2)), (5, .pv (.str x4.1)), (6, .pv (.int .i64 x4.2)), (7, .osl 0 0 (List.map PV.str x5.1).length), (8, .pv (.int .i64 x5.2))], hp := [(0, some (.p none (List.map PV.str x5.1)))], nx := 1 }) [(LesA [.str p] [.str p]), (CallOK Tryd.prog 16 [.str p] (.tup [.usl none (List.map PV.str x5.1), .int .i64 x5.2]) true)] (by kernel_rfl) (.cons (LesA.rfl' _) (.cons (c16 hx5) .nil)) (Sub.refl _)) ?_
    obtain ⟨x6, hx6, h⟩ := bind_some h
    refine x_rg (st2 := { tm := [(3, .pv (.str x3.1)), (4, .pv (.int .i64 x3.2)), (5, .pv (.str x4.1)), (6, .pv (.int .i64 x4.2)), (7, .osl 0 0 (List.map PV.str x5.1).length), (8, .pv (.int .i64 x5.2)), (9, .osl 1 0 (List.map PV.str x6.1).length), (10, .pv (.int .i64 x6.2))], hp := [(0, some (.p none (List.map PV.str x5.1))), (1, some (.p none (List.map PV.str x6.1)))], nx := 2 }) (RegTo.mk [(.n, .e), (.n, (.call [.str p] (.tup [.usl none (List.map PV.str x6.1), .int .i64 x6.2]) true)), (.n, .e), (.n, .e), (.n, .e), (.n, .e), (.n, .e)] ({ tm := [(3, .pv (.str x3.1)), (4, .pv (.int .i64 x3.2)), (5, .pv (.str x4.1)), (6, .pv (.int .i64 x4.2)), (7, .osl 0 0 (List.map PV.str x5.1).length), (8, .pv (.int .i64 x5.2)), (9, .osl 1 0 (List.map PV.str x6.1).length), (10, .pv (.int .i64 x6.2))], hp := [(0, some (.p none (List.map PV.str x5.1))), (1, some (.p none (List.map PV.str x6.1)))], nx := 2 }) [(LesA [.str p] [.str p]), (CallOK Tryd.prog 17 [.str p] (.tup [.usl none (List.map PV.str x6.1), .int .i64 x6.2]) true)] (by kernel_rfl) (.cons (LesA.rfl' _) (.cons (c17 hx6) .nil)) (Sub.refl _)) ?_
    obtain ⟨t13, ht, h⟩ := bind_some h
    refine x_rg (st2 := { tm := [(2, .pv (.bool t13))], hp := [], nx := 0 }) ?_ ?_
    · rcases Bool.eq_false_or_eq_true (decide (x3.1 = x4.1)) with hg7 | hg7
      · replace ht := ite_t ht hg7
        rcases Bool.eq_false_or_eq_true (decide (x3.2 = x4.2)) with hg8 | hg8
        · replace ht := ite_t ht hg8
          obtain ⟨x9, hx9, ht⟩ := bind_some ht
          rcases Bool.eq_false_or_eq_true x9 with hg10 | hg10
          · replace ht := ite_t ht hg10
            rcases Bool.eq_false_or_eq_true (decide (x5.2 = x6.2)) with hg11 | hg11
            · replace ht := ite_t ht hg11
              obtain ⟨x12, hx12, ht⟩ := bind_some ht
              have e := Option.some.inj ht
              subst e
              exact RegTo.mk [(.n, .e), (.n, .e), (.n, .e), (.n, .e), (.y, .e), (.y, .e), (.y, .e), (.n, (.pk true)), (.n, .e), (.y, .e), (.y, .e), (.y, (.call [.sl none (List.map PV.str x5.1), .sl none (List.map PV.str x6.1)] (.bool x9) true)), (.n, (.pk true)), (.n, .e), (.y, .e), (.y, .e), (.y, .e), (.n, (.pk true)), (.n, .e), (.y, (.call [] (.bool x12) true)), (.n, (.pk true)), (.n, .e)] ({ tm := [(2, .pv (.bool x12))], hp := [], nx := 0 }) [((decide (x3.1 = x4.1)) = true), ((decide (x3.1 = x4.1)) = true), ((decide (x3.1 = x4.1)) = true), ((decide (x3.1 = x4.1)) = true), ((decide (x3.2 = x4.2)) = true), ((decide (x3.2 = x4.2)) = true), ((decide (x3.2 = x4.2)) = true), (LesA [.sl none (List.take (List.map PV.str x5.1).length (List.drop 0 (List.map PV.str x5.1))), .sl none (List.take (List.map PV.str x6.1).length (List.drop 0 (List.map PV.str x6.1)))] [.sl none (List.map PV.str x5.1), .sl none (List.map PV.str x6.1)]), (CallOK Tryd.prog 18 [.sl none (List.map PV.str x5.1), .sl none (List.map PV.str x6.1)] (.bool x9) true), (0 + (List.map PV.str x5.1).length ≤ List.length (List.map PV.str x5.1)), (0 + (List.map PV.str x6.1).length ≤ List.length (List.map PV.str x6.1)), ((decide (x3.2 = x4.2)) = true), (x9 = true), (x9 = true), (x9 = true), (x9 = true), ((decide (x5.2 = x6.2)) = true), (LesA [] []), (CallOK Tryd.prog 11 [] (.bool x12) true), ((decide (x5.2 = x6.2)) = true)] (by kernel_rfl) (.cons hg7 (.cons hg7 (.cons hg7 (.cons hg7 (.cons hg8 (.cons hg8 (.cons hg8 (.cons (.cons (.of_eq (by rw [List.drop_zero, List.take_length])) (.cons (.of_eq (by rw [List.drop_zero, List.take_length])) .nil)) (.cons (c18 hx9) (.cons (by simp) (.cons (by simp) (.cons hg8 (.cons hg10 (.cons hg10 (.cons hg10 (.cons hg10 (.cons hg11 (.cons (LesA.rfl' _) (.cons (c11 hx12) (.cons hg11 .nil)))))))))))))))))))) (Sub.refl _)
            · replace ht := ite_f ht hg11
              have e := Option.some.inj ht
              subst e
              exact RegTo.mk [(.n, .e), (.n, .e), (.n, .e), (.n, .e), (.y, .e), (.y, .e), (.y, .e), (.n, (.pk true)), (.n, .e), (.y, .e), (.y, .e), (.y, (.call [.sl none (List.map PV.str x5.1), .sl none (List.map PV.str x6.1)] (.bool x9) true)), (.n, (.pk true)), (.n, .e), (.y, .e), (.y, .e), (.y, .e), (.n, (.pk true)), (.n, .e), (.s, .e), (.n, (.pk false)), (.n, .e)] ({ tm := [(2, .pv (.bool false))], hp := [], nx := 0 }) [((decide (x3.1 = x4.1)) = true), ((decide (x3.1 = x4.1)) = true), ((decide (x3.1 = x4.1)) = true), ((decide (x3.1 = x4.1)) = true), ((decide (x3.2 = x4.2)) = true), ((decide (x3.2 = x4.2)) = true), ((decide (x3.2 = x4.2)) = true), (LesA [.sl none (List.take (List.map PV.str x5.1).length (List.drop 0 (List.map PV.str x5.1))), .sl none (List.take (List.map PV.str x6.1).length (List.drop 0 (List.map PV.str x6.1)))] [.sl none (List.map PV.str x5.1), .sl none (List.map PV.str x6.1)]), (CallOK Tryd.prog 18 [.sl none (List.map PV.str x5.1), .sl none (List.map PV.str x6.1)] (.bool x9) true), (0 + (List.map PV.str x5.1).length ≤ List.length (List.map PV.str x5.1)), (0 + (List.map PV.str x6.1).length ≤ List.length (List.map PV.str x6.1)), ((decide (x3.2 = x4.2)) = true), (x9 = true), (x9 = true), (x9 = true), (x9 = true), ((decide (x5.2 = x6.2)) = false), ((decide (x5.2 = x6.2)) = false)] (by kernel_rfl) (.cons hg7 (.cons hg7 (.cons hg7 (.cons hg7 (.cons hg8 (.cons hg8 (.cons hg8 (.cons (.cons (.of_eq (by rw [List.drop_zero, List.take_length])) (.cons (.of_eq (by rw [List.drop_zero, List.take_length])) .nil)) (.cons (c18 hx9) (.cons (by simp) (.cons (by simp) (.cons hg8 (.cons hg10 (.cons hg10 (.cons hg10 (.cons hg10 (.cons hg11 (.cons hg11 .nil)))))))))))))))))) (Sub.refl _)
          · replace ht := ite_f ht hg10
            have e := Option.some.inj ht
            subst e
            exact RegTo.mk [(.n, .e), (.n, .e), (.n, .e), (.n, .e), (.y, .e), (.y, .e), (.y, .e), (.n, (.pk true)), (.n, .e), (.y, .e), (.y, .e), (.y, (.call [.sl none (List.map PV.str x5.1), .sl none (List.map PV.str x6.1)] (.bool x9) true)), (.n, (.pk true)), (.n, .e), (.s, .e), (.s, .e), (.s, .e), (.n, (.pk false)), (.n, .e), (.s, .e), (.n, .e), (.n, .e)] ({ tm := [(2, .pv (.bool false))], hp := [], nx := 0 }) [((decide (x3.1 = x4.1)) = true), ((decide (x3.1 = x4.1)) = true), ((decide (x3.1 = x4.1)) = true), ((decide (x3.1 = x4.1)) = true), ((decide (x3.2 = x4.2)) = true), ((decide (x3.2 = x4.2)) = true), ((decide (x3.2 = x4.2)) = true), (LesA [.sl none (List.take (List.map PV.str x5.1).length (List.drop 0 (List.map PV.str x5.1))), .sl none (List.take (List.map PV.str x6.1).length (List.drop 0 (List.map PV.str x6.1)))] [.sl none (List.map PV.str x5.1), .sl none (List.map PV.str x6.1)]), (CallOK Tryd.prog 18 [.sl none (List.map PV.str x5.1), .sl none (List.map PV.str x6.1)] (.bool x9) true), (0 + (List.map PV.str x5.1).length ≤ List.length (List.map PV.str x5.1)), (0 + (List.map PV.str x6.1).length ≤ List.length (List.map PV.str x6.1)), ((decide (x3.2 = x4.2)) = true), (x9 = false), (x9 = false), (x9 = false), (x9 = false), (false = false)] (by kernel_rfl) (.cons hg7 (.cons hg7 (.cons hg7 (.cons hg7 (.cons hg8 (.cons hg8 (.cons hg8 (.cons (.cons (.of_eq (by rw [List.drop_zero, List.take_length])) (.cons (.of_eq (by rw [List.drop_zero, List.take_length])) .nil)) (.cons (c18 hx9) (.cons (by simp) (.cons (by simp) (.cons hg8 (.cons hg10 (.cons hg10 (.cons hg10 (.cons hg10 (.cons rfl .nil))))))))))))))))) (Sub.refl _)
        · replace ht := ite_f ht hg8
          have e := Option.some.inj ht
          subst e
          exact RegTo.mk [(.n, .e), (.n, .e), (.n, .e), (.n, .e), (.y, .e), (.y, .e), (.y, .e), (.n, (.pk true)), (.n, .e), (.s, .e), (.s, .e), (.s, .e), (.n, (.pk false)), (.n, .e), (.s, .e), (.s, .e), (.s, .e), (.n, .e), (.n, .e), (.s, .e), (.n, .e), (.n, .e)] ({ tm := [(2, .pv (.bool false))], hp := [], nx := 0 }) [((decide (x3.1 = x4.1)) = true), ((decide (x3.1 = x4.1)) = true), ((decide (x3.1 = x4.1)) = true), ((decide (x3.1 = x4.1)) = true), ((decide (x3.2 = x4.2)) = false), ((decide (x3.2 = x4.2)) = false), ((decide (x3.2 = x4.2)) = false), ((decide (x3.2 = x4.2)) = false), (false = false), (false = false), (false = false), (false = false)] (by kernel_rfl) (.cons hg7 (.cons hg7 (.cons hg7 (.cons hg7 (.cons hg8 (.cons hg8 (.cons hg8 (.cons hg8 (.cons rfl (.cons rfl (.cons rfl (.cons rfl .nil)))))))))))) (Sub.refl _)
      · replace ht := ite_f ht hg7
        have e := Option.some.inj ht
        subst e
        exact RegTo.mk [(.n, .e), (.n, .e), (.n, .e), (.n, .e), (.s, .e), (.s, .e), (.s, .e), (.n, (.pk false)), (.n, .e), (.s, .e), (.s, .e), (.s, .e), (.n, .e), (.n, .e), (.s, .e), (.s, .e), (.s, .e), (.n, .e), (.n, .e), (.s, .e), (.n, .e), (.n, .e)] ({ tm := [(2, .pv (.bool false))], hp := [], nx := 0 }) [((decide (x3.1 = x4.1)) = false), ((decide (x3.1 = x4.1)) = false), ((decide (x3.1 = x4.1)) = false), ((decide (x3.1 = x4.1)) = false), (false = false), (false = false), (false = false), (false = false), (false = false), (false = false), (false = false)] (by kernel_rfl) (.cons hg7 (.cons hg7 (.cons hg7 (.cons hg7 (.cons rfl (.cons rfl (.cons rfl (.cons rfl (.cons rfl (.cons rfl (.cons rfl .nil))))))))))) (Sub.refl _)
    · clear ht
      refine x_toret ?_
      obtain rfl := Option.some.inj h
      exact x_ret (.bool t13) [] [] (by kernel_rfl) .nil (by decide) (.refl _) (fun _ => rfl)

theorem c20 {dir : Str} {p : Str} {r : (Str × Int)} (h : ref03_Join dir p = some r) : CallOK Tryd.prog 20 [.str dir, .str p] (.tup [.str r.1, .int .i64 r.2]) true := by
  apply ok20
  unfold ref03_Join at h
  refine x_rg (st2 := { tm := [(0, .pv (.str dir)), (1, .pv (.str p))], hp := [], nx := 0 }) (RegTo.mk [(.n, .e), (.n, .e)] ({ tm := [(0, .pv (.str dir)), (1, .pv (.str p))], hp := [], nx := 0 }) [] (by kernel_rfl) .nil (Sub.refl _)) ?_
  refine x_seq ?_
  obtain ⟨x1, hx1, h⟩ := bind_some h
  refine x_rg (st2 := { tm := [(0, .pv (.str dir)), (1, .pv (.str p)), (11, .pv (.bool (x1 || (decide (dir = [])))))], hp := [], nx := 0 }) ?_ ?_
  · rcases Bool.eq_false_or_eq_true x1 with hg2 | hg2
    · exact RegTo.mk [(.n, .e), (.n, (.call [.str p] (.bool x1) true)), (.n, .e), (.s, .e), (.s, .e), (.n, (.pk true))] ({ tm := [(0, .pv (.str dir)), (1, .pv (.str p)), (11, .pv (.bool true))], hp := [], nx := 0 }) [(LesA [.str p] [.str p]), (CallOK Tryd.prog 24 [.str p] (.bool x1) true), (x1 = true), (x1 = true), (x1 = true)] (by kernel_rfl) (.cons (LesA.rfl' _) (.cons (c24 hx1) (.cons hg2 (.cons hg2 (.cons hg2 .nil))))) (.of_eq (by simp only [hg2, Bool.true_or, Bool.false_or, Bool.true_and, Bool.false_and, Bool.or_true, Bool.or_false, Bool.and_true, Bool.and_false, Bool.false_eq_true, if_true, if_false, reduceIte]))
    · exact RegTo.mk [(.n, .e), (.n, (.call [.str p] (.bool x1) true)), (.n, .e), (.y, .e), (.y, .e), (.n, (.pk false))] ({ tm := [(0, .pv (.str dir)), (1, .pv (.str p)), (11, .pv (.bool (decide (dir = []))))], hp := [], nx := 0 }) [(LesA [.str p] [.str p]), (CallOK Tryd.prog 24 [.str p] (.bool x1) true), (x1 = false), (x1 = false), (x1 = false)] (by kernel_rfl) (.cons (LesA.rfl' _) (.cons (c24 hx1) (.cons hg2 (.cons hg2 (.cons hg2 .nil))))) (.of_eq (by simp only [hg2, Bool.true_or, Bool.false_or, Bool.true_and, Bool.false_and, Bool.or_true, Bool.or_false, Bool.and_true, Bool.and_false, Bool.false_eq_true, if_true, if_false, reduceIte]))
  · refine x_cond _ rfl (fun hc4 => ?_) (fun hc4 => ?_)
    · replace h := ite_t h hc4
      obtain ⟨x5, hx5, h⟩ := bind_some h
      refine x_rg (st2 := { tm := [(4, .pv (.str x5.1)), (5, .pv (.int .i64 x5.2))], hp := [], nx := 0 }) (RegTo.mk [(.n, .e), (.n, (.call [.str p] (.tup [.str x5.1, .int .i64 x5.2]) true)), (.n, .e), (.n, .e), (.n, .e), (.n, .e)] ({ tm := [(4, .pv (.str x5.1)), (5, .pv (.int .i64 x5.2))], hp := [], nx := 0 }) [(LesA [.str p] [.str p]), (CallOK Tryd.prog 15 [.str p] (.tup [.str x5.1, .int .i64 x5.2]) true)] (by kernel_rfl) (.cons (LesA.rfl' _) (.cons (c15 hx5) .nil)) (Sub.refl _)) ?_
      refine x_toret ?_
      refine x_tr ?_
      obtain rfl := Option.some.inj h
      exact x_ret (.tup [.str x5.1, .int .i64 x5.2]) [] [] (by kernel_rfl) .nil (by decide) (.tup (.cons (.refl _) (.cons (.refl _) .nil))) (fun _ => rfl)
    · replace h := ite_f h hc4
      refine x_kw (st2 := { tm := [(0, .pv (.str dir)), (1, .pv (.str p))], hp := [], nx := 0 }) ({ tm := [(0, .pv (.str dir)), (1, .pv (.str p))], hp := [], nx := 0 }) (by kernel_rfl) (Sub.refl _) ?_
      refine x_skip ?_
      refine x_tn ?_
      obtain ⟨x6, hx6, h⟩ := bind_some h
      obtain ⟨x7, hx7, h⟩ := bind_some h
      obtain ⟨x8, hx8, h⟩ := bind_some h
      refine x_rg (st2 := { tm := [(4, .pv (.str x8.1)), (5, .pv (.int .i64 x8.2))], hp := [], nx := 0 }) (RegTo.mk [(.n, .e), (.n, (.cat x6)), (.n, .e), (.n, (.cat x7)), (.n, (.call [.str x7] (.tup [.str x8.1, .int .i64 x8.2]) true)), (.n, .e), (.n, .e), (.n, .e), (.n, .e)] ({ tm := [(4, .pv (.str x8.1)), (5, .pv (.int .i64 x8.2))], hp := [], nx := 0 }) [(catS dir [47] = some x6), (catS x6 p = some x7), (LesA [.str x7] [.str x7]), (CallOK Tryd.prog 15 [.str x7] (.tup [.str x8.1, .int .i64 x8.2]) true)] (by kernel_rfl) (.cons hx6 (.cons hx7 (.cons (LesA.rfl' _) (.cons (c15 hx8) .nil)))) (Sub.refl _)) ?_
      refine x_toret ?_
      obtain rfl := Option.some.inj h
      exact x_ret (.tup [.str x8.1, .int .i64 x8.2]) [] [] (by kernel_rfl) .nil (by decide) (.tup (.cons (.refl _) (.cons (.refl _) .nil))) (fun _ => rfl)

end Go.Proofs.YtheeafnmkboblaaDoor
