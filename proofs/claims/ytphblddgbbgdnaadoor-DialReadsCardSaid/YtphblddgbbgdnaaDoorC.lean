/- The functions of the program compute what their plain forms compute; printed by a program of the claim's author. -/
import Derived.Test.YtphblddgbbgdnaaDoorV
import Derived.Test.YtphblddgbbgdnaaDoorS
import Derived.Test.YtphblddgbbgdnaaDoorShelf
import Derived.Test.YtphblddgbbgdnaaDoorVmB
import Derived.Test.YtphblddgbbgdnaaDoorB
namespace Go.Proofs.YtphblddgbbgdnaaDoor
open Go.Vm
set_option autoImplicit false
set_option linter.unusedVariables false
set_option linter.unusedSimpArgs false
set_option maxRecDepth 100000

theorem c114 {s_ : Str} {suffix : Str} {r : Bool} (h : stringslite_HasSuffix s_ suffix = some r) : CallOK Tryd.prog 114 [.str s_, .str suffix] (.bool r) true := by
  apply ok114
  unfold stringslite_HasSuffix at h
  refine x_rg (rgn [hE] (⟨[(0, pS s_), (1, pS suffix)], [], 0⟩)) ?_
  obtain ⟨t3, ht, h⟩ := bind_some h
  refine x_rg (st2 := ⟨[(4, pB t3)], [], 0⟩) ?_ ?_
  ·rcases Bool.eq_false_or_eq_true (decide ((List.length suffix : Int) ≤ (List.length s_ : Int))) with hg1 | hg1
   ·replace ht := ite_t ht hg1
    obtain ⟨x2, hx2, ht⟩ := bind_some ht
    have e := Option.some.inj ht
    subst e
    exact rg0 [hE, hE, hE, hE, hE, hE, hY, hY, hY, hY, hY, hY, (.y, (.cutS x2)), hY, hY, hN (.pk true), hE] (⟨[(4, pB (decide (x2 = suffix)))], [], 0⟩) (.cons hg1 (.cons hg1 (.cons hg1 (.cons hg1 (.cons hg1 (.cons hg1 (.cons hg1 (.cons hx2 (.cons hg1 (.cons hg1 (.cons hg1 .nil)))))))))))
   ·replace ht := ite_f ht hg1
    have e := Option.some.inj ht
    subst e
    exact rg0 [hE, hE, hE, hE, hE, hE, hS, hS, hS, hS, hS, hS, hS, hS, hS, hN (.pk false), hE] (⟨[(4, pB false)], [], 0⟩) (.cons hg1 (.cons hg1 (.cons hg1 (.cons hg1 (.cons hg1 (.cons hg1 (.cons hg1 (.cons hg1 (.cons hg1 (.cons hg1 .nil))))))))))
  ·clear ht
   refine x_toret ?_
   obtain rfl := Option.some.inj h
   exact ret0 (.bool t3) (.refl _) (fun _ => rfl)

theorem c92 {s_ : Str} {suffix : Str} {r : Str} (h : stringslite_TrimSuffix s_ suffix = some r) : CallOK Tryd.prog 92 [.str s_, .str suffix] (.str r) true := by
  apply ok92
  unfold stringslite_TrimSuffix at h
  refine x_rg (rgn [hE] (⟨[(0, pS s_), (1, pS suffix)], [], 0⟩)) ?_
  refine x_seq ?_
  obtain ⟨x1, hx1, h⟩ := bind_some h
  refine x_rg (rg0 [hE, hE, hN (.cal [] (.bool x1) true)] (⟨[(0, pS s_), (1, pS suffix), (7, pB x1)], [], 0⟩) (.cons (c114 hx1) .nil)) ?_
  refine x_cond _ rfl (fun hc2 => ?_) (fun hc2 => ?_)
  ·replace h := ite_t h hc2
   obtain ⟨x3, hx3, h⟩ := bind_some h
   refine x_rg (rg0 [hE, hE, hE, hE, hE, hE, hN (.cutS x3), hE] (⟨[(4, pS x3)], [], 0⟩) (.cons hx3 .nil)) ?_
   refine x_toret ?_
   refine x_tr ?_
   obtain rfl := Option.some.inj h
   exact ret0 (.str x3) (.refl _) (fun _ => rfl)
  ·replace h := ite_f h hc2
   refine kw0 (⟨[(0, pS s_)], [], 0⟩) ?_
   refine x_skip ?_
   refine x_tn ?_
   refine x_rg (rgn [hE, hE] (⟨[(4, pS s_)], [], 0⟩)) ?_
   refine x_toret ?_
   obtain rfl := Option.some.inj h
   exact ret0 (.str s_) (.refl _) (fun _ => rfl)

theorem c66 {s_ : Str} {suffix : Str} {r : Str} (h : strings_TrimSuffix s_ suffix = some r) : CallOK Tryd.prog 66 [.str s_, .str suffix] (.str r) true := by
  apply ok66
  unfold strings_TrimSuffix at h
  refine x_rg (rgn [hE] (⟨[(0, pS s_), (1, pS suffix)], [], 0⟩)) ?_
  obtain ⟨x1, hx1, h⟩ := bind_some h
  refine x_rg (rg0 [hE, hE, hN (.cal [] (.str x1) true), hE] (⟨[(4, pS x1)], [], 0⟩) (.cons (c92 hx1) .nil)) ?_
  refine x_toret ?_
  obtain rfl := Option.some.inj h
  exact ret0 (.str x1) (.refl _) (fun _ => rfl)

theorem c109 {s_ : Str} {r : Int} (h : unicode_utf8_RuneCountInString s_ = some r) : CallOK Tryd.prog 109 [.str s_] (.int .i64 r) true := by
  apply ok109
  unfold unicode_utf8_RuneCountInString at h
  refine x_rg (rgn [hE] (⟨[(0, pS s_), (2, pI 0)], [], 0⟩)) ?_
  refine x_seq ?_
  cases h

theorem c124 {s_ : Str} {r : (Int × Int)} (h : unicode_utf8_decodeRuneInStringSlow s_ = some r) : CallOK Tryd.prog 124 [.str s_] (.tup [.int .i32 r.1, .int .i64 r.2]) true := by
  apply ok124
  unfold unicode_utf8_decodeRuneInStringSlow at h
  refine x_rg (rgn [hE, hE] (⟨[(0, pS s_)], [], 0⟩)) ?_
  refine x_rg (rgn [hE, hE, hE] (⟨[(0, pS s_), (4, pI (List.length s_ : Int))], [], 0⟩)) ?_
  refine x_seq ?_
  refine x_rg (rgn [hE, hE] (⟨[(0, pS s_), (4, pI (List.length s_ : Int)), (16, pB (decide ((List.length s_ : Int) < 1)))], [], 0⟩)) ?_
  refine x_cond _ rfl (fun hc1 => ?_) (fun hc1 => ?_)
  ·replace h := ite_t h hc1
   refine x_rg (rgn [hE, hE] (⟨[(2, .pv (.int .i32 65533)), (3, pI 0)], [], 0⟩)) ?_
   refine x_toret ?_
   refine x_tr ?_
   obtain rfl := Option.some.inj h
   exact ret0 (.tup [.int .i32 65533, .int .i64 0]) (.tup (.cons (.refl _) (.cons (.refl _) .nil))) (fun _ => rfl)
  ·replace h := ite_f h hc1
   refine kw0 (⟨[(0, pS s_), (4, pI (List.length s_ : Int))], [], 0⟩) ?_
   refine x_skip ?_
   refine x_tn ?_
   obtain ⟨c2, hc2, h⟩ := bind_some h
   refine x_rg (rg0 [hE, hN (.sAt c2), hE] (⟨[(0, pS s_), (4, pI (List.length s_ : Int)), (5, .pv (.int .u8 (c2.toNat : Int)))], [], 0⟩) (.cons hc2 .nil)) ?_
   cases h

theorem c110 {s_ : Str} {r : (Int × Int)} (h : unicode_utf8_DecodeRuneInString s_ = some r) : CallOK Tryd.prog 110 [.str s_] (.tup [.int .i32 r.1, .int .i64 r.2]) true := by
  apply ok110
  unfold unicode_utf8_DecodeRuneInString at h
  refine x_rg (rgn [hE, hE] (⟨[(0, pS s_)], [], 0⟩)) ?_
  refine x_seq ?_
  obtain ⟨t3, ht, h⟩ := bind_some h
  refine x_rg (st2 := ⟨[(0, pS s_), (10, pB t3)], [], 0⟩) ?_ ?_
  ·rcases Bool.eq_false_or_eq_true (!decide (s_ = [])) with hg1 | hg1
   ·replace ht := ite_t ht hg1
    obtain ⟨c2, hc2, ht⟩ := bind_some ht
    have e := Option.some.inj ht
    subst e
    exact rg0 [hE, hE, hE, hY, (.y, (.sAt c2)), hY, hN (.pk true)] (⟨[(0, pS s_), (10, pB (decide ((c2.toNat : Int) < 128)))], [], 0⟩) (.cons hg1 (.cons hg1 (.cons hc2 (.cons hg1 (.cons hg1 .nil)))))
   ·replace ht := ite_f ht hg1
    have e := Option.some.inj ht
    subst e
    exact rg0 [hE, hE, hE, hS, hS, hS, hN (.pk false)] (⟨[(0, pS s_), (10, pB false)], [], 0⟩) (.cons hg1 (.cons hg1 (.cons hg1 (.cons hg1 .nil))))
  ·clear ht
   refine x_cond _ rfl (fun hc4 => ?_) (fun hc4 => ?_)
   ·replace h := ite_t h hc4
    obtain ⟨c5, hc5, h⟩ := bind_some h
    refine x_rg (rg0 [hE, hN (.sAt c5), hE, hE, hE] (⟨[(2, .pv (.int .i32 (IntKind.wrap .i32 (c5.toNat : Int)))), (3, pI 1)], [], 0⟩) (.cons hc5 .nil)) ?_
    refine x_toret ?_
    refine x_tr ?_
    obtain rfl := Option.some.inj h
    exact ret0 (.tup [.int .i32 (IntKind.wrap .i32 (c5.toNat : Int)), .int .i64 1]) (.tup (.cons (.refl _) (.cons (.refl _) .nil))) (fun _ => rfl)
   ·replace h := ite_f h hc4
    obtain ⟨x6, hx6, h⟩ := bind_some h
    refine x_rgt (rg0 [hE, hN (.cal [] (.tup [.int .i32 x6.1, .int .i64 x6.2]) true), hE, hE, hE, hE, hE] (⟨[(2, .pv (.int .i32 x6.1)), (3, pI x6.2)], [], 0⟩) (.cons (c124 hx6) .nil)) ?_
    refine x_tn ?_
    refine x_toret ?_
    obtain rfl := Option.some.inj h
    exact ret0 (.tup [.int .i32 x6.1, .int .i64 x6.2]) (.tup (.cons (.refl _) (.cons (.refl _) .nil))) (fun _ => rfl)

theorem c88 {s_ : Str} {n : Int} {r : (List Str)} (h : strings_explode s_ n = some r) : CallOK Tryd.prog 88 [.str s_, .int .i64 n] (.usl none (List.map PV.str r)) true := by
  apply ok88
  unfold strings_explode at h
  refine x_rg (rgn [hE] (⟨[(0, pS s_), (1, pI n)], [], 0⟩)) ?_
  obtain ⟨x1, hx1, h⟩ := bind_some h
  refine x_rg (rg0 [hE, hN (.cal [] (.int .i64 x1) true), hE] (⟨[(0, pS s_), (1, pI n), (5, pI x1)], [], 0⟩) (.cons (c109 hx1) .nil)) ?_
  refine x_join (τ := Int) (fun t => strings_explode_K2 s_ t = some r) (fun t => { tm := [(0, .pv (.str s_)), (1, .pv (.int .i64 t))], hp := [], nx := 0 }) ?_ ?_
  ·rintro p3 h
   replace h : strings_explode_K2 s_ p3 = some r := h
   unfold strings_explode_K2 at h
   obtain ⟨x4, hx4, h⟩ := bind_some h
   refine x_rg (rg0 (obs := [(mkC 16 (.str []) p3 p3 = some (List.map PV.str x4))]) [hE, hN (.mk (List.map PV.str x4)), hE] (⟨[(0, pS s_), (1, pI p3), (6, oL 0 PV.str x4)], [(0, rL none PV.str x4)], 1⟩) (.cons (mkC_map (f := PV.str) hx4) .nil)) ?_
   refine x_seq ?_
   refine x_rg (rgn [hE] (⟨[(0, pS s_), (1, pI p3), (6, oL 0 PV.str x4), (7, pI 0)], [(0, rL none PV.str x4)], 1⟩)) ?_
   refine x_block ?_
   refine kw0 (⟨[(0, pS s_), (1, pI p3), (6, oL 0 PV.str x4), (7, pI 0)], [(0, rL none PV.str x4)], 1⟩) ?_
   refine x_loop (σ := (Str × Int × (List Str))) h (fun s => ⟨[(0, pS s.1), (1, pI p3), (6, oL 0 PV.str s.2.2), (7, pI s.2.1)], [(0, rL none PV.str s.2.2)], 1⟩) (by kernel_rfl) ?_ ?_
   ·rintro ⟨s__1, i, a⟩
    kernel_rfl
   ·rintro ⟨s__1, i, a⟩ x13 h hx13
    replace h : strings_explode_L13 p3 s__1 i a = some x13 := h
    unfold strings_explode_L13 at h
    refine x_seq ?_
    refine x_rg (rgn [hE, hE, hE, hE] (⟨[(0, pS s__1), (1, pI p3), (6, oL 0 PV.str a), (7, pI i), (25, pB (decide (i < (IntKind.wrap .i64 (p3 - 1)))))], [(0, rL none PV.str a)], 1⟩)) ?_
    refine x_cond _ rfl (fun hc14 => ?_) (fun hc14 => ?_)
    ·replace h := ite_t h hc14
     refine kw0 (⟨[(0, pS s__1), (1, pI p3), (6, oL 0 PV.str a), (7, pI i)], [(0, rL none PV.str a)], 1⟩) ?_
     refine x_skip ?_
     refine x_tn ?_
     refine x_seq ?_
     refine x_block ?_
     obtain ⟨x15, hx15, h⟩ := bind_some h
     refine x_rg (rg0 [hE, hN (.cal [] (.tup [.int .i32 x15.1, .int .i64 x15.2]) true), hE, hE, hE, hE, hE] (⟨[(0, pS s__1), (1, pI p3), (6, oL 0 PV.str a), (7, pI i), (9, pI x15.2)], [(0, rL none PV.str a)], 1⟩) (.cons (c110 hx15) .nil)) ?_
     obtain ⟨x16, hx16, h⟩ := bind_some h
     obtain ⟨x17, hx17, h⟩ := bind_some h
     refine x_rg (st2 := { tm := [(0, .pv (.str s__1)), (1, .pv (.int .i64 p3)), (6, .osl 0 0 (List.map PV.str (List.set a (Int.toNat i) x16)).length), (7, .pv (.int .i64 i)), (9, .pv (.int .i64 x15.2))], hp := [(0, some (.p none (List.map PV.str (List.set a (Int.toNat i) x16))))], nx := 1 }) (rg (obs := [(cut s__1 0 x15.2 = some x16), (0 ≤ (i : Int) ∧ Int.toNat i < (List.map PV.str a).length), ((List.map PV.str a)[(0 + Int.toNat i)]? = some (.str x17)), (List.set (List.map PV.str a) (0 + Int.toNat i) (.str x16) = (List.map PV.str (List.set a (Int.toNat i) x16)))]) [hE, hE, hE, hE, hN (.cutS x16), hN .rAt, hN (.set (.str x17) (List.map PV.str (List.set a (Int.toNat i) x16)))] ({ tm := [(0, .pv (.str s__1)), (1, .pv (.int .i64 p3)), (6, .osl 0 0 (List.map PV.str a).length), (7, .pv (.int .i64 i)), (9, .pv (.int .i64 x15.2))], hp := [(0, some (.p none (List.map PV.str (List.set a (Int.toNat i) x16))))], nx := 1 }) (.cons hx16 (.cons (rAt_ob hx17 (by simp)) (.cons (ownAt hx17) (.cons (by rw [Nat.zero_add, List.map_set]; try rfl) .nil)))) (Sub.of_eq (by simp only [List.length_map, List.length_set]))) ?_
     obtain ⟨x18, hx18, h⟩ := bind_some h
     refine x_rgt (rg0 [hE, hE, hN (.cutS x18), hE] (⟨[(0, pS x18), (1, pI p3), (6, oL 0 PV.str (List.set a (Int.toNat i) x16)), (7, pI i)], [(0, rL none PV.str (List.set a (Int.toNat i) x16))], 1⟩) (.cons hx18 .nil)) ?_
     refine x_bn ?_
     refine x_tn ?_
     refine x_rgt (rgn [hE, hE, hE] (⟨[(0, pS x18), (1, pI p3), (6, oL 0 PV.str (List.set a (Int.toNat i) x16)), (7, pI (IntKind.wrap .i64 (i + 1)))], [(0, rL none PV.str (List.set a (Int.toNat i) x16))], 1⟩)) ?_
     refine x_tn ?_
     exact ⟨_, (Option.some.inj h).symm, by kernel_rfl⟩
    ·replace h := ite_f h hc14
     refine kw0 (⟨[(0, pS s__1), (1, pI p3), (6, oL 0 PV.str a)], [(0, rL none PV.str a)], 1⟩) ?_
     refine x_exit ?_
     refine x_te ?_
     refine x_te ?_
     replace h := done_map h hx13
     unfold strings_explode_A21 at h
     refine x_bh ?_
     refine x_tn ?_
     refine x_seq ?_
     refine x_rg (rgn [hE, hE] (⟨[(0, pS s__1), (1, pI p3), (6, oL 0 PV.str a), (43, pB (decide (0 < p3)))], [(0, rL none PV.str a)], 1⟩)) ?_
     refine x_cond _ rfl (fun hc19 => ?_) (fun hc19 => ?_)
     ·replace h := ite_t h hc19
      obtain ⟨x20, hx20, h⟩ := bind_some h
      refine x_rgt (st2 := { tm := [(6, .osl 0 0 (List.map PV.str (List.set a (Int.toNat (IntKind.wrap .i64 (p3 - 1))) s__1)).length)], hp := [(0, some (.p none (List.map PV.str (List.set a (Int.toNat (IntKind.wrap .i64 (p3 - 1))) s__1))))], nx := 1 }) (rg (obs := [(0 ≤ ((IntKind.wrap .i64 (p3 - 1)) : Int) ∧ Int.toNat (IntKind.wrap .i64 (p3 - 1)) < (List.map PV.str a).length), ((List.map PV.str a)[(0 + Int.toNat (IntKind.wrap .i64 (p3 - 1)))]? = some (.str x20)), (List.set (List.map PV.str a) (0 + Int.toNat (IntKind.wrap .i64 (p3 - 1))) (.str s__1) = (List.map PV.str (List.set a (Int.toNat (IntKind.wrap .i64 (p3 - 1))) s__1)))]) [hE, hE, hE, hE, hN .rAt, hN (.set (.str x20) (List.map PV.str (List.set a (Int.toNat (IntKind.wrap .i64 (p3 - 1))) s__1)))] ({ tm := [(6, .osl 0 0 (List.map PV.str a).length)], hp := [(0, some (.p none (List.map PV.str (List.set a (Int.toNat (IntKind.wrap .i64 (p3 - 1))) s__1))))], nx := 1 }) (.cons (rAt_ob hx20 (by simp)) (.cons (ownAt hx20) (.cons (by rw [Nat.zero_add, List.map_set]; try rfl) .nil))) (Sub.of_eq (by simp only [List.length_map, List.length_set]))) ?_
      refine x_tn ?_
      refine x_rg (rgn [hE, hE] (⟨[(4, oL 0 PV.str (List.set a (Int.toNat (IntKind.wrap .i64 (p3 - 1))) s__1))], [(0, rL none PV.str (List.set a (Int.toNat (IntKind.wrap .i64 (p3 - 1))) s__1))], 1⟩)) ?_
      refine x_toret ?_
      obtain rfl := Option.some.inj h
      exact x_ret (.usl none (List.take (List.map PV.str (List.set a (Int.toNat (IntKind.wrap .i64 (p3 - 1))) s__1)).length (List.map PV.str (List.set a (Int.toNat (IntKind.wrap .i64 (p3 - 1))) s__1)))) [0] [(List.map PV.str (List.set a (Int.toNat (IntKind.wrap .i64 (p3 - 1))) s__1)).length ≤ List.length (List.map PV.str (List.set a (Int.toNat (IntKind.wrap .i64 (p3 - 1))) s__1))] (by kernel_rfl) (.cons (Nat.le_refl _) .nil) (by decide) (.of_eq (by rw [List.take_length])) (fun _ => (usl_ns (sh := none) (fun _ => rfl)))
     ·replace h := ite_f h hc19
      refine kw0 (⟨[(6, oL 0 PV.str a)], [(0, rL none PV.str a)], 1⟩) ?_
      refine x_skip ?_
      refine x_tn ?_
      refine x_rg (rgn [hE, hE] (⟨[(4, oL 0 PV.str a)], [(0, rL none PV.str a)], 1⟩)) ?_
      refine x_toret ?_
      obtain rfl := Option.some.inj h
      exact x_ret (.usl none (List.take (List.map PV.str a).length (List.map PV.str a))) [0] [(List.map PV.str a).length ≤ List.length (List.map PV.str a)] (by kernel_rfl) (.cons (Nat.le_refl _) .nil) (by decide) (.of_eq (by rw [List.take_length])) (fun _ => (usl_ns (sh := none) (fun _ => rfl)))
  ·refine x_rg (st2 := ⟨[(0, pS s_), (1, pI n), (5, pI x1), (18, pB ((decide (n < 0)) || (decide (x1 < n))))], [], 0⟩) ?_ ?_
   ·rcases Bool.eq_false_or_eq_true (decide (n < 0)) with hg22 | hg22
    ·exact rg [hE, hE, hE, hS, hS, hS, hN (.pk true)] (⟨[(0, pS s_), (1, pI n), (5, pI x1), (18, pB true)], [], 0⟩) (.cons hg22 (.cons hg22 (.cons hg22 (.cons hg22 .nil)))) (.of_eq (by simp only [hg22, bs, reduceIte]))
    ·exact rg [hE, hE, hE, hY, hY, hY, hN (.pk false)] (⟨[(0, pS s_), (1, pI n), (5, pI x1), (18, pB (decide (x1 < n)))], [], 0⟩) (.cons hg22 (.cons hg22 (.cons hg22 (.cons hg22 .nil)))) (.of_eq (by simp only [hg22, bs, reduceIte]))
   ·refine x_cond _ rfl (fun hc24 => ?_) (fun hc24 => ?_)
    ·replace h := ite_t h hc24
     refine x_rgt (rgn [hE, hE] (⟨[(0, pS s_), (1, pI x1)], [], 0⟩)) ?_
     refine x_tn ?_
     exact ⟨x1, h, by kernel_rfl⟩
    ·replace h := ite_f h hc24
     refine kw0 (⟨[(0, pS s_), (1, pI n)], [], 0⟩) ?_
     refine x_skip ?_
     refine x_tn ?_
     exact ⟨n, h, by kernel_rfl⟩

theorem c89 {a0 : Str} {a1 : Str} {r : Int} (h : strings_Count a0 a1 = some r) : CallOK Tryd.prog 89 [.str a0, .str a1] (.int .i64 r) true :=
  ok_count Tryd.func89 (by kernel_rfl) (by kernel_rfl) Tryd.strings_Count_one h

theorem c90 {a0 : Str} {a1 : Str} {r : Int} (h : strings_Index a0 a1 = some r) : CallOK Tryd.prog 90 [.str a0, .str a1] (.int .i64 r) true :=
  ok_index Tryd.func90 (by kernel_rfl) (by kernel_rfl) Tryd.strings_Index_one h

theorem c62 {s_ : Str} {sep : Str} {sepSave : Int} {n : Int} {r : (List Str)} (h : strings_genSplit s_ sep sepSave n = some r) : CallOK Tryd.prog 62 [.str s_, .str sep, .int .i64 sepSave, .int .i64 n] (.usl none (List.map PV.str r)) true := by
  apply ok62
  unfold strings_genSplit at h
  refine x_rg (rgn [hE] (⟨[(0, pS s_), (1, pS sep), (2, pI sepSave), (3, pI n)], [], 0⟩)) ?_
  refine x_seq ?_
  refine x_rg (rgn [hE, hE] (⟨[(0, pS s_), (1, pS sep), (2, pI sepSave), (3, pI n), (13, pB (decide (n = 0)))], [], 0⟩)) ?_
  refine x_cond _ rfl (fun hc1 => ?_) (fun hc1 => ?_)
  ·replace h := ite_t h hc1
   refine x_rg (rgn [hE] (⟨[(8, .pv (.nilsl))], [], 0⟩)) ?_
   refine x_toret ?_
   refine x_tr ?_
   obtain rfl := Option.some.inj h
   exact ret0 (.nilsl) (.nilUsl _) (fun _ => (usl_ns (sh := none) (fun _ => rfl)))
  ·replace h := ite_f h hc1
   refine kw0 (⟨[(0, pS s_), (1, pS sep), (2, pI sepSave), (3, pI n)], [], 0⟩) ?_
   refine x_skip ?_
   refine x_tn ?_
   refine x_seq ?_
   refine x_rg (rgn [hE, hE] (⟨[(0, pS s_), (1, pS sep), (2, pI sepSave), (3, pI n), (15, pB (decide (sep = [])))], [], 0⟩)) ?_
   refine x_cond _ rfl (fun hc2 => ?_) (fun hc2 => ?_)
   ·replace h := ite_t h hc2
    obtain ⟨x3, hx3, h⟩ := bind_some h
    refine x_rg (rg0 [hE, hE, hN (.cal [] (.usl none (List.map PV.str x3)) true), hE] (⟨[(8, oL 0 PV.str x3)], [(0, rL none PV.str x3)], 1⟩) (.cons (c88 hx3) .nil)) ?_
    refine x_toret ?_
    refine x_tr ?_
    obtain rfl := Option.some.inj h
    exact x_ret (.usl none (List.take (List.map PV.str x3).length (List.map PV.str x3))) [0] [(List.map PV.str x3).length ≤ List.length (List.map PV.str x3)] (by kernel_rfl) (.cons (Nat.le_refl _) .nil) (by decide) (.of_eq (by rw [List.take_length])) (fun _ => (usl_ns (sh := none) (fun _ => rfl)))
   ·replace h := ite_f h hc2
    refine kw0 (⟨[(0, pS s_), (1, pS sep), (2, pI sepSave), (3, pI n)], [], 0⟩) ?_
    refine x_skip ?_
    refine x_tn ?_
    refine x_join (τ := Int) (fun t => strings_genSplit_K4 s_ sep sepSave t = some r) (fun t => { tm := [(0, .pv (.str s_)), (1, .pv (.str sep)), (2, .pv (.int .i64 sepSave)), (3, .pv (.int .i64 t))], hp := [], nx := 0 }) ?_ ?_
    ·rintro p5 h
     replace h : strings_genSplit_K4 s_ sep sepSave p5 = some r := h
     unfold strings_genSplit_K4 at h
     refine x_rg (rgn [hE, hE, hE, hE, hE, hE] (⟨[(0, pS s_), (1, pS sep), (2, pI sepSave), (3, pI (min p5 (IntKind.wrap .i64 ((List.length s_ : Int) + 1))))], [], 0⟩)) ?_
     obtain ⟨x6, hx6, h⟩ := bind_some h
     refine x_rg (rg0 (obs := [(mkC 16 (.str []) (min p5 (IntKind.wrap .i64 ((List.length s_ : Int) + 1))) (min p5 (IntKind.wrap .i64 ((List.length s_ : Int) + 1))) = some (List.map PV.str x6))]) [hE, hN (.mk (List.map PV.str x6)), hE] (⟨[(0, pS s_), (1, pS sep), (2, pI sepSave), (3, pI (min p5 (IntKind.wrap .i64 ((List.length s_ : Int) + 1)))), (9, oL 0 PV.str x6)], [(0, rL none PV.str x6)], 1⟩) (.cons (mkC_map (f := PV.str) hx6) .nil)) ?_
     refine x_rg (rgn [hE, hE, hE] (⟨[(0, pS s_), (1, pS sep), (2, pI sepSave), (3, pI (IntKind.wrap .i64 ((min p5 (IntKind.wrap .i64 ((List.length s_ : Int) + 1))) - 1))), (9, oL 0 PV.str x6)], [(0, rL none PV.str x6)], 1⟩)) ?_
     refine x_rg (rgn [hE] (⟨[(0, pS s_), (1, pS sep), (2, pI sepSave), (3, pI (IntKind.wrap .i64 ((min p5 (IntKind.wrap .i64 ((List.length s_ : Int) + 1))) - 1))), (9, oL 0 PV.str x6), (10, pI 0)], [(0, rL none PV.str x6)], 1⟩)) ?_
     refine x_join (τ := (Str × Int × (List Str))) (fun t => strings_genSplit_K7 t.1 t.2.1 t.2.2 = some r) (fun t => { tm := [(0, .pv (.str t.1)), (9, .osl 0 0 (List.map PV.str t.2.2).length), (10, .pv (.int .i64 t.2.1))], hp := [(0, some (.p none (List.map PV.str t.2.2)))], nx := 1 }) ?_ ?_
     ·rintro ⟨p8, p9, p10⟩ h
      replace h : strings_genSplit_K7 p8 p9 p10 = some r := h
      unfold strings_genSplit_K7 at h
      obtain ⟨x11, hx11, h⟩ := bind_some h
      refine x_rg (st2 := { tm := [(9, .osl 0 0 (List.map PV.str (List.set p10 (Int.toNat p9) p8)).length), (10, .pv (.int .i64 p9))], hp := [(0, some (.p none (List.map PV.str (List.set p10 (Int.toNat p9) p8))))], nx := 1 }) (rg (obs := [(0 ≤ (p9 : Int) ∧ Int.toNat p9 < (List.map PV.str p10).length), ((List.map PV.str p10)[(0 + Int.toNat p9)]? = some (.str x11)), (List.set (List.map PV.str p10) (0 + Int.toNat p9) (.str p8) = (List.map PV.str (List.set p10 (Int.toNat p9) p8)))]) [hE, hE, hE, hN .rAt, hN (.set (.str x11) (List.map PV.str (List.set p10 (Int.toNat p9) p8)))] ({ tm := [(9, .osl 0 0 (List.map PV.str p10).length), (10, .pv (.int .i64 p9))], hp := [(0, some (.p none (List.map PV.str (List.set p10 (Int.toNat p9) p8))))], nx := 1 }) (.cons (rAt_ob hx11 (by simp)) (.cons (ownAt hx11) (.cons (by rw [Nat.zero_add, List.map_set]; try rfl) .nil))) (Sub.of_eq (by simp only [List.length_map, List.length_set]))) ?_
      obtain ⟨x12, hx12, h⟩ := bind_some h
      refine x_rg (st2 := { tm := [(8, .osl 0 0 (List.map PV.str x12).length)], hp := [(0, some (.p none (List.map PV.str x12)))], nx := 1 }) (rg (obs := [(0 ≤ (0 : Int) ∧ (0 : Int) ≤ (IntKind.wrap .i64 (p9 + 1)) ∧ (IntKind.wrap .i64 (p9 + 1)) ≤ (((List.map PV.str (List.set p10 (Int.toNat p9) p8)).length : Nat) : Int))]) [hE, hE, hE, hN .cutR, hE] ({ tm := [(8, .osl 0 (0 + Int.toNat 0) (Int.toNat (IntKind.wrap .i64 (p9 + 1)) - Int.toNat 0))], hp := [(0, some (.p none (List.map PV.str (List.set p10 (Int.toNat p9) p8))))], nx := 1 }) (.cons (cutR_ob hx12 (by simp)) .nil) (((Sub.of_eq (show ({ tm := [(8, .osl 0 0 (List.map PV.str x12).length)], hp := [(0, some (.p none (List.map PV.str x12)))], nx := 1 } : VSt) = trimSt 0 (Int.toNat (IntKind.wrap .i64 (p9 + 1)) - Int.toNat 0) ({ tm := [(8, .osl 0 (0 + Int.toNat 0) (Int.toNat (IntKind.wrap .i64 (p9 + 1)) - Int.toNat 0))], hp := [(0, some (.p none (List.map PV.str (List.set p10 (Int.toNat p9) p8))))], nx := 1 }) from (show ({ tm := [(8, .osl 0 0 (List.map PV.str x12).length)], hp := [(0, some (.p none (List.map PV.str x12)))], nx := 1 } : VSt) = { tm := [(8, .osl 0 (0 + Int.toNat 0) (Int.toNat (IntKind.wrap .i64 (p9 + 1)) - Int.toNat 0))], hp := [(0, some (.p none (List.take (Int.toNat (IntKind.wrap .i64 (p9 + 1)) - Int.toNat 0) (List.map PV.str (List.set p10 (Int.toNat p9) p8)))))], nx := 1 } from (by rw [(cutR_f hx12).2, (cutR_f hx12).1]; try rfl)).trans (by kernel_rfl))).trans (Sub.trim 0 (Int.toNat (IntKind.wrap .i64 (p9 + 1)) - Int.toNat 0) _)))) ?_
      refine x_toret ?_
      obtain rfl := Option.some.inj h
      exact x_ret (.usl none (List.take (List.map PV.str x12).length (List.map PV.str x12))) [0] [(List.map PV.str x12).length ≤ List.length (List.map PV.str x12)] (by kernel_rfl) (.cons (Nat.le_refl _) .nil) (by decide) (.of_eq (by rw [List.take_length])) (fun _ => (usl_ns (sh := none) (fun _ => rfl)))
     ·refine x_block ?_
      refine kw0 (⟨[(0, pS s_), (1, pS sep), (2, pI sepSave), (3, pI (IntKind.wrap .i64 ((min p5 (IntKind.wrap .i64 ((List.length s_ : Int) + 1))) - 1))), (9, oL 0 PV.str x6), (10, pI 0)], [(0, rL none PV.str x6)], 1⟩) ?_
      refine x_loop (σ := (Str × Int × (List Str))) h (fun s => ⟨[(0, pS s.1), (1, pS sep), (2, pI sepSave), (3, pI (IntKind.wrap .i64 ((min p5 (IntKind.wrap .i64 ((List.length s_ : Int) + 1))) - 1))), (9, oL 0 PV.str s.2.2), (10, pI s.2.1)], [(0, rL none PV.str s.2.2)], 1⟩) (by kernel_rfl) ?_ ?_
      ·rintro ⟨s__2, i_1, a_1⟩
       kernel_rfl
      ·rintro ⟨s__2, i_1, a_1⟩ x22 h hx22
       replace h : strings_genSplit_L22 s_ sep sepSave p5 s__2 i_1 a_1 = some x22 := h
       unfold strings_genSplit_L22 at h
       refine x_seq ?_
       refine x_rg (rgn [hE, hE, hE] (⟨[(0, pS s__2), (1, pS sep), (2, pI sepSave), (3, pI (IntKind.wrap .i64 ((min p5 (IntKind.wrap .i64 ((List.length s_ : Int) + 1))) - 1))), (9, oL 0 PV.str a_1), (10, pI i_1), (36, pB (decide (i_1 < (IntKind.wrap .i64 ((min p5 (IntKind.wrap .i64 ((List.length s_ : Int) + 1))) - 1)))))], [(0, rL none PV.str a_1)], 1⟩)) ?_
       refine x_cond _ rfl (fun hc23 => ?_) (fun hc23 => ?_)
       ·replace h := ite_t h hc23
        refine kw0 (⟨[(0, pS s__2), (1, pS sep), (2, pI sepSave), (3, pI (IntKind.wrap .i64 ((min p5 (IntKind.wrap .i64 ((List.length s_ : Int) + 1))) - 1))), (9, oL 0 PV.str a_1), (10, pI i_1)], [(0, rL none PV.str a_1)], 1⟩) ?_
        refine x_skip ?_
        refine x_tn ?_
        refine x_block ?_
        obtain ⟨x24, hx24, h⟩ := bind_some h
        refine x_rg (rg0 [hE, hE, hN (.cal [] (.int .i64 x24) true), hE] (⟨[(0, pS s__2), (1, pS sep), (2, pI sepSave), (3, pI (IntKind.wrap .i64 ((min p5 (IntKind.wrap .i64 ((List.length s_ : Int) + 1))) - 1))), (9, oL 0 PV.str a_1), (10, pI i_1), (11, pI x24)], [(0, rL none PV.str a_1)], 1⟩) (.cons (c90 hx24) .nil)) ?_
        refine x_seq ?_
        refine x_rg (rgn [hE, hE] (⟨[(0, pS s__2), (1, pS sep), (2, pI sepSave), (3, pI (IntKind.wrap .i64 ((min p5 (IntKind.wrap .i64 ((List.length s_ : Int) + 1))) - 1))), (9, oL 0 PV.str a_1), (10, pI i_1), (11, pI x24), (41, pB (decide (x24 < 0)))], [(0, rL none PV.str a_1)], 1⟩)) ?_
        refine x_cond _ rfl (fun hc25 => ?_) (fun hc25 => ?_)
        ·replace h := ite_t h hc25
         refine kw0 (⟨[(0, pS s__2), (9, oL 0 PV.str a_1), (10, pI i_1)], [(0, rL none PV.str a_1)], 1⟩) ?_
         refine x_exit ?_
         refine x_te ?_
         refine x_be ?_ (by decide)
         refine x_te ?_
         replace h := done_map h hx22
         refine x_bh ?_
         refine x_tn ?_
         exact ⟨(s__2, i_1, a_1), h, by kernel_rfl⟩
        ·replace h := ite_f h hc25
         refine kw0 (⟨[(0, pS s__2), (1, pS sep), (2, pI sepSave), (3, pI (IntKind.wrap .i64 ((min p5 (IntKind.wrap .i64 ((List.length s_ : Int) + 1))) - 1))), (9, oL 0 PV.str a_1), (10, pI i_1), (11, pI x24)], [(0, rL none PV.str a_1)], 1⟩) ?_
         refine x_skip ?_
         refine x_tn ?_
         obtain ⟨x26, hx26, h⟩ := bind_some h
         obtain ⟨x27, hx27, h⟩ := bind_some h
         refine x_rg (st2 := { tm := [(0, .pv (.str s__2)), (1, .pv (.str sep)), (2, .pv (.int .i64 sepSave)), (3, .pv (.int .i64 (IntKind.wrap .i64 ((min p5 (IntKind.wrap .i64 ((List.length s_ : Int) + 1))) - 1)))), (9, .osl 0 0 (List.map PV.str (List.set a_1 (Int.toNat i_1) x26)).length), (10, .pv (.int .i64 i_1)), (11, .pv (.int .i64 x24))], hp := [(0, some (.p none (List.map PV.str (List.set a_1 (Int.toNat i_1) x26))))], nx := 1 }) (rg (obs := [(cut s__2 0 (IntKind.wrap .i64 (x24 + sepSave)) = some x26), (0 ≤ (i_1 : Int) ∧ Int.toNat i_1 < (List.map PV.str a_1).length), ((List.map PV.str a_1)[(0 + Int.toNat i_1)]? = some (.str x27)), (List.set (List.map PV.str a_1) (0 + Int.toNat i_1) (.str x26) = (List.map PV.str (List.set a_1 (Int.toNat i_1) x26)))]) [hE, hE, hE, hE, hE, hE, hN (.cutS x26), hN .rAt, hN (.set (.str x27) (List.map PV.str (List.set a_1 (Int.toNat i_1) x26)))] ({ tm := [(0, .pv (.str s__2)), (1, .pv (.str sep)), (2, .pv (.int .i64 sepSave)), (3, .pv (.int .i64 (IntKind.wrap .i64 ((min p5 (IntKind.wrap .i64 ((List.length s_ : Int) + 1))) - 1)))), (9, .osl 0 0 (List.map PV.str a_1).length), (10, .pv (.int .i64 i_1)), (11, .pv (.int .i64 x24))], hp := [(0, some (.p none (List.map PV.str (List.set a_1 (Int.toNat i_1) x26))))], nx := 1 }) (.cons hx26 (.cons (rAt_ob hx27 (by simp)) (.cons (ownAt hx27) (.cons (by rw [Nat.zero_add, List.map_set]; try rfl) .nil)))) (Sub.of_eq (by simp only [List.length_map, List.length_set]))) ?_
         obtain ⟨x28, hx28, h⟩ := bind_some h
         refine x_rg (rg0 [hE, hE, hE, hE, hE, hN (.cutS x28), hE] (⟨[(0, pS x28), (1, pS sep), (2, pI sepSave), (3, pI (IntKind.wrap .i64 ((min p5 (IntKind.wrap .i64 ((List.length s_ : Int) + 1))) - 1))), (9, oL 0 PV.str (List.set a_1 (Int.toNat i_1) x26)), (10, pI i_1)], [(0, rL none PV.str (List.set a_1 (Int.toNat i_1) x26))], 1⟩) (.cons hx28 .nil)) ?_
         refine x_rgt (rgn [hE, hE, hE] (⟨[(0, pS x28), (1, pS sep), (2, pI sepSave), (3, pI (IntKind.wrap .i64 ((min p5 (IntKind.wrap .i64 ((List.length s_ : Int) + 1))) - 1))), (9, oL 0 PV.str (List.set a_1 (Int.toNat i_1) x26)), (10, pI (IntKind.wrap .i64 (i_1 + 1)))], [(0, rL none PV.str (List.set a_1 (Int.toNat i_1) x26))], 1⟩)) ?_
         refine x_bn ?_
         refine x_tn ?_
         exact ⟨_, (Option.some.inj h).symm, by kernel_rfl⟩
       ·replace h := ite_f h hc23
        refine kw0 (⟨[(0, pS s__2), (9, oL 0 PV.str a_1), (10, pI i_1)], [(0, rL none PV.str a_1)], 1⟩) ?_
        refine x_exit ?_
        refine x_te ?_
        refine x_te ?_
        replace h := done_map h hx22
        refine x_bh ?_
        refine x_tn ?_
        exact ⟨(s__2, i_1, a_1), h, by kernel_rfl⟩
    ·refine x_rg (rgn [hE, hE] (⟨[(0, pS s_), (1, pS sep), (2, pI sepSave), (3, pI n), (20, pB (decide (n < 0)))], [], 0⟩)) ?_
     refine x_cond _ rfl (fun hc29 => ?_) (fun hc29 => ?_)
     ·replace h := ite_t h hc29
      obtain ⟨x30, hx30, h⟩ := bind_some h
      refine x_rgt (rg0 [hE, hE, hN (.cal [] (.int .i64 x30) true), hE, hE] (⟨[(0, pS s_), (1, pS sep), (2, pI sepSave), (3, pI (IntKind.wrap .i64 (x30 + 1)))], [], 0⟩) (.cons (c89 hx30) .nil)) ?_
      refine x_tn ?_
      exact ⟨(IntKind.wrap .i64 (x30 + 1)), h, by kernel_rfl⟩
     ·replace h := ite_f h hc29
      refine kw0 (⟨[(0, pS s_), (1, pS sep), (2, pI sepSave), (3, pI n)], [], 0⟩) ?_
      refine x_skip ?_
      refine x_tn ?_
      exact ⟨n, h, by kernel_rfl⟩

theorem c31 {s_ : Str} {sep : Str} {r : (List Str)} (h : strings_Split s_ sep = some r) : CallOK Tryd.prog 31 [.str s_, .str sep] (.usl none (List.map PV.str r)) true := by
  apply ok31
  unfold strings_Split at h
  refine x_rg (rgn [hE] (⟨[(0, pS s_), (1, pS sep)], [], 0⟩)) ?_
  obtain ⟨x1, hx1, h⟩ := bind_some h
  refine x_rg (rg0 [hE, hE, hN (.cal [] (.usl none (List.map PV.str x1)) true), hE] (⟨[(4, oL 0 PV.str x1)], [(0, rL none PV.str x1)], 1⟩) (.cons (c62 hx1) .nil)) ?_
  refine x_toret ?_
  obtain rfl := Option.some.inj h
  exact x_ret (.usl none (List.take (List.map PV.str x1).length (List.map PV.str x1))) [0] [(List.map PV.str x1).length ≤ List.length (List.map PV.str x1)] (by kernel_rfl) (.cons (Nat.le_refl _) .nil) (by decide) (.of_eq (by rw [List.take_length])) (fun _ => (usl_ns (sh := none) (fun _ => rfl)))

theorem c34 {s_ : Str} {r : (List Str)} (h : dial_lines s_ = some r) : CallOK Tryd.prog 34 [.str s_] (.usl none (List.map PV.str r)) true := by
  apply ok34
  unfold dial_lines at h
  refine x_rg (rgn [hE] (⟨[(0, pS s_)], [], 0⟩)) ?_
  refine x_seq ?_
  refine x_rg (rgn [hE, hE] (⟨[(0, pS s_), (4, pB (decide (s_ = [])))], [], 0⟩)) ?_
  refine x_cond _ rfl (fun hc1 => ?_) (fun hc1 => ?_)
  ·replace h := ite_t h hc1
   refine x_rg (rgn [hE] (⟨[(2, .pv (.nilsl))], [], 0⟩)) ?_
   refine x_toret ?_
   refine x_tr ?_
   obtain rfl := Option.some.inj h
   exact ret0 (.nilsl) (.nilUsl _) (fun _ => (usl_ns (sh := none) (fun _ => rfl)))
  ·replace h := ite_f h hc1
   refine kw0 (⟨[(0, pS s_)], [], 0⟩) ?_
   refine x_skip ?_
   refine x_tn ?_
   obtain ⟨x2, hx2, h⟩ := bind_some h
   obtain ⟨x3, hx3, h⟩ := bind_some h
   refine x_rg (rg0 [hE, hN (.cal [] (.str x2) true), hN (.cal [] (.usl none (List.map PV.str x3)) true), hE] (⟨[(2, oL 0 PV.str x3)], [(0, rL none PV.str x3)], 1⟩) (.cons (c66 hx2) (.cons (c31 hx3) .nil))) ?_
   refine x_toret ?_
   obtain rfl := Option.some.inj h
   exact x_ret (.usl none (List.take (List.map PV.str x3).length (List.map PV.str x3))) [0] [(List.map PV.str x3).length ≤ List.length (List.map PV.str x3)] (by kernel_rfl) (.cons (Nat.le_refl _) .nil) (by decide) (.of_eq (by rw [List.take_length])) (fun _ => (usl_ns (sh := none) (fun _ => rfl)))

theorem c35 {line : Str} {r : Bool} (h : dial_ignored line = some r) : CallOK Tryd.prog 35 [.str line] (.bool r) true := by
  apply ok35
  unfold dial_ignored at h
  refine x_rg (rgn [hE] (⟨[(0, pS line)], [], 0⟩)) ?_
  refine x_seq ?_
  refine x_rg (rgn [hE, hE, hE] (⟨[(0, pS line), (5, pI (List.length line : Int)), (6, pI 0)], [], 0⟩)) ?_
  refine x_block ?_
  refine kw0 (⟨[(0, pS line), (5, pI (List.length line : Int)), (6, pI 0)], [], 0⟩) ?_
  refine x_loop (σ := Int) h (fun s => ⟨[(0, pS line), (5, pI (List.length line : Int)), (6, pI s)], [], 0⟩) (by kernel_rfl) ?_ ?_
  ·rintro v8
   kernel_rfl
  ·rintro v8 x9 h hx9
   replace h : dial_ignored_L9 line v8 = some x9 := h
   unfold dial_ignored_L9 at h
   refine x_rg (rgn [hE] (⟨[(0, pS line), (5, pI (List.length line : Int)), (6, pI v8), (7, pB (decide (v8 < (List.length line : Int))))], [], 0⟩)) ?_
   refine x_seq ?_
   refine x_cond _ rfl (fun hc10 => ?_) (fun hc10 => ?_)
   ·replace h := ite_t h hc10
    refine kw0 (⟨[(0, pS line), (5, pI (List.length line : Int)), (6, pI v8)], [], 0⟩) ?_
    refine x_skip ?_
    refine x_tn ?_
    refine x_seq ?_
    refine x_block ?_
    refine x_rg (rgn [hE, hE] (⟨[(0, pS line), (3, pI v8), (5, pI (List.length line : Int)), (6, pI v8)], [], 0⟩)) ?_
    obtain ⟨c11, hc11, h⟩ := bind_some h
    obtain ⟨t14, ht, h⟩ := bind_some h
    refine x_rg (st2 := ⟨[(0, pS line), (5, pI (List.length line : Int)), (6, pI v8), (18, pB t14)], [], 0⟩) ?_ ?_
    ·rcases Bool.eq_false_or_eq_true (!decide ((c11.toNat : Int) = 32)) with hg12 | hg12
     ·replace ht := ite_t ht hg12
      obtain ⟨c13, hc13, ht⟩ := bind_some ht
      have e := Option.some.inj ht
      subst e
      exact rg0 [hE, hE, hN (.sAt c11), hE, hE, hY, hY, (.y, (.sAt c13)), hY, hN (.pk true)] (⟨[(0, pS line), (5, pI (List.length line : Int)), (6, pI v8), (18, pB (!decide ((c13.toNat : Int) = 9)))], [], 0⟩) (.cons hc11 (.cons hg12 (.cons hg12 (.cons hg12 (.cons hc13 (.cons hg12 (.cons hg12 .nil)))))))
     ·replace ht := ite_f ht hg12
      have e := Option.some.inj ht
      subst e
      exact rg0 [hE, hE, hN (.sAt c11), hE, hE, hS, hS, hS, hS, hN (.pk false)] (⟨[(0, pS line), (5, pI (List.length line : Int)), (6, pI v8), (18, pB false)], [], 0⟩) (.cons hc11 (.cons hg12 (.cons hg12 (.cons hg12 (.cons hg12 (.cons hg12 .nil))))))
    ·clear ht
     refine x_cond _ rfl (fun hc15 => ?_) (fun hc15 => ?_)
     ·replace h := ite_t h hc15
      obtain ⟨c16, hc16, h⟩ := bind_some h
      refine x_rg (rg0 [hE, hN (.sAt c16), hE, hE] (⟨[(2, pB (decide ((c16.toNat : Int) = 35)))], [], 0⟩) (.cons hc16 .nil)) ?_
      refine x_toret ?_
      refine x_br ?_
      refine x_tr ?_
      refine x_tr ?_
      replace h := done_leaf h hx9
      refine x_br ?_
      refine x_tr ?_
      obtain rfl := Option.some.inj h
      exact ret0 (.bool (decide ((c16.toNat : Int) = 35))) (.refl _) (fun _ => rfl)
     ·replace h := ite_f h hc15
      refine kw0 (⟨[(0, pS line), (5, pI (List.length line : Int)), (6, pI v8)], [], 0⟩) ?_
      refine x_skip ?_
      refine x_bn ?_
      refine x_tn ?_
      refine x_rgt (rgn [hE, hE] (⟨[(0, pS line), (5, pI (List.length line : Int)), (6, pI (IntKind.wrap .i64 (v8 + 1)))], [], 0⟩)) ?_
      refine x_tn ?_
      exact ⟨_, (Option.some.inj h).symm, by kernel_rfl⟩
   ·replace h := ite_f h hc10
    refine kw0 (⟨[], [], 0⟩) ?_
    refine x_exit ?_
    refine x_te ?_
    refine x_te ?_
    replace h := done_leaf h hx9
    refine x_bh ?_
    refine x_tn ?_
    refine x_rg (rgn [hE] (⟨[(2, pB true)], [], 0⟩)) ?_
    refine x_toret ?_
    obtain rfl := Option.some.inj h
    exact ret0 (.bool true) (.refl _) (fun _ => rfl)

theorem c93 {c : Int} {r : Bool} (h : attr_blank c = some r) : CallOK Tryd.prog 93 [.int .u8 c] (.bool r) true := by
  apply ok93
  unfold attr_blank at h
  refine x_rg (rgn [hE] (⟨[(0, .pv (.int .u8 c))], [], 0⟩)) ?_
  refine x_rg (st2 := ⟨[(2, pB ((decide (c = 32)) || (decide (c = 9))))], [], 0⟩) ?_ ?_
  ·rcases Bool.eq_false_or_eq_true (decide (c = 32)) with hg1 | hg1
   ·exact rg [hE, hE, hE, hS, hS, hN (.pk true), hE] (⟨[(2, pB true)], [], 0⟩) (.cons hg1 (.cons hg1 (.cons hg1 .nil))) (.of_eq (by simp only [hg1, bs, reduceIte]))
   ·exact rg [hE, hE, hE, hY, hY, hN (.pk false), hE] (⟨[(2, pB (decide (c = 9)))], [], 0⟩) (.cons hg1 (.cons hg1 (.cons hg1 .nil))) (.of_eq (by simp only [hg1, bs, reduceIte]))
  ·refine x_toret ?_
   obtain rfl := Option.some.inj h
   exact ret0 (.bool ((decide (c = 32)) || (decide (c = 9)))) (.refl _) (fun _ => rfl)

theorem c113 {a0 : Str} {a1 : Int} {r : Int} (h : stringslite_IndexByte a0 a1 = some r) : CallOK Tryd.prog 113 [.str a0, .int .u8 a1] (.int .i64 r) true :=
  ok_indexByte Tryd.func113 (by kernel_rfl) (by kernel_rfl) Tryd.stringslite_IndexByte h

theorem c91 {s_ : Str} {c : Int} {r : Int} (h : strings_IndexByte s_ c = some r) : CallOK Tryd.prog 91 [.str s_, .int .u8 c] (.int .i64 r) true := by
  apply ok91
  unfold strings_IndexByte at h
  refine x_rg (rgn [hE] (⟨[(0, pS s_), (1, .pv (.int .u8 c))], [], 0⟩)) ?_
  obtain ⟨x1, hx1, h⟩ := bind_some h
  refine x_rg (rg0 [hE, hE, hN (.cal [] (.int .i64 x1) true), hE] (⟨[(4, pI x1)], [], 0⟩) (.cons (c113 hx1) .nil)) ?_
  refine x_toret ?_
  obtain rfl := Option.some.inj h
  exact ret0 (.int .i64 x1) (.refl _) (fun _ => rfl)

theorem c104 {s_ : Str} {stops : Str} {r : Int} (h : attr_until s_ stops = some r) : CallOK Tryd.prog 104 [.str s_, .str stops] (.int .i64 r) true := by
  apply ok104
  unfold attr_until at h
  refine x_rg (rgn [hE] (⟨[(0, pS s_), (1, pS stops)], [], 0⟩)) ?_
  refine x_seq ?_
  refine x_rg (rgn [hE, hE, hE] (⟨[(0, pS s_), (1, pS stops), (7, pI (List.length s_ : Int)), (8, pI 0)], [], 0⟩)) ?_
  refine x_block ?_
  refine kw0 (⟨[(0, pS s_), (1, pS stops), (7, pI (List.length s_ : Int)), (8, pI 0)], [], 0⟩) ?_
  refine x_loop (σ := Int) h (fun s => ⟨[(0, pS s_), (1, pS stops), (7, pI (List.length s_ : Int)), (8, pI s)], [], 0⟩) (by kernel_rfl) ?_ ?_
  ·rintro v5
   kernel_rfl
  ·rintro v5 x6 h hx6
   replace h : attr_until_L6 s_ stops v5 = some x6 := h
   unfold attr_until_L6 at h
   refine x_rg (rgn [hE] (⟨[(0, pS s_), (1, pS stops), (7, pI (List.length s_ : Int)), (8, pI v5), (9, pB (decide (v5 < (List.length s_ : Int))))], [], 0⟩)) ?_
   refine x_seq ?_
   refine x_cond _ rfl (fun hc7 => ?_) (fun hc7 => ?_)
   ·replace h := ite_t h hc7
    refine kw0 (⟨[(0, pS s_), (1, pS stops), (7, pI (List.length s_ : Int)), (8, pI v5)], [], 0⟩) ?_
    refine x_skip ?_
    refine x_tn ?_
    refine x_seq ?_
    refine x_block ?_
    refine x_rg (rgn [hE, hE] (⟨[(0, pS s_), (1, pS stops), (5, pI v5), (7, pI (List.length s_ : Int)), (8, pI v5)], [], 0⟩)) ?_
    obtain ⟨c8, hc8, h⟩ := bind_some h
    obtain ⟨x9, hx9, h⟩ := bind_some h
    refine x_rg (rg0 [hE, hE, hE, hN (.sAt c8), hN (.cal [] (.int .i64 x9) true), hE] (⟨[(0, pS s_), (1, pS stops), (5, pI v5), (7, pI (List.length s_ : Int)), (8, pI v5), (16, pB (decide (0 ≤ x9)))], [], 0⟩) (.cons hc8 (.cons (c91 hx9) .nil))) ?_
    refine x_cond _ rfl (fun hc10 => ?_) (fun hc10 => ?_)
    ·replace h := ite_t h hc10
     refine x_rg (rgn [hE, hE] (⟨[(4, pI v5)], [], 0⟩)) ?_
     refine x_toret ?_
     refine x_br ?_
     refine x_tr ?_
     refine x_tr ?_
     replace h := done_leaf h hx6
     refine x_br ?_
     refine x_tr ?_
     obtain rfl := Option.some.inj h
     exact ret0 (.int .i64 v5) (.refl _) (fun _ => rfl)
    ·replace h := ite_f h hc10
     refine kw0 (⟨[(0, pS s_), (1, pS stops), (7, pI (List.length s_ : Int)), (8, pI v5)], [], 0⟩) ?_
     refine x_skip ?_
     refine x_bn ?_
     refine x_tn ?_
     refine x_rgt (rgn [hE, hE] (⟨[(0, pS s_), (1, pS stops), (7, pI (List.length s_ : Int)), (8, pI (IntKind.wrap .i64 (v5 + 1)))], [], 0⟩)) ?_
     refine x_tn ?_
     exact ⟨_, (Option.some.inj h).symm, by kernel_rfl⟩
   ·replace h := ite_f h hc7
    refine kw0 (⟨[(0, pS s_)], [], 0⟩) ?_
    refine x_exit ?_
    refine x_te ?_
    refine x_te ?_
    replace h := done_leaf h hx6
    refine x_bh ?_
    refine x_tn ?_
    refine x_rg (rgn [hE, hE, hE] (⟨[(4, pI (List.length s_ : Int))], [], 0⟩)) ?_
    refine x_toret ?_
    obtain rfl := Option.some.inj h
    exact ret0 (.int .i64 (List.length s_ : Int)) (.refl _) (fun _ => rfl)

theorem c129 {s_ : Str} {prefix_ : Str} {r : Bool} (h : stringslite_HasPrefix s_ prefix_ = some r) : CallOK Tryd.prog 129 [.str s_, .str prefix_] (.bool r) true := by
  apply ok129
  unfold stringslite_HasPrefix at h
  refine x_rg (rgn [hE] (⟨[(0, pS s_), (1, pS prefix_)], [], 0⟩)) ?_
  obtain ⟨t3, ht, h⟩ := bind_some h
  refine x_rg (st2 := ⟨[(4, pB t3)], [], 0⟩) ?_ ?_
  ·rcases Bool.eq_false_or_eq_true (decide ((List.length prefix_ : Int) ≤ (List.length s_ : Int))) with hg1 | hg1
   ·replace ht := ite_t ht hg1
    obtain ⟨x2, hx2, ht⟩ := bind_some ht
    have e := Option.some.inj ht
    subst e
    exact rg0 [hE, hE, hE, hE, hE, hE, hY, hY, hY, (.y, (.cutS x2)), hY, hY, hN (.pk true), hE] (⟨[(4, pB (decide (x2 = prefix_)))], [], 0⟩) (.cons hg1 (.cons hg1 (.cons hg1 (.cons hg1 (.cons hx2 (.cons hg1 (.cons hg1 (.cons hg1 .nil))))))))
   ·replace ht := ite_f ht hg1
    have e := Option.some.inj ht
    subst e
    exact rg0 [hE, hE, hE, hE, hE, hE, hS, hS, hS, hS, hS, hS, hN (.pk false), hE] (⟨[(4, pB false)], [], 0⟩) (.cons hg1 (.cons hg1 (.cons hg1 (.cons hg1 (.cons hg1 (.cons hg1 (.cons hg1 .nil)))))))
  ·clear ht
   refine x_toret ?_
   obtain rfl := Option.some.inj h
   exact ret0 (.bool t3) (.refl _) (fun _ => rfl)

theorem c115 {s_ : Str} {prefix_ : Str} {r : Bool} (h : strings_HasPrefix s_ prefix_ = some r) : CallOK Tryd.prog 115 [.str s_, .str prefix_] (.bool r) true := by
  apply ok115
  unfold strings_HasPrefix at h
  refine x_rg (rgn [hE] (⟨[(0, pS s_), (1, pS prefix_)], [], 0⟩)) ?_
  obtain ⟨x1, hx1, h⟩ := bind_some h
  refine x_rg (rg0 [hE, hE, hN (.cal [] (.bool x1) true), hE] (⟨[(4, pB x1)], [], 0⟩) (.cons (c129 hx1) .nil)) ?_
  refine x_toret ?_
  obtain rfl := Option.some.inj h
  exact ret0 (.bool x1) (.refl _) (fun _ => rfl)

theorem c116 {s_ : Str} {r : (Str × Int × Bool)} (h : attr_quoted s_ = some r) : CallOK Tryd.prog 116 [.str s_] (.tup [.str r.1, .int .i64 r.2.1, .bool r.2.2]) true := by
  apply ok116
  unfold attr_quoted at h
  refine x_rg (rgn [hE, hE, hE] (⟨[(0, pS s_)], [], 0⟩)) ?_
  refine x_rg (rg0 (obs := [(∀ (k : Nat) (T' e' : TypeId) (bs' : List UInt8), lookR [] k ≠ some (.b T' e' bs'))]) [hN .bld] (⟨[(0, pS s_), (5, .optr 0 0 0)], [(0, some (.b 76 5 ([] : Str)))], 1⟩) (.cons (noB (by kernel_rfl)) .nil)) ?_
  refine x_seq ?_
  refine x_rg (rgn [hE] (⟨[(0, pS s_), (5, .optr 0 0 0), (6, pI 0)], [(0, some (.b 76 5 ([] : Str)))], 1⟩)) ?_
  refine x_block ?_
  refine kw0 (⟨[(0, pS s_), (5, .optr 0 0 0), (6, pI 0)], [(0, some (.b 76 5 ([] : Str)))], 1⟩) ?_
  refine x_loop (σ := (Int × Str)) h (fun s => ⟨[(0, pS s_), (5, .optr 0 0 0), (6, pI s.1)], [(0, some (.b 76 5 s.2))], 1⟩) (by kernel_rfl) ?_ ?_
  ·rintro ⟨i, v12⟩
   kernel_rfl
  ·rintro ⟨i, v12⟩ x13 h hx13
   replace h : attr_quoted_L13 s_ i v12 = some x13 := h
   unfold attr_quoted_L13 at h
   refine x_seq ?_
   refine x_rg (rgn [hE, hE, hE, hE] (⟨[(0, pS s_), (5, .optr 0 0 0), (6, pI i), (10, pB (decide (i < (List.length s_ : Int))))], [(0, some (.b 76 5 v12))], 1⟩)) ?_
   refine x_cond _ rfl (fun hc14 => ?_) (fun hc14 => ?_)
   ·replace h := ite_t h hc14
    refine kw0 (⟨[(0, pS s_), (5, .optr 0 0 0), (6, pI i)], [(0, some (.b 76 5 v12))], 1⟩) ?_
    refine x_skip ?_
    refine x_tn ?_
    refine x_seq ?_
    refine x_block ?_
    refine x_seq ?_
    obtain ⟨c15, hc15, h⟩ := bind_some h
    refine x_rg (rg0 [hE, hE, hN (.sAt c15), hE] (⟨[(0, pS s_), (5, .optr 0 0 0), (6, pI i), (16, pB (!decide ((c15.toNat : Int) = 39)))], [(0, some (.b 76 5 v12))], 1⟩) (.cons hc15 .nil)) ?_
    refine x_cond _ rfl (fun hc16 => ?_) (fun hc16 => ?_)
    ·replace h := ite_t h hc16
     obtain ⟨c17, hc17, h⟩ := bind_some h
     obtain ⟨x18, hx18, h⟩ := bind_some h
     refine x_rg (rg0 [hE, hE, hN (.sAt c17), hN (.bcall .niliface x18)] (⟨[(0, pS s_), (5, .optr 0 0 0), (6, pI i)], [(0, some (.b 76 5 x18))], 1⟩) (.cons hc17 (.cons (b130 (c := c17) hx18) .nil))) ?_
     refine kw0 (⟨[(0, pS s_), (5, .optr 0 0 0), (6, pI i)], [(0, some (.b 76 5 x18))], 1⟩) ?_
     refine x_exit ?_
     refine x_te ?_
     refine x_bh ?_
     refine x_tn ?_
     refine x_rgt (rgn [hE, hE, hE] (⟨[(0, pS s_), (5, .optr 0 0 0), (6, pI (IntKind.wrap .i64 (i + 1)))], [(0, some (.b 76 5 x18))], 1⟩)) ?_
     refine x_tn ?_
     exact ⟨_, (Option.some.inj h).symm, by kernel_rfl⟩
    ·replace h := ite_f h hc16
     refine kw0 (⟨[(0, pS s_), (5, .optr 0 0 0), (6, pI i)], [(0, some (.b 76 5 v12))], 1⟩) ?_
     refine x_skip ?_
     refine x_tn ?_
     refine x_seq ?_
     obtain ⟨t21, ht, h⟩ := bind_some h
     refine x_rg (st2 := ⟨[(0, pS s_), (5, .optr 0 0 0), (6, pI i), (32, pB t21)], [(0, some (.b 76 5 v12))], 1⟩) ?_ ?_
     ·rcases Bool.eq_false_or_eq_true (decide ((IntKind.wrap .i64 (i + 1)) = (List.length s_ : Int))) with hg19 | hg19
      ·replace ht := ite_t ht hg19
       have e := Option.some.inj ht
       subst e
       exact rg0 [hE, hE, hE, hE, hE, hE, hS, hS, hS, hS, hS, hN (.pk true)] (⟨[(0, pS s_), (5, .optr 0 0 0), (6, pI i), (32, pB true)], [(0, some (.b 76 5 v12))], 1⟩) (.cons hg19 (.cons hg19 (.cons hg19 (.cons hg19 (.cons hg19 (.cons hg19 .nil))))))
      ·replace ht := ite_f ht hg19
       obtain ⟨c20, hc20, ht⟩ := bind_some ht
       have e := Option.some.inj ht
       subst e
       exact rg0 [hE, hE, hE, hE, hE, hE, hY, hY, hY, (.y, (.sAt c20)), hY, hN (.pk false)] (⟨[(0, pS s_), (5, .optr 0 0 0), (6, pI i), (32, pB (!decide ((c20.toNat : Int) = 39)))], [(0, some (.b 76 5 v12))], 1⟩) (.cons hg19 (.cons hg19 (.cons hg19 (.cons hg19 (.cons hc20 (.cons hg19 (.cons hg19 .nil)))))))
     ·clear ht
      refine x_cond _ rfl (fun hc22 => ?_) (fun hc22 => ?_)
      ·replace h := ite_t h hc22
       refine x_rg (rg0 (obs := [(BuilderOK Tryd.prog 59 76 5 v12 [] (.str v12) v12)]) [hN (.bcall (.str v12) v12), hE, hE, hE, hE, hE] (⟨[(2, pS v12), (3, pI (IntKind.wrap .i64 (i + 1))), (4, pB true)], [], 0⟩) (.cons (b59 _) .nil)) ?_
       refine x_toret ?_
       refine x_tr ?_
       refine x_br ?_
       refine x_tr ?_
       refine x_tr ?_
       replace h := done_leaf h hx13
       refine x_br ?_
       refine x_tr ?_
       obtain rfl := Option.some.inj h
       exact ret0 (.tup [.str v12, .int .i64 (IntKind.wrap .i64 (i + 1)), .bool true]) (.tup (.cons (.refl _) (.cons (.refl _) (.cons (.refl _) .nil)))) (fun _ => rfl)
      ·replace h := ite_f h hc22
       refine kw0 (⟨[(0, pS s_), (5, .optr 0 0 0), (6, pI i)], [(0, some (.b 76 5 v12))], 1⟩) ?_
       refine x_skip ?_
       refine x_tn ?_
       obtain ⟨x23, hx23, h⟩ := bind_some h
       refine x_rg (rg0 [hN (.bcall .niliface x23)] (⟨[(0, pS s_), (5, .optr 0 0 0), (6, pI i)], [(0, some (.b 76 5 x23))], 1⟩) (.cons (b130 (c := (39 : UInt8)) hx23) .nil)) ?_
       refine x_rgt (rgn [hE, hE, hE] (⟨[(0, pS s_), (5, .optr 0 0 0), (6, pI (IntKind.wrap .i64 (i + 1)))], [(0, some (.b 76 5 x23))], 1⟩)) ?_
       refine x_bn ?_
       refine x_tn ?_
       refine x_rgt (rgn [hE, hE, hE] (⟨[(0, pS s_), (5, .optr 0 0 0), (6, pI (IntKind.wrap .i64 ((IntKind.wrap .i64 (i + 1)) + 1)))], [(0, some (.b 76 5 x23))], 1⟩)) ?_
       refine x_tn ?_
       exact ⟨_, (Option.some.inj h).symm, by kernel_rfl⟩
   ·replace h := ite_f h hc14
    refine kw0 (⟨[], [], 0⟩) ?_
    refine x_exit ?_
    refine x_te ?_
    refine x_te ?_
    replace h := done_leaf h hx13
    refine x_bh ?_
    refine x_tn ?_
    refine x_rg (rgn [hE, hE, hE] (⟨[(2, pS []), (3, pI 0), (4, pB false)], [], 0⟩)) ?_
    refine x_toret ?_
    obtain rfl := Option.some.inj h
    exact ret0 (.tup [.str [], .int .i64 0, .bool false]) (.tup (.cons (.refl _) (.cons (.refl _) (.cons (.refl _) .nil)))) (fun _ => rfl)

theorem c117 {s_ : Str} {substr : Str} {r : Bool} (h : strings_Contains s_ substr = some r) : CallOK Tryd.prog 117 [.str s_, .str substr] (.bool r) true := by
  apply ok117
  unfold strings_Contains at h
  refine x_rg (rgn [hE] (⟨[(0, pS s_), (1, pS substr)], [], 0⟩)) ?_
  obtain ⟨x1, hx1, h⟩ := bind_some h
  refine x_rg (rg0 [hE, hE, hN (.cal [] (.int .i64 x1) true), hE, hE] (⟨[(4, pB (decide (0 ≤ x1)))], [], 0⟩) (.cons (c90 hx1) .nil)) ?_
  refine x_toret ?_
  obtain rfl := Option.some.inj h
  exact ret0 (.bool (decide (0 ≤ x1))) (.refl _) (fun _ => rfl)

theorem c94 {s_ : Str} {r : (api_Attr × Int × Int)} (h : attr_one s_ = some r) : CallOK Tryd.prog 94 [.str s_] (.tup [enc_api_Attr r.1, .int .i64 r.2.1, .int .i64 r.2.2]) true := by
  apply ok94
  unfold attr_one at h
  refine x_rg (rgn [hE, hE, hE] (⟨[(0, pS s_), (2, .optr 0 0 0)], [(0, some (.p (some 3) [.agg [.str [], .str [], .bool false]]))], 1⟩)) ?_
  obtain ⟨x1, hx1, h⟩ := bind_some h
  refine x_rg (rg0 [hE, hN (.cal [] (.int .i64 x1) true), hE] (⟨[(0, pS s_), (2, .optr 0 0 0), (5, pI x1)], [(0, some (.p (some 3) [.agg [.str [], .str [], .bool false]]))], 1⟩) (.cons (c104 hx1) .nil)) ?_
  obtain ⟨x2, hx2, h⟩ := bind_some h
  refine x_rg (rg0 [hE, hE, hN (.cutS x2), hE, hE, hE] (⟨[(0, pS s_), (2, .optr 0 0 0), (5, pI x1), (6, .optr 1 0 0)], [(0, some (.p (some 3) [.agg [.str [], .str [], .bool false]])), (1, some (.p (some 3) [.agg [.str x2, .str [], .bool false]]))], 2⟩) (.cons hx2 .nil)) ?_
  obtain ⟨x3, hx3, h⟩ := bind_some h
  refine x_rg (rg0 [hE, hE, hN (.cutS x3), hE] (⟨[(0, pS s_), (2, .optr 0 0 0), (5, pI x1), (6, .optr 1 0 0), (7, pS x3)], [(0, some (.p (some 3) [.agg [.str [], .str [], .bool false]])), (1, some (.p (some 3) [.agg [.str x2, .str [], .bool false]]))], 2⟩) (.cons hx3 .nil)) ?_
  refine x_join (τ := (Int × Str × Bool)) (fun t => attr_one_K4 s_ x2 t.1 t.2.1 t.2.2 = some r) (fun t => { tm := [(0, .pv (.str s_)), (2, .optr 0 0 0), (5, .pv (.int .i64 t.1)), (6, .optr 1 0 0)], hp := [(0, some (.p (some 3) [.agg [.str [], .str [], .bool false]])), (1, some (.p (some 3) [.agg [.str x2, .str t.2.1, .bool t.2.2]]))], nx := 2 }) ?_ ?_
  ·rintro ⟨p5, p6, p7⟩ h
   replace h : attr_one_K4 s_ x2 p5 p6 p7 = some r := h
   unfold attr_one_K4 at h
   refine x_seq ?_
   obtain ⟨t11, ht, h⟩ := bind_some h
   refine x_rg (st2 := ⟨[(2, .optr 0 0 0), (5, pI p5), (6, .optr 1 0 0), (73, pB t11)], [(0, some (.p (some 3) [.agg [.str [], .str [], .bool false]])), (1, some (.p (some 3) [.agg [.str x2, .str p6, .bool p7]]))], 2⟩) ?_ ?_
   ·rcases Bool.eq_false_or_eq_true (decide (p5 < (List.length s_ : Int))) with hg8 | hg8
    ·replace ht := ite_t ht hg8
     obtain ⟨c9, hc9, ht⟩ := bind_some ht
     obtain ⟨x10, hx10, ht⟩ := bind_some ht
     have e := Option.some.inj ht
     subst e
     exact rg0 [hE, hE, hE, hE, hE, hY, hY, (.y, (.sAt c9)), (.y, (.cal [] (.bool x10) true)), hY, hN (.pk true)] (⟨[(2, .optr 0 0 0), (5, pI p5), (6, .optr 1 0 0), (73, pB (!x10))], [(0, some (.p (some 3) [.agg [.str [], .str [], .bool false]])), (1, some (.p (some 3) [.agg [.str x2, .str p6, .bool p7]]))], 2⟩) (.cons hg8 (.cons hg8 (.cons hg8 (.cons hc9 (.cons hg8 (.cons (c93 hx10) (.cons hg8 (.cons hg8 .nil))))))))
    ·replace ht := ite_f ht hg8
     have e := Option.some.inj ht
     subst e
     exact rg0 [hE, hE, hE, hE, hE, hS, hS, hS, hS, hS, hN (.pk false)] (⟨[(2, .optr 0 0 0), (5, pI p5), (6, .optr 1 0 0), (73, pB false)], [(0, some (.p (some 3) [.agg [.str [], .str [], .bool false]])), (1, some (.p (some 3) [.agg [.str x2, .str p6, .bool p7]]))], 2⟩) (.cons hg8 (.cons hg8 (.cons hg8 (.cons hg8 (.cons hg8 (.cons hg8 .nil))))))
   ·clear ht
    refine x_cond _ rfl (fun hc12 => ?_) (fun hc12 => ?_)
    ·replace h := ite_t h hc12
     refine x_rg (rgn [hE, hE, hE, hE] (⟨[(2, .optr 0 0 0), (3, pI 0), (4, pI 2)], [(0, some (.p (some 3) [.agg [.str [], .str [], .bool false]]))], 1⟩)) ?_
     refine x_toret ?_
     refine x_tr ?_
     obtain rfl := Option.some.inj h
     exact ret0 (.tup [.agg [.str [], .str [], .bool false], .int .i64 0, .int .i64 2]) (.tup (.cons (.refl _) (.cons (.refl _) (.cons (.refl _) .nil)))) (fun _ => rfl)
    ·replace h := ite_f h hc12
     refine kw0 (⟨[(2, .optr 0 0 0), (5, pI p5), (6, .optr 1 0 0)], [(0, some (.p (some 3) [.agg [.str [], .str [], .bool false]])), (1, some (.p (some 3) [.agg [.str x2, .str p6, .bool p7]]))], 2⟩) ?_
     refine x_skip ?_
     refine x_tn ?_
     refine x_rg (rgn [hE, hE, hE, hE, hE] (⟨[(2, .optr 0 0 0), (3, pI p5), (4, pI 0)], [(0, some (.p (some 3) [.agg [.str x2, .str p6, .bool p7]]))], 1⟩)) ?_
     refine x_toret ?_
     obtain rfl := Option.some.inj h
     exact ret0 (.tup [.agg [.str x2, .str p6, .bool p7], .int .i64 p5, .int .i64 0]) (.tup (.cons (.refl _) (.cons (.refl _) (.cons (.refl _) .nil)))) (fun _ => rfl)
  ·refine x_block ?_
   obtain ⟨x13, hx13, h⟩ := bind_some h
   refine x_rg (rg0 [hE, hN (.cal [] (.bool x13) true), hE] (⟨[(0, pS s_), (2, .optr 0 0 0), (5, pI x1), (6, .optr 1 0 0), (7, pS x3), (22, pB x13)], [(0, some (.p (some 3) [.agg [.str [], .str [], .bool false]])), (1, some (.p (some 3) [.agg [.str x2, .str [], .bool false]]))], 2⟩) (.cons (c115 hx13) .nil)) ?_
   refine x_cond _ rfl (fun hc14 => ?_) (fun hc14 => ?_)
   ·replace h := ite_t h hc14
    refine x_rg (rgn [hE, hE] (⟨[(0, pS s_), (2, .optr 0 0 0), (5, pI x1), (6, .optr 1 0 0)], [(0, some (.p (some 3) [.agg [.str [], .str [], .bool false]])), (1, some (.p (some 3) [.agg [.str x2, .str [], .bool true]]))], 2⟩)) ?_
    refine x_rgt (rgn [hE, hE, hE] (⟨[(0, pS s_), (2, .optr 0 0 0), (5, pI (IntKind.wrap .i64 (x1 + 1))), (6, .optr 1 0 0)], [(0, some (.p (some 3) [.agg [.str [], .str [], .bool false]])), (1, some (.p (some 3) [.agg [.str x2, .str [], .bool true]]))], 2⟩)) ?_
    refine x_bn ?_
    refine x_tn ?_
    exact ⟨((IntKind.wrap .i64 (x1 + 1)), [], true), h, by kernel_rfl⟩
   ·replace h := ite_f h hc14
    obtain ⟨x15, hx15, h⟩ := bind_some h
    refine x_rg (rg0 [hE, hN (.cal [] (.bool x15) true), hE] (⟨[(0, pS s_), (2, .optr 0 0 0), (5, pI x1), (6, .optr 1 0 0), (7, pS x3), (28, pB x15)], [(0, some (.p (some 3) [.agg [.str [], .str [], .bool false]])), (1, some (.p (some 3) [.agg [.str x2, .str [], .bool false]]))], 2⟩) (.cons (c115 hx15) .nil)) ?_
    refine x_cond _ rfl (fun hc16 => ?_) (fun hc16 => ?_)
    ·replace h := ite_t h hc16
     obtain ⟨x17, hx17, h⟩ := bind_some h
     obtain ⟨x18, hx18, h⟩ := bind_some h
     refine x_rg (rg0 [hE, hN (.cutS x17), hN (.cal [] (.tup [.str x18.1, .int .i64 x18.2.1, .bool x18.2.2]) true), hE, hE, hE, hE, hE, hE, hE] (⟨[(0, pS s_), (2, .optr 0 0 0), (5, pI x1), (6, .optr 1 0 0), (8, pS x18.1), (9, pI x18.2.1), (10, pB x18.2.2)], [(0, some (.p (some 3) [.agg [.str [], .str [], .bool false]])), (1, some (.p (some 3) [.agg [.str x2, .str [], .bool false]]))], 2⟩) (.cons hx17 (.cons (c116 hx18) .nil))) ?_
     refine x_seq ?_
     refine x_rg (rgn [hE, hE] (⟨[(0, pS s_), (2, .optr 0 0 0), (5, pI x1), (6, .optr 1 0 0), (8, pS x18.1), (9, pI x18.2.1), (39, pB (!x18.2.2))], [(0, some (.p (some 3) [.agg [.str [], .str [], .bool false]])), (1, some (.p (some 3) [.agg [.str x2, .str [], .bool false]]))], 2⟩)) ?_
     refine x_cond _ rfl (fun hc19 => ?_) (fun hc19 => ?_)
     ·replace h := ite_t h hc19
      refine x_rg (rgn [hE, hE, hE, hE] (⟨[(2, .optr 0 0 0), (3, pI 0), (4, pI 48)], [(0, some (.p (some 3) [.agg [.str [], .str [], .bool false]]))], 1⟩)) ?_
      refine x_toret ?_
      refine x_tr ?_
      refine x_br ?_
      refine x_tr ?_
      obtain rfl := Option.some.inj h
      exact ret0 (.tup [.agg [.str [], .str [], .bool false], .int .i64 0, .int .i64 48]) (.tup (.cons (.refl _) (.cons (.refl _) (.cons (.refl _) .nil)))) (fun _ => rfl)
     ·replace h := ite_f h hc19
      refine kw0 (⟨[(0, pS s_), (2, .optr 0 0 0), (5, pI x1), (6, .optr 1 0 0), (8, pS x18.1), (9, pI x18.2.1)], [(0, some (.p (some 3) [.agg [.str [], .str [], .bool false]])), (1, some (.p (some 3) [.agg [.str x2, .str [], .bool false]]))], 2⟩) ?_
      refine x_skip ?_
      refine x_tn ?_
      refine x_rg (rgn [hE, hE, hE] (⟨[(0, pS s_), (2, .optr 0 0 0), (5, pI x1), (6, .optr 1 0 0), (9, pI x18.2.1)], [(0, some (.p (some 3) [.agg [.str [], .str [], .bool false]])), (1, some (.p (some 3) [.agg [.str x2, .str x18.1, .bool false]]))], 2⟩)) ?_
      refine x_rgt (rgn [hE, hE, hE, hE, hE] (⟨[(0, pS s_), (2, .optr 0 0 0), (5, pI (IntKind.wrap .i64 (x1 + (IntKind.wrap .i64 (2 + x18.2.1))))), (6, .optr 1 0 0)], [(0, some (.p (some 3) [.agg [.str [], .str [], .bool false]])), (1, some (.p (some 3) [.agg [.str x2, .str x18.1, .bool false]]))], 2⟩)) ?_
      refine x_bn ?_
      refine x_tn ?_
      exact ⟨((IntKind.wrap .i64 (x1 + (IntKind.wrap .i64 (2 + x18.2.1)))), x18.1, false), h, by kernel_rfl⟩
    ·replace h := ite_f h hc16
     obtain ⟨x20, hx20, h⟩ := bind_some h
     refine x_rg (rg0 [hE, hN (.cal [] (.bool x20) true), hE] (⟨[(0, pS s_), (2, .optr 0 0 0), (5, pI x1), (6, .optr 1 0 0), (7, pS x3), (47, pB x20)], [(0, some (.p (some 3) [.agg [.str [], .str [], .bool false]])), (1, some (.p (some 3) [.agg [.str x2, .str [], .bool false]]))], 2⟩) (.cons (c115 hx20) .nil)) ?_
     refine x_cond _ rfl (fun hc21 => ?_) (fun hc21 => ?_)
     ·replace h := ite_t h hc21
      obtain ⟨x22, hx22, h⟩ := bind_some h
      refine x_rg (rg0 [hE, hN (.cal [] (.int .i64 x22) true), hE] (⟨[(0, pS s_), (2, .optr 0 0 0), (5, pI x1), (6, .optr 1 0 0), (7, pS x3), (11, pI x22)], [(0, some (.p (some 3) [.agg [.str [], .str [], .bool false]])), (1, some (.p (some 3) [.agg [.str x2, .str [], .bool false]]))], 2⟩) (.cons (c104 hx22) .nil)) ?_
      obtain ⟨x23, hx23, h⟩ := bind_some h
      refine x_rg (rg0 [hE, hE, hN (.cutS x23), hE, hE] (⟨[(0, pS s_), (2, .optr 0 0 0), (5, pI x1), (6, .optr 1 0 0), (11, pI x22)], [(0, some (.p (some 3) [.agg [.str [], .str [], .bool false]])), (1, some (.p (some 3) [.agg [.str x2, .str x23, .bool false]]))], 2⟩) (.cons hx23 .nil)) ?_
      refine x_seq ?_
      obtain ⟨x24, hx24, h⟩ := bind_some h
      refine x_rg (rg0 [hE, hE, hN (.cal [] (.bool x24) true)] (⟨[(0, pS s_), (2, .optr 0 0 0), (5, pI x1), (6, .optr 1 0 0), (11, pI x22), (58, pB x24)], [(0, some (.p (some 3) [.agg [.str [], .str [], .bool false]])), (1, some (.p (some 3) [.agg [.str x2, .str x23, .bool false]]))], 2⟩) (.cons (c117 hx24) .nil)) ?_
      refine x_cond _ rfl (fun hc25 => ?_) (fun hc25 => ?_)
      ·replace h := ite_t h hc25
       refine x_rg (rgn [hE, hE, hE, hE] (⟨[(2, .optr 0 0 0), (3, pI 0), (4, pI 2)], [(0, some (.p (some 3) [.agg [.str [], .str [], .bool false]]))], 1⟩)) ?_
       refine x_toret ?_
       refine x_tr ?_
       refine x_br ?_
       refine x_tr ?_
       obtain rfl := Option.some.inj h
       exact ret0 (.tup [.agg [.str [], .str [], .bool false], .int .i64 0, .int .i64 2]) (.tup (.cons (.refl _) (.cons (.refl _) (.cons (.refl _) .nil)))) (fun _ => rfl)
      ·replace h := ite_f h hc25
       refine kw0 (⟨[(0, pS s_), (2, .optr 0 0 0), (5, pI x1), (6, .optr 1 0 0), (11, pI x22)], [(0, some (.p (some 3) [.agg [.str [], .str [], .bool false]])), (1, some (.p (some 3) [.agg [.str x2, .str x23, .bool false]]))], 2⟩) ?_
       refine x_skip ?_
       refine x_tn ?_
       refine x_rgt (rgn [hE, hE, hE, hE] (⟨[(0, pS s_), (2, .optr 0 0 0), (5, pI (IntKind.wrap .i64 (x1 + x22))), (6, .optr 1 0 0)], [(0, some (.p (some 3) [.agg [.str [], .str [], .bool false]])), (1, some (.p (some 3) [.agg [.str x2, .str x23, .bool false]]))], 2⟩)) ?_
       refine x_bn ?_
       refine x_tn ?_
       exact ⟨((IntKind.wrap .i64 (x1 + x22)), x23, false), h, by kernel_rfl⟩
     ·replace h := ite_f h hc21
      refine x_rg (rgn [hE, hE, hE, hE] (⟨[(2, .optr 0 0 0), (3, pI 0), (4, pI 2)], [(0, some (.p (some 3) [.agg [.str [], .str [], .bool false]]))], 1⟩)) ?_
      refine x_toret ?_
      refine x_br ?_
      refine x_tr ?_
      obtain rfl := Option.some.inj h
      exact ret0 (.tup [.agg [.str [], .str [], .bool false], .int .i64 0, .int .i64 2]) (.tup (.cons (.refl _) (.cons (.refl _) (.cons (.refl _) .nil)))) (fun _ => rfl)

theorem c134 {s_ : Str} {prefix_ : Str} {r : Str} (h : stringslite_TrimPrefix s_ prefix_ = some r) : CallOK Tryd.prog 134 [.str s_, .str prefix_] (.str r) true := by
  apply ok134
  unfold stringslite_TrimPrefix at h
  refine x_rg (rgn [hE] (⟨[(0, pS s_), (1, pS prefix_)], [], 0⟩)) ?_
  refine x_seq ?_
  obtain ⟨x1, hx1, h⟩ := bind_some h
  refine x_rg (rg0 [hE, hE, hN (.cal [] (.bool x1) true)] (⟨[(0, pS s_), (1, pS prefix_), (7, pB x1)], [], 0⟩) (.cons (c129 hx1) .nil)) ?_
  refine x_cond _ rfl (fun hc2 => ?_) (fun hc2 => ?_)
  ·replace h := ite_t h hc2
   obtain ⟨x3, hx3, h⟩ := bind_some h
   refine x_rg (rg0 [hE, hE, hE, hN (.cutS x3), hE] (⟨[(4, pS x3)], [], 0⟩) (.cons hx3 .nil)) ?_
   refine x_toret ?_
   refine x_tr ?_
   obtain rfl := Option.some.inj h
   exact ret0 (.str x3) (.refl _) (fun _ => rfl)
  ·replace h := ite_f h hc2
   refine kw0 (⟨[(0, pS s_)], [], 0⟩) ?_
   refine x_skip ?_
   refine x_tn ?_
   refine x_rg (rgn [hE, hE] (⟨[(4, pS s_)], [], 0⟩)) ?_
   refine x_toret ?_
   obtain rfl := Option.some.inj h
   exact ret0 (.str s_) (.refl _) (fun _ => rfl)

theorem c131 {s_ : Str} {prefix_ : Str} {r : Str} (h : strings_TrimPrefix s_ prefix_ = some r) : CallOK Tryd.prog 131 [.str s_, .str prefix_] (.str r) true := by
  apply ok131
  unfold strings_TrimPrefix at h
  refine x_rg (rgn [hE] (⟨[(0, pS s_), (1, pS prefix_)], [], 0⟩)) ?_
  obtain ⟨x1, hx1, h⟩ := bind_some h
  refine x_rg (rg0 [hE, hE, hN (.cal [] (.str x1) true), hE] (⟨[(4, pS x1)], [], 0⟩) (.cons (c134 hx1) .nil)) ?_
  refine x_toret ?_
  obtain rfl := Option.some.inj h
  exact ret0 (.str x1) (.refl _) (fun _ => rfl)

theorem c118 {s_ : Str} {r : Bool} (h : attr_isName s_ = some r) : CallOK Tryd.prog 118 [.str s_] (.bool r) true := by
  apply ok118
  unfold attr_isName at h
  refine x_rg (rgn [hE] (⟨[(0, pS s_)], [], 0⟩)) ?_
  obtain ⟨x1, hx1, h⟩ := bind_some h
  refine x_rg (rg0 [hE, hN (.cal [] (.str x1) true), hE] (⟨[(0, pS x1)], [], 0⟩) (.cons (c131 hx1) .nil)) ?_
  refine x_seq ?_
  obtain ⟨t7, ht, h⟩ := bind_some h
  refine x_rg (st2 := ⟨[(0, pS x1), (23, pB t7)], [], 0⟩) ?_ ?_
  ·rcases Bool.eq_false_or_eq_true (decide (x1 = [])) with hg2 | hg2
   ·replace ht := ite_t ht hg2
    have e := Option.some.inj ht
    subst e
    exact rg0 [hE, hE, hE, hS, hS, hS, hN (.pk true), hE, hS, hS, hS, hE, hE, hS, hS, hS, hE] (⟨[(0, pS x1), (23, pB true)], [], 0⟩) (.cons hg2 (.cons hg2 (.cons hg2 (.cons hg2 (.cons tt (.cons tt (.cons tt (.cons tt (.cons tt (.cons tt .nil))))))))))
   ·replace ht := ite_f ht hg2
    rcases Bool.eq_false_or_eq_true (decide (32 < (List.length x1 : Int))) with hg3 | hg3
    ·replace ht := ite_t ht hg3
     have e := Option.some.inj ht
     subst e
     exact rg0 [hE, hE, hE, hY, hY, hY, hN (.pk false), hE, hS, hS, hS, hN (.pk true), hE, hS, hS, hS, hE] (⟨[(0, pS x1), (23, pB true)], [], 0⟩) (.cons hg2 (.cons hg2 (.cons hg2 (.cons hg2 (.cons hg3 (.cons hg3 (.cons hg3 (.cons hg3 (.cons tt (.cons tt (.cons tt .nil)))))))))))
    ·replace ht := ite_f ht hg3
     obtain ⟨c4, hc4, ht⟩ := bind_some ht
     rcases Bool.eq_false_or_eq_true (decide ((c4.toNat : Int) < 97)) with hg5 | hg5
     ·replace ht := ite_t ht hg5
      have e := Option.some.inj ht
      subst e
      exact rg0 [hE, hE, hE, hY, hY, hY, hN (.pk false), hE, hY, (.y, (.sAt c4)), hY, hN (.pk false), hE, hS, hS, hS, hN (.pk true)] (⟨[(0, pS x1), (23, pB true)], [], 0⟩) (.cons hg2 (.cons hg2 (.cons hg2 (.cons hg2 (.cons hg3 (.cons hg3 (.cons hc4 (.cons hg3 (.cons hg3 (.cons hg5 (.cons hg5 (.cons hg5 (.cons hg5 .nil)))))))))))))
     ·replace ht := ite_f ht hg5
      obtain ⟨c6, hc6, ht⟩ := bind_some ht
      have e := Option.some.inj ht
      subst e
      exact rg0 [hE, hE, hE, hY, hY, hY, hN (.pk false), hE, hY, (.y, (.sAt c4)), hY, hN (.pk false), hE, hY, (.y, (.sAt c6)), hY, hN (.pk false)] (⟨[(0, pS x1), (23, pB (decide (122 < (c6.toNat : Int))))], [], 0⟩) (.cons hg2 (.cons hg2 (.cons hg2 (.cons hg2 (.cons hg3 (.cons hg3 (.cons hc4 (.cons hg3 (.cons hg3 (.cons hg5 (.cons hg5 (.cons hc6 (.cons hg5 (.cons hg5 .nil))))))))))))))
  ·clear ht
   refine x_cond _ rfl (fun hc8 => ?_) (fun hc8 => ?_)
   ·replace h := ite_t h hc8
    refine x_rg (rgn [hE] (⟨[(2, pB false)], [], 0⟩)) ?_
    refine x_toret ?_
    refine x_tr ?_
    obtain rfl := Option.some.inj h
    exact ret0 (.bool false) (.refl _) (fun _ => rfl)
   ·replace h := ite_f h hc8
    refine kw0 (⟨[(0, pS x1)], [], 0⟩) ?_
    refine x_skip ?_
    refine x_tn ?_
    refine x_seq ?_
    refine x_rg (rgn [hE, hE, hE] (⟨[(0, pS x1), (25, pI (List.length x1 : Int)), (26, pI 0)], [], 0⟩)) ?_
    refine x_block ?_
    refine kw0 (⟨[(0, pS x1), (25, pI (List.length x1 : Int)), (26, pI 0)], [], 0⟩) ?_
    refine x_loop (σ := Int) h (fun s => ⟨[(0, pS x1), (25, pI (List.length x1 : Int)), (26, pI s)], [], 0⟩) (by kernel_rfl) ?_ ?_
    ·rintro v23
     kernel_rfl
    ·rintro v23 x24 h hx24
     replace h : attr_isName_L24 x1 v23 = some x24 := h
     unfold attr_isName_L24 at h
     refine x_rg (rgn [hE] (⟨[(0, pS x1), (25, pI (List.length x1 : Int)), (26, pI v23), (27, pB (decide (v23 < (List.length x1 : Int))))], [], 0⟩)) ?_
     refine x_seq ?_
     refine x_cond _ rfl (fun hc25 => ?_) (fun hc25 => ?_)
     ·replace h := ite_t h hc25
      refine kw0 (⟨[(0, pS x1), (25, pI (List.length x1 : Int)), (26, pI v23)], [], 0⟩) ?_
      refine x_skip ?_
      refine x_tn ?_
      refine x_seq ?_
      refine x_block ?_
      refine x_rg (rgn [hE, hE] (⟨[(0, pS x1), (3, pI v23), (25, pI (List.length x1 : Int)), (26, pI v23)], [], 0⟩)) ?_
      obtain ⟨c26, hc26, h⟩ := bind_some h
      refine x_rg (rg0 [hE, hE, hN (.sAt c26), hE] (⟨[(0, pS x1), (4, .pv (.int .u8 (c26.toNat : Int))), (25, pI (List.length x1 : Int)), (26, pI v23)], [], 0⟩) (.cons hc26 .nil)) ?_
      refine x_rg (st2 := ⟨[(0, pS x1), (25, pI (List.length x1 : Int)), (26, pI v23), (53, pB (if (decide ((c26.toNat : Int) < 97)) then (if (decide ((c26.toNat : Int) < 48)) then ((!decide ((c26.toNat : Int) = 45)) && (!decide ((c26.toNat : Int) = 95))) else ((decide (57 < (c26.toNat : Int))) && ((!decide ((c26.toNat : Int) = 45)) && (!decide ((c26.toNat : Int) = 95))))) else ((decide (122 < (c26.toNat : Int))) && (if (decide ((c26.toNat : Int) < 48)) then ((!decide ((c26.toNat : Int) = 45)) && (!decide ((c26.toNat : Int) = 95))) else ((decide (57 < (c26.toNat : Int))) && ((!decide ((c26.toNat : Int) = 45)) && (!decide ((c26.toNat : Int) = 95))))))))], [], 0⟩) ?_ ?_
      ·rcases Bool.eq_false_or_eq_true (decide ((c26.toNat : Int) < 97)) with hg27 | hg27
       ·rcases Bool.eq_false_or_eq_true (decide ((c26.toNat : Int) < 48)) with hg28 | hg28
        ·rcases Bool.eq_false_or_eq_true (!decide ((c26.toNat : Int) = 45)) with hg29 | hg29
         ·exact rg [hE, hE, hE, hS, hS, hN (.pk true), hE, hY, hY, hY, hS, hS, (.y, (.pk true)), hE, hE, hY, hY, hE, hE, hY, hY, hN (.pk true)] (⟨[(0, pS x1), (25, pI (List.length x1 : Int)), (26, pI v23), (53, pB (!decide ((c26.toNat : Int) = 95)))], [], 0⟩) (.cons hg27 (.cons hg27 (.cons hg27 (.cons tt (.cons tt (.cons tt (.cons hg28 (.cons hg28 (.cons tt (.cons hg28 (.cons tt (.cons tt (.cons hg29 (.cons hg29 (.cons hg29 .nil))))))))))))))) (.of_eq (by simp only [hg27, hg28, hg29, bs, reduceIte]))
         ·exact rg [hE, hE, hE, hS, hS, hN (.pk true), hE, hY, hY, hY, hS, hS, (.y, (.pk true)), hE, hE, hY, hY, hE, hE, hS, hS, hN (.pk false)] (⟨[(0, pS x1), (25, pI (List.length x1 : Int)), (26, pI v23), (53, pB false)], [], 0⟩) (.cons hg27 (.cons hg27 (.cons hg27 (.cons tt (.cons tt (.cons tt (.cons hg28 (.cons hg28 (.cons tt (.cons hg28 (.cons tt (.cons tt (.cons hg29 (.cons hg29 (.cons hg29 .nil))))))))))))))) (.of_eq (by simp only [hg27, hg28, hg29, bs, reduceIte]))
        ·rcases Bool.eq_false_or_eq_true (decide (57 < (c26.toNat : Int))) with hg30 | hg30
         ·rcases Bool.eq_false_or_eq_true (!decide ((c26.toNat : Int) = 45)) with hg31 | hg31
          ·exact rg [hE, hE, hE, hS, hS, hN (.pk true), hE, hY, hY, hY, hY, hY, (.y, (.pk false)), hE, hE, hY, hY, hN (.pk true), hE, hY, hY, hN (.pk true)] (⟨[(0, pS x1), (25, pI (List.length x1 : Int)), (26, pI v23), (53, pB (!decide ((c26.toNat : Int) = 95)))], [], 0⟩) (.cons hg27 (.cons hg27 (.cons hg27 (.cons tt (.cons tt (.cons tt (.cons hg28 (.cons hg28 (.cons tt (.cons hg28 (.cons hg30 (.cons hg30 (.cons hg30 (.cons hg31 (.cons hg31 (.cons hg31 .nil)))))))))))))))) (.of_eq (by simp only [hg27, hg28, hg30, hg31, bs, reduceIte]))
          ·exact rg [hE, hE, hE, hS, hS, hN (.pk true), hE, hY, hY, hY, hY, hY, (.y, (.pk false)), hE, hE, hY, hY, hN (.pk true), hE, hS, hS, hN (.pk false)] (⟨[(0, pS x1), (25, pI (List.length x1 : Int)), (26, pI v23), (53, pB false)], [], 0⟩) (.cons hg27 (.cons hg27 (.cons hg27 (.cons tt (.cons tt (.cons tt (.cons hg28 (.cons hg28 (.cons tt (.cons hg28 (.cons hg30 (.cons hg30 (.cons hg30 (.cons hg31 (.cons hg31 (.cons hg31 .nil)))))))))))))))) (.of_eq (by simp only [hg27, hg28, hg30, hg31, bs, reduceIte]))
         ·exact rg (obs := [((decide ((c26.toNat : Int) < 97)) = true), ((decide ((c26.toNat : Int) < 97)) = true), ((decide ((c26.toNat : Int) < 97)) = true), (true = true), (true = true), (true = true), ((decide ((c26.toNat : Int) < 48)) = false), ((decide ((c26.toNat : Int) < 48)) = false), (true = true), ((decide ((c26.toNat : Int) < 48)) = false), ((decide (57 < (c26.toNat : Int))) = false), ((decide (57 < (c26.toNat : Int))) = false), ((decide (57 < (c26.toNat : Int))) = false), (false = false), (false = false)]) [hE, hE, hE, hS, hS, hN (.pk true), hE, hY, hY, hY, hY, hY, (.y, (.pk false)), hE, hE, hS, hS, hN (.pk false), hE, hS, hS, hE] (⟨[(0, pS x1), (25, pI (List.length x1 : Int)), (26, pI v23), (53, pB false)], [], 0⟩) (.cons hg27 (.cons hg27 (.cons hg27 (.cons rfl (.cons rfl (.cons rfl (.cons hg28 (.cons hg28 (.cons rfl (.cons hg28 (.cons hg30 (.cons hg30 (.cons hg30 (.cons rfl (.cons rfl .nil))))))))))))))) (.of_eq (by simp only [hg27, hg28, hg30, bs, reduceIte]))
       ·rcases Bool.eq_false_or_eq_true (decide (122 < (c26.toNat : Int))) with hg32 | hg32
        ·rcases Bool.eq_false_or_eq_true (decide ((c26.toNat : Int) < 48)) with hg33 | hg33
         ·rcases Bool.eq_false_or_eq_true (!decide ((c26.toNat : Int) = 45)) with hg34 | hg34
          ·exact rg [hE, hE, hE, hY, hY, hN (.pk false), hE, hY, hY, hY, hS, hS, (.y, (.pk true)), hN (.pk true), hE, hY, hY, hE, hE, hY, hY, hN (.pk true)] (⟨[(0, pS x1), (25, pI (List.length x1 : Int)), (26, pI v23), (53, pB (!decide ((c26.toNat : Int) = 95)))], [], 0⟩) (.cons hg27 (.cons hg27 (.cons hg27 (.cons hg32 (.cons hg32 (.cons hg32 (.cons hg33 (.cons hg33 (.cons hg32 (.cons hg33 (.cons hg32 (.cons tt (.cons tt (.cons hg34 (.cons hg34 (.cons hg34 .nil)))))))))))))))) (.of_eq (by simp only [hg27, hg32, hg33, hg34, bs, reduceIte]))
          ·exact rg [hE, hE, hE, hY, hY, hN (.pk false), hE, hY, hY, hY, hS, hS, (.y, (.pk true)), hN (.pk true), hE, hY, hY, hE, hE, hS, hS, hN (.pk false)] (⟨[(0, pS x1), (25, pI (List.length x1 : Int)), (26, pI v23), (53, pB false)], [], 0⟩) (.cons hg27 (.cons hg27 (.cons hg27 (.cons hg32 (.cons hg32 (.cons hg32 (.cons hg33 (.cons hg33 (.cons hg32 (.cons hg33 (.cons hg32 (.cons tt (.cons tt (.cons hg34 (.cons hg34 (.cons hg34 .nil)))))))))))))))) (.of_eq (by simp only [hg27, hg32, hg33, hg34, bs, reduceIte]))
         ·rcases Bool.eq_false_or_eq_true (decide (57 < (c26.toNat : Int))) with hg35 | hg35
          ·rcases Bool.eq_false_or_eq_true (!decide ((c26.toNat : Int) = 45)) with hg36 | hg36
           ·exact rg [hE, hE, hE, hY, hY, hN (.pk false), hE, hY, hY, hY, hY, hY, (.y, (.pk false)), hN (.pk true), hE, hY, hY, hN (.pk true), hE, hY, hY, hN (.pk true)] (⟨[(0, pS x1), (25, pI (List.length x1 : Int)), (26, pI v23), (53, pB (!decide ((c26.toNat : Int) = 95)))], [], 0⟩) (.cons hg27 (.cons hg27 (.cons hg27 (.cons hg32 (.cons hg32 (.cons hg32 (.cons hg33 (.cons hg33 (.cons hg32 (.cons hg33 (.cons hg32 (.cons hg35 (.cons hg35 (.cons hg35 (.cons hg36 (.cons hg36 (.cons hg36 .nil))))))))))))))))) (.of_eq (by simp only [hg27, hg32, hg33, hg35, hg36, bs, reduceIte]))
           ·exact rg [hE, hE, hE, hY, hY, hN (.pk false), hE, hY, hY, hY, hY, hY, (.y, (.pk false)), hN (.pk true), hE, hY, hY, hN (.pk true), hE, hS, hS, hN (.pk false)] (⟨[(0, pS x1), (25, pI (List.length x1 : Int)), (26, pI v23), (53, pB false)], [], 0⟩) (.cons hg27 (.cons hg27 (.cons hg27 (.cons hg32 (.cons hg32 (.cons hg32 (.cons hg33 (.cons hg33 (.cons hg32 (.cons hg33 (.cons hg32 (.cons hg35 (.cons hg35 (.cons hg35 (.cons hg36 (.cons hg36 (.cons hg36 .nil))))))))))))))))) (.of_eq (by simp only [hg27, hg32, hg33, hg35, hg36, bs, reduceIte]))
          ·exact rg (obs := [((decide ((c26.toNat : Int) < 97)) = false), ((decide ((c26.toNat : Int) < 97)) = false), ((decide ((c26.toNat : Int) < 97)) = false), ((decide (122 < (c26.toNat : Int))) = true), ((decide (122 < (c26.toNat : Int))) = true), ((decide (122 < (c26.toNat : Int))) = true), ((decide ((c26.toNat : Int) < 48)) = false), ((decide ((c26.toNat : Int) < 48)) = false), ((decide (122 < (c26.toNat : Int))) = true), ((decide ((c26.toNat : Int) < 48)) = false), ((decide (122 < (c26.toNat : Int))) = true), ((decide (57 < (c26.toNat : Int))) = false), ((decide (57 < (c26.toNat : Int))) = false), ((decide (57 < (c26.toNat : Int))) = false), (false = false), (false = false)]) [hE, hE, hE, hY, hY, hN (.pk false), hE, hY, hY, hY, hY, hY, (.y, (.pk false)), hN (.pk true), hE, hS, hS, hN (.pk false), hE, hS, hS, hE] (⟨[(0, pS x1), (25, pI (List.length x1 : Int)), (26, pI v23), (53, pB false)], [], 0⟩) (.cons hg27 (.cons hg27 (.cons hg27 (.cons hg32 (.cons hg32 (.cons hg32 (.cons hg33 (.cons hg33 (.cons hg32 (.cons hg33 (.cons hg32 (.cons hg35 (.cons hg35 (.cons hg35 (.cons rfl (.cons rfl .nil)))))))))))))))) (.of_eq (by simp only [hg27, hg32, hg33, hg35, bs, reduceIte]))
        ·exact rg (obs := [((decide ((c26.toNat : Int) < 97)) = false), ((decide ((c26.toNat : Int) < 97)) = false), ((decide ((c26.toNat : Int) < 97)) = false), ((decide (122 < (c26.toNat : Int))) = false), ((decide (122 < (c26.toNat : Int))) = false), ((decide (122 < (c26.toNat : Int))) = false), ((decide (122 < (c26.toNat : Int))) = false), ((decide (122 < (c26.toNat : Int))) = false), (false = false), (false = false), (false = false), (false = false)]) [hE, hE, hE, hY, hY, hN (.pk false), hE, hS, hS, hS, (.u, .e), (.u, .e), hS, hN (.pk false), hE, hS, hS, hE, hE, hS, hS, hE] (⟨[(0, pS x1), (25, pI (List.length x1 : Int)), (26, pI v23), (53, pB false)], [], 0⟩) (.cons hg27 (.cons hg27 (.cons hg27 (.cons hg32 (.cons hg32 (.cons hg32 (.cons hg32 (.cons hg32 (.cons rfl (.cons rfl (.cons rfl (.cons rfl .nil)))))))))))) (.of_eq (by simp only [hg27, hg32, bs, reduceIte]))
      ·refine x_cond _ rfl (fun hc38 => ?_) (fun hc38 => ?_)
       ·replace h := ite_t h hc38
        refine x_rg (rgn [hE] (⟨[(2, pB false)], [], 0⟩)) ?_
        refine x_toret ?_
        refine x_br ?_
        refine x_tr ?_
        refine x_tr ?_
        replace h := done_leaf h hx24
        refine x_br ?_
        refine x_tr ?_
        obtain rfl := Option.some.inj h
        exact ret0 (.bool false) (.refl _) (fun _ => rfl)
       ·replace h := ite_f h hc38
        refine kw0 (⟨[(0, pS x1), (25, pI (List.length x1 : Int)), (26, pI v23)], [], 0⟩) ?_
        refine x_skip ?_
        refine x_bn ?_
        refine x_tn ?_
        refine x_rgt (rgn [hE, hE] (⟨[(0, pS x1), (25, pI (List.length x1 : Int)), (26, pI (IntKind.wrap .i64 (v23 + 1)))], [], 0⟩)) ?_
        refine x_tn ?_
        exact ⟨_, (Option.some.inj h).symm, by kernel_rfl⟩
     ·replace h := ite_f h hc25
      refine kw0 (⟨[], [], 0⟩) ?_
      refine x_exit ?_
      refine x_te ?_
      refine x_te ?_
      replace h := done_leaf h hx24
      refine x_bh ?_
      refine x_tn ?_
      refine x_rg (rgn [hE] (⟨[(2, pB true)], [], 0⟩)) ?_
      refine x_toret ?_
      obtain rfl := Option.some.inj h
      exact ret0 (.bool true) (.refl _) (fun _ => rfl)

theorem c119 {b : api_Attr} {a1 : api_Attr} {r : Bool} (h : attr_check_1 b a1 = some r) : CallOK Tryd.prog 119 [enc_api_Attr b, .rptr (some 3) (enc_api_Attr a1) 0] (.bool r) true := by
  apply ok119
  unfold attr_check_1 at h
  refine x_rg (rgn [hE, hE] (⟨[(1, .pv (.rptr (some 3) (enc_api_Attr a1) 0)), (2, .optr 0 0 0)], [(0, some (.p (some 3) [enc_api_Attr b]))], 1⟩)) ?_
  refine x_rg (rgn [hE, hE, hE, hE, hE, hE] (⟨[(3, pB (decide (b.Name = a1.Name)))], [], 0⟩)) ?_
  refine x_toret ?_
  obtain rfl := Option.some.inj h
  exact ret0 (.bool (decide (b.Name = a1.Name))) (.refl _) (fun _ => rfl)

theorem c99_f119 {s_ : (List api_Attr)} {f : api_Attr} {r : Int} (h : slices_IndexFunc_api_Attr_api_Attr_f119 s_ f = some r) : CallOK Tryd.prog 99 [.sl (some 3) (List.map enc_api_Attr s_), .fn 119 [.rptr (some 3) (enc_api_Attr f) 0]] (.int .i64 r) true := by
  apply ok99
  unfold slices_IndexFunc_api_Attr_api_Attr_f119 at h
  refine x_rg (rgn [hE] (⟨[(0, pL (some 3) enc_api_Attr s_), (1, .pv (.fn 119 [.rptr (some 3) (enc_api_Attr f) 0]))], [], 0⟩)) ?_
  refine x_seq ?_
  refine x_rg (rg0 [hE, hN (.len (List.length s_ : Int)), hE] (⟨[(0, pL (some 3) enc_api_Attr s_), (1, .pv (.fn 119 [.rptr (some 3) (enc_api_Attr f) 0])), (7, pI (List.length s_ : Int)), (8, pI 0)], [], 0⟩) (.cons (lenM enc_api_Attr s_) .nil)) ?_
  refine x_block ?_
  refine kw0 (⟨[(0, pL (some 3) enc_api_Attr s_), (1, .pv (.fn 119 [.rptr (some 3) (enc_api_Attr f) 0])), (7, pI (List.length s_ : Int)), (8, pI 0)], [], 0⟩) ?_
  refine x_loop (σ := Int) h (fun s => ⟨[(0, pL (some 3) enc_api_Attr s_), (1, .pv (.fn 119 [.rptr (some 3) (enc_api_Attr f) 0])), (7, pI (List.length s_ : Int)), (8, pI s)], [], 0⟩) (by kernel_rfl) ?_ ?_
  ·rintro v5
   kernel_rfl
  ·rintro v5 x6 h hx6
   replace h : slices_IndexFunc_api_Attr_api_Attr_f119_L6 s_ f v5 = some x6 := h
   unfold slices_IndexFunc_api_Attr_api_Attr_f119_L6 at h
   refine x_rg (rgn [hE] (⟨[(0, pL (some 3) enc_api_Attr s_), (1, .pv (.fn 119 [.rptr (some 3) (enc_api_Attr f) 0])), (7, pI (List.length s_ : Int)), (8, pI v5), (9, pB (decide (v5 < (List.length s_ : Int))))], [], 0⟩)) ?_
   refine x_seq ?_
   refine x_cond _ rfl (fun hc7 => ?_) (fun hc7 => ?_)
   ·replace h := ite_t h hc7
    refine kw0 (⟨[(0, pL (some 3) enc_api_Attr s_), (1, .pv (.fn 119 [.rptr (some 3) (enc_api_Attr f) 0])), (7, pI (List.length s_ : Int)), (8, pI v5)], [], 0⟩) ?_
    refine x_skip ?_
    refine x_tn ?_
    refine x_seq ?_
    refine x_block ?_
    refine x_rg (rgn [hE, hE] (⟨[(0, pL (some 3) enc_api_Attr s_), (1, .pv (.fn 119 [.rptr (some 3) (enc_api_Attr f) 0])), (5, pI v5), (7, pI (List.length s_ : Int)), (8, pI v5)], [], 0⟩)) ?_
    obtain ⟨x8, hx8, h⟩ := bind_some h
    obtain ⟨x9, hx9, h⟩ := bind_some h
    refine x_rg (rg0 [hE, hE, hE, hN (.pAt (enc_api_Attr x8)), hE, hN (.cal [] (.bool x9) true)] (⟨[(0, pL (some 3) enc_api_Attr s_), (1, .pv (.fn 119 [.rptr (some 3) (enc_api_Attr f) 0])), (5, pI v5), (7, pI (List.length s_ : Int)), (8, pI v5), (16, pB x9)], [], 0⟩) (.cons (lsAt_map (f := enc_api_Attr) hx8) (.cons (c119 hx9) .nil))) ?_
    refine x_cond _ rfl (fun hc10 => ?_) (fun hc10 => ?_)
    ·replace h := ite_t h hc10
     refine x_rg (rgn [hE, hE] (⟨[(4, pI v5)], [], 0⟩)) ?_
     refine x_toret ?_
     refine x_br ?_
     refine x_tr ?_
     refine x_tr ?_
     replace h := done_leaf h hx6
     refine x_br ?_
     refine x_tr ?_
     obtain rfl := Option.some.inj h
     exact ret0 (.int .i64 v5) (.refl _) (fun _ => rfl)
    ·replace h := ite_f h hc10
     refine kw0 (⟨[(0, pL (some 3) enc_api_Attr s_), (1, .pv (.fn 119 [.rptr (some 3) (enc_api_Attr f) 0])), (7, pI (List.length s_ : Int)), (8, pI v5)], [], 0⟩) ?_
     refine x_skip ?_
     refine x_bn ?_
     refine x_tn ?_
     refine x_rgt (rgn [hE, hE] (⟨[(0, pL (some 3) enc_api_Attr s_), (1, .pv (.fn 119 [.rptr (some 3) (enc_api_Attr f) 0])), (7, pI (List.length s_ : Int)), (8, pI (IntKind.wrap .i64 (v5 + 1)))], [], 0⟩)) ?_
     refine x_tn ?_
     exact ⟨_, (Option.some.inj h).symm, by kernel_rfl⟩
   ·replace h := ite_f h hc7
    refine kw0 (⟨[], [], 0⟩) ?_
    refine x_exit ?_
    refine x_te ?_
    refine x_te ?_
    replace h := done_leaf h hx6
    refine x_bh ?_
    refine x_tn ?_
    refine x_rg (rgn [hE] (⟨[(4, pI (-1))], [], 0⟩)) ?_
    refine x_toret ?_
    obtain rfl := Option.some.inj h
    exact ret0 (.int .i64 (-1)) (.refl _) (fun _ => rfl)

theorem c80_f119 {s_ : (List api_Attr)} {f : api_Attr} {r : Bool} (h : slices_ContainsFunc_api_Attr_api_Attr_f119 s_ f = some r) : CallOK Tryd.prog 80 [.sl (some 3) (List.map enc_api_Attr s_), .fn 119 [.rptr (some 3) (enc_api_Attr f) 0]] (.bool r) true := by
  apply ok80
  unfold slices_ContainsFunc_api_Attr_api_Attr_f119 at h
  refine x_rg (rgn [hE] (⟨[(0, pL (some 3) enc_api_Attr s_), (1, .pv (.fn 119 [.rptr (some 3) (enc_api_Attr f) 0]))], [], 0⟩)) ?_
  obtain ⟨x1, hx1, h⟩ := bind_some h
  refine x_rg (rg0 [hE, hE, hN (.cal [] (.int .i64 x1) true), hE, hE] (⟨[(4, pB (decide (0 ≤ x1)))], [], 0⟩) (.cons (c99_f119 hx1) .nil)) ?_
  refine x_toret ?_
  obtain rfl := Option.some.inj h
  exact ret0 (.bool (decide (0 ≤ x1))) (.refl _) (fun _ => rfl)

theorem c95 {before : (List api_Attr)} {a : api_Attr} {r : Int} (h : attr_check before a = some r) : CallOK Tryd.prog 95 [.sl (some 3) (List.map enc_api_Attr before), enc_api_Attr a] (.int .i64 r) true := by
  apply ok95
  unfold attr_check at h
  refine x_rg (rgn [hE, hE] (⟨[(0, pL (some 3) enc_api_Attr before), (3, .optr 0 0 0)], [(0, some (.p (some 3) [enc_api_Attr a]))], 1⟩)) ?_
  refine x_seq ?_
  refine x_block ?_
  refine x_rg (rg0 [hE, hN (.len (List.length before : Int)), hE, hE] (⟨[(0, pL (some 3) enc_api_Attr before), (3, .optr 0 0 0), (5, pB (decide (32 ≤ (List.length before : Int))))], [(0, some (.p (some 3) [enc_api_Attr a]))], 1⟩) (.cons (lenM enc_api_Attr before) .nil)) ?_
  refine x_cond _ rfl (fun hc1 => ?_) (fun hc1 => ?_)
  ·replace h := ite_t h hc1
   refine x_rg (rgn [hE] (⟨[(4, pI 22)], [], 0⟩)) ?_
   refine x_toret ?_
   refine x_br ?_
   refine x_tr ?_
   obtain rfl := Option.some.inj h
   exact ret0 (.int .i64 22) (.refl _) (fun _ => rfl)
  ·replace h := ite_f h hc1
   obtain ⟨x2, hx2, h⟩ := bind_some h
   refine x_rg (rg0 [hE, hE, hN (.cal [] (.bool x2) true), hE, hE] (⟨[(0, pL (some 3) enc_api_Attr before), (3, .optr 0 0 0), (9, pB (!x2))], [(0, some (.p (some 3) [enc_api_Attr a]))], 1⟩) (.cons (c118 hx2) .nil)) ?_
   refine x_cond _ rfl (fun hc3 => ?_) (fun hc3 => ?_)
   ·replace h := ite_t h hc3
    refine x_rg (rgn [hE] (⟨[(4, pI 6)], [], 0⟩)) ?_
    refine x_toret ?_
    refine x_br ?_
    refine x_tr ?_
    obtain rfl := Option.some.inj h
    exact ret0 (.int .i64 6) (.refl _) (fun _ => rfl)
   ·replace h := ite_f h hc3
    refine x_rg (st2 := ⟨[(0, pL (some 3) enc_api_Attr before), (3, .optr 0 0 0), (14, pB (a.Query && (!decide (a.Value = []))))], [(0, some (.p (some 3) [enc_api_Attr a]))], 1⟩) ?_ ?_
    ·rcases Bool.eq_false_or_eq_true a.Query with hg4 | hg4
     ·exact rg [hE, hE, hE, hY, hY, hY, hN (.pk true), hE] (⟨[(0, pL (some 3) enc_api_Attr before), (3, .optr 0 0 0), (14, pB (!decide (a.Value = [])))], [(0, some (.p (some 3) [enc_api_Attr a]))], 1⟩) (.cons hg4 (.cons hg4 (.cons hg4 (.cons hg4 .nil)))) (.of_eq (by simp only [hg4, bs, reduceIte]))
     ·exact rg [hE, hE, hE, hS, hS, hS, hN (.pk false), hE] (⟨[(0, pL (some 3) enc_api_Attr before), (3, .optr 0 0 0), (14, pB false)], [(0, some (.p (some 3) [enc_api_Attr a]))], 1⟩) (.cons hg4 (.cons hg4 (.cons hg4 (.cons hg4 .nil)))) (.of_eq (by simp only [hg4, bs, reduceIte]))
    ·refine x_cond _ rfl (fun hc6 => ?_) (fun hc6 => ?_)
     ·replace h := ite_t h hc6
      refine x_rg (rgn [hE] (⟨[(4, pI 2)], [], 0⟩)) ?_
      refine x_toret ?_
      refine x_br ?_
      refine x_tr ?_
      obtain rfl := Option.some.inj h
      exact ret0 (.int .i64 2) (.refl _) (fun _ => rfl)
     ·replace h := ite_f h hc6
      obtain ⟨x7, hx7, h⟩ := bind_some h
      refine x_rg (rg0 [hE, hE, hN (.cal [] (.int .i64 x7) true), hE, hE, hE, hE, hE] (⟨[(0, pL (some 3) enc_api_Attr before), (3, .optr 0 0 0), (22, pB (decide (x7 < (List.length a.Value : Int))))], [(0, some (.p (some 3) [enc_api_Attr a]))], 1⟩) (.cons (c104 hx7) .nil)) ?_
      refine x_cond _ rfl (fun hc8 => ?_) (fun hc8 => ?_)
      ·replace h := ite_t h hc8
       refine x_rg (rgn [hE] (⟨[(4, pI 2)], [], 0⟩)) ?_
       refine x_toret ?_
       refine x_br ?_
       refine x_tr ?_
       obtain rfl := Option.some.inj h
       exact ret0 (.int .i64 2) (.refl _) (fun _ => rfl)
      ·replace h := ite_f h hc8
       refine x_rg (rgn [hE, hE, hE, hE, hE] (⟨[(0, pL (some 3) enc_api_Attr before), (3, .optr 0 0 0), (30, pB (decide (1024 < (List.length a.Value : Int))))], [(0, some (.p (some 3) [enc_api_Attr a]))], 1⟩)) ?_
       refine x_cond _ rfl (fun hc9 => ?_) (fun hc9 => ?_)
       ·replace h := ite_t h hc9
        refine x_rg (rgn [hE] (⟨[(4, pI 4)], [], 0⟩)) ?_
        refine x_toret ?_
        refine x_br ?_
        refine x_tr ?_
        obtain rfl := Option.some.inj h
        exact ret0 (.int .i64 4) (.refl _) (fun _ => rfl)
       ·replace h := ite_f h hc9
        obtain ⟨x10, hx10, h⟩ := bind_some h
        refine x_rg (rg0 [hE, hE, hN (.cal [] (.bool x10) true), hE] (⟨[(35, pB x10)], [], 0⟩) (.cons (c80_f119 hx10) .nil)) ?_
        refine x_cond _ rfl (fun hc11 => ?_) (fun hc11 => ?_)
        ·replace h := ite_t h hc11
         refine x_rg (rgn [hE] (⟨[(4, pI 7)], [], 0⟩)) ?_
         refine x_toret ?_
         refine x_br ?_
         refine x_tr ?_
         obtain rfl := Option.some.inj h
         exact ret0 (.int .i64 7) (.refl _) (fun _ => rfl)
        ·replace h := ite_f h hc11
         refine kw0 (⟨[], [], 0⟩) ?_
         refine x_skip ?_
         refine x_bn ?_
         refine x_tn ?_
         refine x_rg (rgn [hE] (⟨[(4, pI 0)], [], 0⟩)) ?_
         refine x_toret ?_
         obtain rfl := Option.some.inj h
         exact ret0 (.int .i64 0) (.refl _) (fun _ => rfl)

theorem c67 {s_ : Str} {r : ((List api_Attr) × Int × Int)} (h : attr_Parse s_ = some r) : CallOK Tryd.prog 67 [.str s_] (.tup [.usl (some 3) (List.map enc_api_Attr r.1), .int .i64 r.2.1, .int .i64 r.2.2]) true := by
  apply ok67
  unfold attr_Parse at h
  refine x_rg (rgn [hE, hE, hE] (⟨[(0, pS s_)], [], 0⟩)) ?_
  refine x_rg (st2 := { tm := [(0, .pv (.str s_)), (5, .osl 0 0 (List.map enc_api_Attr ([] : List api_Attr)).length)], hp := [(0, some (.p (some 3) (List.map enc_api_Attr ([] : List api_Attr))))], nx := 1 }) (rg [hE] ({ tm := [(0, .pv (.str s_)), (5, .pv (.nilsl))], hp := [], nx := 0 }) .nil ((Sub.keep (ks := [0, 5]) (st := ownSt 5 (some 3) ({ tm := [(0, .pv (.str s_)), (5, .pv (.nilsl))], hp := [], nx := 0 })) (st' := { tm := [(0, .pv (.str s_)), (5, .osl 0 0 (List.map enc_api_Attr ([] : List api_Attr)).length)], hp := [(0, some (.p (some 3) (List.map enc_api_Attr ([] : List api_Attr))))], nx := 1 }) (by kernel_rfl)).trans (own_sound 5 (some 3) ({ tm := [(0, .pv (.str s_)), (5, .pv (.nilsl))], hp := [], nx := 0 })))) ?_
  refine x_seq ?_
  refine x_rg (rgn [hE] (⟨[(0, pS s_), (5, oL 0 enc_api_Attr ([] : List api_Attr)), (6, pI 0)], [(0, rL (some 3) enc_api_Attr ([] : List api_Attr))], 1⟩)) ?_
  refine x_block ?_
  refine kw0 (⟨[(0, pS s_), (5, oL 0 enc_api_Attr ([] : List api_Attr)), (6, pI 0)], [(0, rL (some 3) enc_api_Attr ([] : List api_Attr))], 1⟩) ?_
  refine x_loop (σ := (Int × (List api_Attr))) h (fun s => ⟨[(0, pS s_), (5, oL 0 enc_api_Attr s.2), (6, pI s.1)], [(0, rL (some 3) enc_api_Attr s.2)], 1⟩) (by kernel_rfl) ?_ ?_
  ·rintro ⟨i, out⟩
   kernel_rfl
  ·rintro ⟨i, out⟩ x15 h hx15
   replace h : attr_Parse_L15 s_ i out = some x15 := h
   unfold attr_Parse_L15 at h
   refine x_seq ?_
   refine x_rg (rgn [hE, hE, hE, hE] (⟨[(0, pS s_), (5, oL 0 enc_api_Attr out), (6, pI i), (13, pB (decide (i < (List.length s_ : Int))))], [(0, rL (some 3) enc_api_Attr out)], 1⟩)) ?_
   refine x_cond _ rfl (fun hc16 => ?_) (fun hc16 => ?_)
   ·replace h := ite_t h hc16
    refine kw0 (⟨[(0, pS s_), (5, oL 0 enc_api_Attr out), (6, pI i)], [(0, rL (some 3) enc_api_Attr out)], 1⟩) ?_
    refine x_skip ?_
    refine x_tn ?_
    refine x_block ?_
    refine x_seq ?_
    obtain ⟨c17, hc17, h⟩ := bind_some h
    obtain ⟨x18, hx18, h⟩ := bind_some h
    refine x_rg (rg0 [hE, hE, hN (.sAt c17), hN (.cal [] (.bool x18) true)] (⟨[(0, pS s_), (5, oL 0 enc_api_Attr out), (6, pI i), (17, pB x18)], [(0, rL (some 3) enc_api_Attr out)], 1⟩) (.cons hc17 (.cons (c93 hx18) .nil))) ?_
    refine x_cond _ rfl (fun hc19 => ?_) (fun hc19 => ?_)
    ·replace h := ite_t h hc19
     refine x_rg (rgn [hE, hE, hE] (⟨[(0, pS s_), (5, oL 0 enc_api_Attr out), (6, pI (IntKind.wrap .i64 (i + 1)))], [(0, rL (some 3) enc_api_Attr out)], 1⟩)) ?_
     refine kw0 (⟨[(0, pS s_), (5, oL 0 enc_api_Attr out), (6, pI (IntKind.wrap .i64 (i + 1)))], [(0, rL (some 3) enc_api_Attr out)], 1⟩) ?_
     refine x_exit ?_
     refine x_te ?_
     refine x_bh ?_
     refine x_tn ?_
     exact ⟨_, (Option.some.inj h).symm, by kernel_rfl⟩
    ·replace h := ite_f h hc19
     refine kw0 (⟨[(0, pS s_), (5, oL 0 enc_api_Attr out), (6, pI i)], [(0, rL (some 3) enc_api_Attr out)], 1⟩) ?_
     refine x_skip ?_
     refine x_tn ?_
     obtain ⟨x20, hx20, h⟩ := bind_some h
     obtain ⟨x21, hx21, h⟩ := bind_some h
     refine x_rg (rg0 [hE, hE, hN (.cutS x20), hN (.cal [] (.tup [enc_api_Attr x21.1, .int .i64 x21.2.1, .int .i64 x21.2.2]) true), hE, hE, hE, hE, hE, hE, hE, hE] (⟨[(0, pS s_), (5, oL 0 enc_api_Attr out), (6, pI i), (7, .optr 1 0 0), (8, pI x21.2.1), (9, pI x21.2.2)], [(0, rL (some 3) enc_api_Attr out), (1, some (.p (some 3) [enc_api_Attr x21.1]))], 2⟩) (.cons hx20 (.cons (c94 hx21) .nil))) ?_
     refine x_join (τ := Int) (fun t => attr_Parse_K22 i out x21 t = some x15) (fun t => { tm := [(0, .pv (.str s_)), (5, .osl 0 0 (List.map enc_api_Attr out).length), (6, .pv (.int .i64 i)), (7, .optr 1 0 0), (8, .pv (.int .i64 x21.2.1)), (9, .pv (.int .i64 t))], hp := [(0, some (.p (some 3) (List.map enc_api_Attr out))), (1, some (.p (some 3) [enc_api_Attr x21.1]))], nx := 2 }) ?_ ?_
     ·rintro p23 h
      replace h : attr_Parse_K22 i out x21 p23 = some x15 := h
      unfold attr_Parse_K22 at h
      refine x_seq ?_
      refine x_rg (rgn [hE, hE] (⟨[(0, pS s_), (5, oL 0 enc_api_Attr out), (6, pI i), (7, .optr 1 0 0), (8, pI x21.2.1), (9, pI p23), (34, pB (!decide (p23 = 0)))], [(0, rL (some 3) enc_api_Attr out), (1, some (.p (some 3) [enc_api_Attr x21.1]))], 2⟩)) ?_
      refine x_cond _ rfl (fun hc24 => ?_) (fun hc24 => ?_)
      ·replace h := ite_t h hc24
       refine x_rg (rgn [hE, hE, hE, hE, hE] (⟨[(2, .pv (.nilsl)), (3, pI i), (4, pI p23)], [], 0⟩)) ?_
       refine x_toret ?_
       refine x_tr ?_
       refine x_br ?_
       refine x_tr ?_
       replace h := done_leaf h hx15
       refine x_br ?_
       refine x_tr ?_
       obtain rfl := Option.some.inj h
       exact ret0 (.tup [.nilsl, .int .i64 i, .int .i64 p23]) (.tup (.cons (.nilUsl _) (.cons (.refl _) (.cons (.refl _) .nil)))) (fun _ => tup_ns (.cons (usl_ns (sh := (some 3)) (fun _ => rfl)) (.cons rfl (.cons rfl .nil))))
      ·replace h := ite_f h hc24
       refine kw0 (⟨[(0, pS s_), (5, oL 0 enc_api_Attr out), (6, pI i), (7, .optr 1 0 0), (8, pI x21.2.1)], [(0, rL (some 3) enc_api_Attr out), (1, some (.p (some 3) [enc_api_Attr x21.1]))], 2⟩) ?_
       refine x_skip ?_
       refine x_tn ?_
       obtain ⟨x25, hx25, h⟩ := bind_some h
       refine x_rg (rg0 (obs := [(List.take (List.map enc_api_Attr out).length (List.map enc_api_Attr out) ++ List.take 1 (List.drop 0 ([enc_api_Attr x21.1] : List PV)) = (List.map enc_api_Attr x25)), (List.length (List.map enc_api_Attr x25) * 40 ≤ 140737488355328), (List.length (List.map enc_api_Attr x25) ≤ 9223372036854775807), ((List.map enc_api_Attr out).length ≤ List.length (List.map enc_api_Attr out)), (0 + 1 ≤ List.length ([enc_api_Attr x21.1] : List PV))]) [hE, hE, hE, hN (.app (List.map enc_api_Attr x25)), hE] (⟨[(0, pS s_), (5, oL 0 enc_api_Attr x25), (6, pI i), (8, pI x21.2.1)], [(0, rL (some 3) enc_api_Attr x25)], 1⟩) (.cons (app_ob hx25 (.all _) (.rfl _)) (.cons (by rw [List.length_map]; exact (appL_ok hx25).2.1) (.cons (by rw [List.length_map]; exact (appL_ok hx25).2.2) (.cons (Nat.le_refl _) (.cons (by simp) .nil)))))) ?_
       refine x_rgt (rgn [hE, hE, hE, hE] (⟨[(0, pS s_), (5, oL 0 enc_api_Attr x25), (6, pI (IntKind.wrap .i64 (i + x21.2.1)))], [(0, rL (some 3) enc_api_Attr x25)], 1⟩)) ?_
       refine x_bn ?_
       refine x_tn ?_
       exact ⟨_, (Option.some.inj h).symm, by kernel_rfl⟩
     ·refine x_rg (rgn [hE, hE] (⟨[(0, pS s_), (5, oL 0 enc_api_Attr out), (6, pI i), (7, .optr 1 0 0), (8, pI x21.2.1), (9, pI x21.2.2), (29, pB (decide (x21.2.2 = 0)))], [(0, rL (some 3) enc_api_Attr out), (1, some (.p (some 3) [enc_api_Attr x21.1]))], 2⟩)) ?_
      refine x_cond _ rfl (fun hc26 => ?_) (fun hc26 => ?_)
      ·replace h := ite_t h hc26
       obtain ⟨x27, hx27, h⟩ := bind_some h
       refine x_rgt (rg0 (obs := [(LesA [.sl (some 3) (List.take (List.map enc_api_Attr out).length (List.drop 0 (List.map enc_api_Attr out))), enc_api_Attr x21.1] [.sl (some 3) (List.map enc_api_Attr out), enc_api_Attr x21.1]), (CallOK Tryd.prog 95 [.sl (some 3) (List.map enc_api_Attr out), enc_api_Attr x21.1] (.int .i64 x27) true), (0 + (List.map enc_api_Attr out).length ≤ List.length (List.map enc_api_Attr out))]) [hE, hE, hN (.call [] [.sl (some 3) (List.map enc_api_Attr out), enc_api_Attr x21.1] (.int .i64 x27) true), hE] (⟨[(0, pS s_), (5, oL 0 enc_api_Attr out), (6, pI i), (7, .optr 1 0 0), (8, pI x21.2.1), (9, pI x27)], [(0, rL (some 3) enc_api_Attr out), (1, some (.p (some 3) [enc_api_Attr x21.1]))], 2⟩) (.cons (.cons (.of_eq (by rw [List.drop_zero, List.take_length])) (.cons (.refl _) .nil)) (.cons (c95 hx27) (.cons (by simp) .nil)))) ?_
       refine x_tn ?_
       exact ⟨x27, h, by kernel_rfl⟩
      ·replace h := ite_f h hc26
       refine kw0 (⟨[(0, pS s_), (5, oL 0 enc_api_Attr out), (6, pI i), (7, .optr 1 0 0), (8, pI x21.2.1), (9, pI x21.2.2)], [(0, rL (some 3) enc_api_Attr out), (1, some (.p (some 3) [enc_api_Attr x21.1]))], 2⟩) ?_
       refine x_skip ?_
       refine x_tn ?_
       exact ⟨x21.2.2, h, by kernel_rfl⟩
   ·replace h := ite_f h hc16
    refine kw0 (⟨[(5, oL 0 enc_api_Attr out)], [(0, rL (some 3) enc_api_Attr out)], 1⟩) ?_
    refine x_exit ?_
    refine x_te ?_
    refine x_te ?_
    replace h := done_leaf h hx15
    refine x_bh ?_
    refine x_tn ?_
    refine x_rg (rgn [hE, hE, hE, hE] (⟨[(2, oL 0 enc_api_Attr out), (3, pI 0), (4, pI 0)], [(0, rL (some 3) enc_api_Attr out)], 1⟩)) ?_
    refine x_toret ?_
    obtain rfl := Option.some.inj h
    exact x_ret (.tup [.usl (some 3) (List.take (List.map enc_api_Attr out).length (List.map enc_api_Attr out)), .int .i64 0, .int .i64 0]) [0] [(List.map enc_api_Attr out).length ≤ List.length (List.map enc_api_Attr out)] (by kernel_rfl) (.cons (Nat.le_refl _) .nil) (by decide) (.tup (.cons (.of_eq (by rw [List.take_length])) (.cons (.refl _) (.cons (.refl _) .nil)))) (fun _ => tup_ns (.cons (usl_ns (sh := (some 3)) (fun _ => rfl)) (.cons rfl (.cons rfl .nil))))

theorem c81 {a : api_Attr} {r : Bool} (h : dial_asks_1 a = some r) : CallOK Tryd.prog 81 [enc_api_Attr a] (.bool r) true := by
  apply ok81
  unfold dial_asks_1 at h
  refine x_rg (rgn [hE, hE] (⟨[(1, .optr 0 0 0)], [(0, some (.p (some 3) [enc_api_Attr a]))], 1⟩)) ?_
  refine x_rg (rgn [hE, hE, hE] (⟨[(2, pB a.Query)], [], 0⟩)) ?_
  refine x_toret ?_
  obtain rfl := Option.some.inj h
  exact ret0 (.bool a.Query) (.refl _) (fun _ => rfl)

theorem c99_f81 {s_ : (List api_Attr)} {r : Int} (h : slices_IndexFunc_api_Attr_api_Attr_f81 s_ = some r) : CallOK Tryd.prog 99 [.sl (some 3) (List.map enc_api_Attr s_), .fn 81 []] (.int .i64 r) true := by
  apply ok99
  unfold slices_IndexFunc_api_Attr_api_Attr_f81 at h
  refine x_rg (rgn [hE] (⟨[(0, pL (some 3) enc_api_Attr s_), (1, .pv (.fn 81 []))], [], 0⟩)) ?_
  refine x_seq ?_
  refine x_rg (rg0 [hE, hN (.len (List.length s_ : Int)), hE] (⟨[(0, pL (some 3) enc_api_Attr s_), (1, .pv (.fn 81 [])), (7, pI (List.length s_ : Int)), (8, pI 0)], [], 0⟩) (.cons (lenM enc_api_Attr s_) .nil)) ?_
  refine x_block ?_
  refine kw0 (⟨[(0, pL (some 3) enc_api_Attr s_), (1, .pv (.fn 81 [])), (7, pI (List.length s_ : Int)), (8, pI 0)], [], 0⟩) ?_
  refine x_loop (σ := Int) h (fun s => ⟨[(0, pL (some 3) enc_api_Attr s_), (1, .pv (.fn 81 [])), (7, pI (List.length s_ : Int)), (8, pI s)], [], 0⟩) (by kernel_rfl) ?_ ?_
  ·rintro v5
   kernel_rfl
  ·rintro v5 x6 h hx6
   replace h : slices_IndexFunc_api_Attr_api_Attr_f81_L6 s_ v5 = some x6 := h
   unfold slices_IndexFunc_api_Attr_api_Attr_f81_L6 at h
   refine x_rg (rgn [hE] (⟨[(0, pL (some 3) enc_api_Attr s_), (1, .pv (.fn 81 [])), (7, pI (List.length s_ : Int)), (8, pI v5), (9, pB (decide (v5 < (List.length s_ : Int))))], [], 0⟩)) ?_
   refine x_seq ?_
   refine x_cond _ rfl (fun hc7 => ?_) (fun hc7 => ?_)
   ·replace h := ite_t h hc7
    refine kw0 (⟨[(0, pL (some 3) enc_api_Attr s_), (1, .pv (.fn 81 [])), (7, pI (List.length s_ : Int)), (8, pI v5)], [], 0⟩) ?_
    refine x_skip ?_
    refine x_tn ?_
    refine x_seq ?_
    refine x_block ?_
    refine x_rg (rgn [hE, hE] (⟨[(0, pL (some 3) enc_api_Attr s_), (1, .pv (.fn 81 [])), (5, pI v5), (7, pI (List.length s_ : Int)), (8, pI v5)], [], 0⟩)) ?_
    obtain ⟨x8, hx8, h⟩ := bind_some h
    obtain ⟨x9, hx9, h⟩ := bind_some h
    refine x_rg (rg0 [hE, hE, hE, hN (.pAt (enc_api_Attr x8)), hE, hN (.cal [] (.bool x9) true)] (⟨[(0, pL (some 3) enc_api_Attr s_), (1, .pv (.fn 81 [])), (5, pI v5), (7, pI (List.length s_ : Int)), (8, pI v5), (16, pB x9)], [], 0⟩) (.cons (lsAt_map (f := enc_api_Attr) hx8) (.cons (c81 hx9) .nil))) ?_
    refine x_cond _ rfl (fun hc10 => ?_) (fun hc10 => ?_)
    ·replace h := ite_t h hc10
     refine x_rg (rgn [hE, hE] (⟨[(4, pI v5)], [], 0⟩)) ?_
     refine x_toret ?_
     refine x_br ?_
     refine x_tr ?_
     refine x_tr ?_
     replace h := done_leaf h hx6
     refine x_br ?_
     refine x_tr ?_
     obtain rfl := Option.some.inj h
     exact ret0 (.int .i64 v5) (.refl _) (fun _ => rfl)
    ·replace h := ite_f h hc10
     refine kw0 (⟨[(0, pL (some 3) enc_api_Attr s_), (1, .pv (.fn 81 [])), (7, pI (List.length s_ : Int)), (8, pI v5)], [], 0⟩) ?_
     refine x_skip ?_
     refine x_bn ?_
     refine x_tn ?_
     refine x_rgt (rgn [hE, hE] (⟨[(0, pL (some 3) enc_api_Attr s_), (1, .pv (.fn 81 [])), (7, pI (List.length s_ : Int)), (8, pI (IntKind.wrap .i64 (v5 + 1)))], [], 0⟩)) ?_
     refine x_tn ?_
     exact ⟨_, (Option.some.inj h).symm, by kernel_rfl⟩
   ·replace h := ite_f h hc7
    refine kw0 (⟨[], [], 0⟩) ?_
    refine x_exit ?_
    refine x_te ?_
    refine x_te ?_
    replace h := done_leaf h hx6
    refine x_bh ?_
    refine x_tn ?_
    refine x_rg (rgn [hE] (⟨[(4, pI (-1))], [], 0⟩)) ?_
    refine x_toret ?_
    obtain rfl := Option.some.inj h
    exact ret0 (.int .i64 (-1)) (.refl _) (fun _ => rfl)

theorem c80_f81 {s_ : (List api_Attr)} {r : Bool} (h : slices_ContainsFunc_api_Attr_api_Attr_f81 s_ = some r) : CallOK Tryd.prog 80 [.sl (some 3) (List.map enc_api_Attr s_), .fn 81 []] (.bool r) true := by
  apply ok80
  unfold slices_ContainsFunc_api_Attr_api_Attr_f81 at h
  refine x_rg (rgn [hE] (⟨[(0, pL (some 3) enc_api_Attr s_), (1, .pv (.fn 81 []))], [], 0⟩)) ?_
  obtain ⟨x1, hx1, h⟩ := bind_some h
  refine x_rg (rg0 [hE, hE, hN (.cal [] (.int .i64 x1) true), hE, hE] (⟨[(4, pB (decide (0 ≤ x1)))], [], 0⟩) (.cons (c99_f81 hx1) .nil)) ?_
  refine x_toret ?_
  obtain rfl := Option.some.inj h
  exact ret0 (.bool (decide (0 ≤ x1))) (.refl _) (fun _ => rfl)

theorem c56 {l : (List api_Attr)} {r : Bool} (h : dial_asks l = some r) : CallOK Tryd.prog 56 [.sl (some 3) (List.map enc_api_Attr l)] (.bool r) true := by
  apply ok56
  unfold dial_asks at h
  refine x_rg (rgn [hE] (⟨[(0, pL (some 3) enc_api_Attr l)], [], 0⟩)) ?_
  obtain ⟨x1, hx1, h⟩ := bind_some h
  refine x_rg (rg0 [hE, hN (.cal [] (.bool x1) true), hE] (⟨[(2, pB x1)], [], 0⟩) (.cons (c80_f81 hx1) .nil)) ?_
  refine x_toret ?_
  obtain rfl := Option.some.inj h
  exact ret0 (.bool x1) (.refl _) (fun _ => rfl)

theorem c96_n {n : Int} {r : (List api_Attr)} (h : slices_Grow_api_Attr_api_Attr_n n = some r) : CallOK Tryd.prog 96 [.nilsl, .int .i64 n] (.usl (some 3) (List.map enc_api_Attr r)) true := by
  apply ok96
  unfold slices_Grow_api_Attr_api_Attr_n at h
  refine x_rg (rgn [hE] (⟨[(0, .pv (.nilsl)), (1, pI n)], [], 0⟩)) ?_
  refine x_seq ?_
  refine x_rg (rgn [hE, hE] (⟨[(0, .pv (.nilsl)), (1, pI n), (6, pB (decide (n < 0)))], [], 0⟩)) ?_
  refine x_cond _ rfl (fun hc1 => ?_) (fun hc1 => ?_)
  ·replace h := ite_t h hc1
   cases h
  ·replace h := ite_f h hc1
   refine kw0 (⟨[(0, .pv (.nilsl)), (1, pI n)], [], 0⟩) ?_
   refine x_skip ?_
   refine x_tn ?_
   refine x_seq ?_
   refine x_rg (rgn [hE, hE, hE, hE, hE, hE, hE, hE] (⟨[(0, .pv (.nilsl)), (1, pI (IntKind.wrap .i64 (n - 0)))], [], 0⟩)) ?_
   refine x_rg (rgn [hE, hE] (⟨[(0, .pv (.nilsl)), (1, pI (IntKind.wrap .i64 (n - 0))), (16, pB (decide (0 < (IntKind.wrap .i64 (n - 0)))))], [], 0⟩)) ?_
   refine x_cond _ rfl (fun hc2 => ?_) (fun hc2 => ?_)
   ·replace h := ite_t h hc2
    obtain ⟨x3, hx3, h⟩ := bind_some h
    obtain ⟨x4, hx4, h⟩ := bind_some h
    refine x_rgt (st2 := { tm := [(0, .osl 0 0 (List.map enc_api_Attr x4).length)], hp := [(0, some (.p (some 3) (List.map enc_api_Attr x4)))], nx := 1 }) (rg (obs := [(zerosC 40 (.agg [.str [], .str [], .bool false]) (IntKind.wrap .i64 (n - 0)) = some (List.map enc_api_Attr x3)), (0 ≤ (0 : Int) ∧ (0 : Int) ≤ 0 ∧ 0 ≤ (((List.map enc_api_Attr x3).length : Nat) : Int))]) [hE, hE, hE, hE, hE, hN (.az (List.map enc_api_Attr x3)), hE, hE, hN .cutR, hE] ({ tm := [(0, .osl 0 (0 + Int.toNat 0) (Int.toNat 0 - Int.toNat 0))], hp := [(0, some (.p (some 3) (List.map enc_api_Attr x3)))], nx := 1 }) (.cons (zerosC_map (f := enc_api_Attr) hx3) (.cons (cutR_ob hx4 (by simp)) .nil)) (((Sub.of_eq (show ({ tm := [(0, .osl 0 0 (List.map enc_api_Attr x4).length)], hp := [(0, some (.p (some 3) (List.map enc_api_Attr x4)))], nx := 1 } : VSt) = trimSt 0 (Int.toNat 0 - Int.toNat 0) ({ tm := [(0, .osl 0 (0 + Int.toNat 0) (Int.toNat 0 - Int.toNat 0))], hp := [(0, some (.p (some 3) (List.map enc_api_Attr x3)))], nx := 1 }) from (show ({ tm := [(0, .osl 0 0 (List.map enc_api_Attr x4).length)], hp := [(0, some (.p (some 3) (List.map enc_api_Attr x4)))], nx := 1 } : VSt) = { tm := [(0, .osl 0 (0 + Int.toNat 0) (Int.toNat 0 - Int.toNat 0))], hp := [(0, some (.p (some 3) (List.take (Int.toNat 0 - Int.toNat 0) (List.map enc_api_Attr x3))))], nx := 1 } from (by rw [(cutR_f hx4).2, (cutR_f hx4).1]; try rfl)).trans (by kernel_rfl))).trans (Sub.trim 0 (Int.toNat 0 - Int.toNat 0) _)))) ?_
    refine x_tn ?_
    refine x_rg (rgn [hE, hE] (⟨[(4, oL 0 enc_api_Attr x4)], [(0, rL (some 3) enc_api_Attr x4)], 1⟩)) ?_
    refine x_toret ?_
    obtain rfl := Option.some.inj h
    exact x_ret (.usl (some 3) (List.take (List.map enc_api_Attr x4).length (List.map enc_api_Attr x4))) [0] [(List.map enc_api_Attr x4).length ≤ List.length (List.map enc_api_Attr x4)] (by kernel_rfl) (.cons (Nat.le_refl _) .nil) (by decide) (.of_eq (by rw [List.take_length])) (fun _ => (usl_ns (sh := (some 3)) (fun _ => rfl)))
   ·replace h := ite_f h hc2
    refine kw0 (⟨[(0, .pv (.nilsl))], [], 0⟩) ?_
    refine x_skip ?_
    refine x_tn ?_
    refine x_rg (rgn [hE, hE] (⟨[(4, .pv (.nilsl))], [], 0⟩)) ?_
    refine x_toret ?_
    obtain rfl := Option.some.inj h
    exact ret0 (.nilsl) (.nilUsl _) (fun _ => (usl_ns (sh := (some 3)) (fun _ => rfl)))

theorem c68 {slices : (List (List api_Attr))} {r : (List api_Attr)} (h : slices_Concat_api_Attr_api_Attr slices = some r) : CallOK Tryd.prog 68 [.sl none (List.map encT_List_api_Attr slices)] (.usl (some 3) (List.map enc_api_Attr r)) true := by
  apply ok68
  unfold slices_Concat_api_Attr_api_Attr at h
  refine x_rg (rgn [hE] (⟨[(0, pL none encT_List_api_Attr slices)], [], 0⟩)) ?_
  refine x_rg (rgn [hE] (⟨[(0, pL none encT_List_api_Attr slices), (3, pI 0)], [], 0⟩)) ?_
  refine x_seq ?_
  refine x_rg (rg0 [hE, hN (.len (List.length slices : Int)), hE] (⟨[(0, pL none encT_List_api_Attr slices), (3, pI 0), (9, pL none encT_List_api_Attr slices), (10, pI (List.length slices : Int)), (11, pI 0)], [], 0⟩) (.cons (lenM encT_List_api_Attr slices) .nil)) ?_
  refine x_block ?_
  refine kw0 (⟨[(0, pL none encT_List_api_Attr slices), (3, pI 0), (9, pL none encT_List_api_Attr slices), (10, pI (List.length slices : Int)), (11, pI 0)], [], 0⟩) ?_
  refine x_loop (σ := (Int × Int)) h (fun s => ⟨[(0, pL none encT_List_api_Attr slices), (3, pI s.1), (9, pL none encT_List_api_Attr slices), (10, pI (List.length slices : Int)), (11, pI s.2)], [], 0⟩) (by kernel_rfl) ?_ ?_
  ·rintro ⟨size, v5⟩
   kernel_rfl
  ·rintro ⟨size, v5⟩ x6 h hx6
   replace h : slices_Concat_api_Attr_api_Attr_L6 slices size v5 = some x6 := h
   unfold slices_Concat_api_Attr_api_Attr_L6 at h
   refine x_rg (rgn [hE] (⟨[(0, pL none encT_List_api_Attr slices), (3, pI size), (9, pL none encT_List_api_Attr slices), (10, pI (List.length slices : Int)), (11, pI v5), (12, pB (decide (v5 < (List.length slices : Int))))], [], 0⟩)) ?_
   refine x_seq ?_
   refine x_cond _ rfl (fun hc7 => ?_) (fun hc7 => ?_)
   ·replace h := ite_t h hc7
    refine kw0 (⟨[(0, pL none encT_List_api_Attr slices), (3, pI size), (9, pL none encT_List_api_Attr slices), (10, pI (List.length slices : Int)), (11, pI v5)], [], 0⟩) ?_
    refine x_skip ?_
    refine x_tn ?_
    refine x_seq ?_
    refine x_block ?_
    obtain ⟨x8, hx8, h⟩ := bind_some h
    refine x_rg (rg0 [hN (.pAt (.sl (some 3) (List.map enc_api_Attr x8))), hE, hE] (⟨[(0, pL none encT_List_api_Attr slices), (3, pI size), (5, pL (some 3) enc_api_Attr x8), (9, pL none encT_List_api_Attr slices), (10, pI (List.length slices : Int)), (11, pI v5)], [], 0⟩) (.cons (lsAt_map (f := encT_List_api_Attr) hx8) .nil)) ?_
    refine x_rg (rg0 [hE, hE, hN (.len (List.length x8 : Int)), hE, hE] (⟨[(0, pL none encT_List_api_Attr slices), (3, pI (IntKind.wrap .i64 (size + (List.length x8 : Int)))), (9, pL none encT_List_api_Attr slices), (10, pI (List.length slices : Int)), (11, pI v5)], [], 0⟩) (.cons (lenM enc_api_Attr x8) .nil)) ?_
    refine x_rg (rgn [hE, hE] (⟨[(0, pL none encT_List_api_Attr slices), (3, pI (IntKind.wrap .i64 (size + (List.length x8 : Int)))), (9, pL none encT_List_api_Attr slices), (10, pI (List.length slices : Int)), (11, pI v5), (20, pB (decide ((IntKind.wrap .i64 (size + (List.length x8 : Int))) < 0)))], [], 0⟩)) ?_
    refine x_cond _ rfl (fun hc9 => ?_) (fun hc9 => ?_)
    ·replace h := ite_t h hc9
     cases h
    ·replace h := ite_f h hc9
     refine kw0 (⟨[(0, pL none encT_List_api_Attr slices), (3, pI (IntKind.wrap .i64 (size + (List.length x8 : Int)))), (9, pL none encT_List_api_Attr slices), (10, pI (List.length slices : Int)), (11, pI v5)], [], 0⟩) ?_
     refine x_skip ?_
     refine x_bn ?_
     refine x_tn ?_
     refine x_rgt (rgn [hE, hE] (⟨[(0, pL none encT_List_api_Attr slices), (3, pI (IntKind.wrap .i64 (size + (List.length x8 : Int)))), (9, pL none encT_List_api_Attr slices), (10, pI (List.length slices : Int)), (11, pI (IntKind.wrap .i64 (v5 + 1)))], [], 0⟩)) ?_
     refine x_tn ?_
     exact ⟨_, (Option.some.inj h).symm, by kernel_rfl⟩
   ·replace h := ite_f h hc7
    refine kw0 (⟨[(0, pL none encT_List_api_Attr slices), (3, pI size)], [], 0⟩) ?_
    refine x_exit ?_
    refine x_te ?_
    refine x_te ?_
    replace h := done_map h hx6
    unfold slices_Concat_api_Attr_api_Attr_A20 at h
    refine x_bh ?_
    refine x_tn ?_
    obtain ⟨x10, hx10, h⟩ := bind_some h
    refine x_rg (rg0 [hE, hN (.cal [] (.usl (some 3) (List.map enc_api_Attr x10)) true), hE] (⟨[(0, pL none encT_List_api_Attr slices), (6, oL 0 enc_api_Attr x10)], [(0, rL (some 3) enc_api_Attr x10)], 1⟩) (.cons (c96_n hx10) .nil)) ?_
    refine x_seq ?_
    refine x_rg (rg0 [hE, hN (.len (List.length slices : Int)), hE] (⟨[(6, oL 0 enc_api_Attr x10), (25, pL none encT_List_api_Attr slices), (26, pI (List.length slices : Int)), (27, pI 0)], [(0, rL (some 3) enc_api_Attr x10)], 1⟩) (.cons (lenM encT_List_api_Attr slices) .nil)) ?_
    refine x_block ?_
    refine kw0 (⟨[(6, oL 0 enc_api_Attr x10), (25, pL none encT_List_api_Attr slices), (26, pI (List.length slices : Int)), (27, pI 0)], [(0, rL (some 3) enc_api_Attr x10)], 1⟩) ?_
    refine x_loop (σ := (Int × (List api_Attr))) h (fun s => ⟨[(6, oL 0 enc_api_Attr s.2), (25, pL none encT_List_api_Attr slices), (26, pI (List.length slices : Int)), (27, pI s.1)], [(0, rL (some 3) enc_api_Attr s.2)], 1⟩) (by kernel_rfl) ?_ ?_
    ·rintro ⟨v14, newslice⟩
     kernel_rfl
    ·rintro ⟨v14, newslice⟩ x16 h hx16
     replace h : slices_Concat_api_Attr_api_Attr_L16 slices v14 newslice = some x16 := h
     unfold slices_Concat_api_Attr_api_Attr_L16 at h
     refine x_rg (rgn [hE] (⟨[(6, oL 0 enc_api_Attr newslice), (25, pL none encT_List_api_Attr slices), (26, pI (List.length slices : Int)), (27, pI v14), (28, pB (decide (v14 < (List.length slices : Int))))], [(0, rL (some 3) enc_api_Attr newslice)], 1⟩)) ?_
     refine x_seq ?_
     refine x_cond _ rfl (fun hc17 => ?_) (fun hc17 => ?_)
     ·replace h := ite_t h hc17
      refine kw0 (⟨[(6, oL 0 enc_api_Attr newslice), (25, pL none encT_List_api_Attr slices), (26, pI (List.length slices : Int)), (27, pI v14)], [(0, rL (some 3) enc_api_Attr newslice)], 1⟩) ?_
      refine x_skip ?_
      refine x_tn ?_
      refine x_seq ?_
      refine x_block ?_
      obtain ⟨x18, hx18, h⟩ := bind_some h
      refine x_rg (rg0 [hN (.pAt (.sl (some 3) (List.map enc_api_Attr x18))), hE, hE] (⟨[(6, oL 0 enc_api_Attr newslice), (8, pL (some 3) enc_api_Attr x18), (25, pL none encT_List_api_Attr slices), (26, pI (List.length slices : Int)), (27, pI v14)], [(0, rL (some 3) enc_api_Attr newslice)], 1⟩) (.cons (lsAt_map (f := encT_List_api_Attr) hx18) .nil)) ?_
      obtain ⟨x19, hx19, h⟩ := bind_some h
      refine x_rgt (rg0 (obs := [(List.take (List.map enc_api_Attr newslice).length (List.map enc_api_Attr newslice) ++ List.map enc_api_Attr x18 = (List.map enc_api_Attr x19)), (List.length (List.map enc_api_Attr x19) * 40 ≤ 140737488355328), (List.length (List.map enc_api_Attr x19) ≤ 9223372036854775807), ((List.map enc_api_Attr newslice).length ≤ List.length (List.map enc_api_Attr newslice))]) [hE, hE, hN (.app (List.map enc_api_Attr x19)), hE] (⟨[(6, oL 0 enc_api_Attr x19), (25, pL none encT_List_api_Attr slices), (26, pI (List.length slices : Int)), (27, pI v14)], [(0, rL (some 3) enc_api_Attr x19)], 1⟩) (.cons (app_ob hx19 (.all _) (.rfl _)) (.cons (by rw [List.length_map]; exact (appL_ok hx19).2.1) (.cons (by rw [List.length_map]; exact (appL_ok hx19).2.2) (.cons (Nat.le_refl _) .nil))))) ?_
      refine x_bn ?_
      refine x_tn ?_
      refine x_rgt (rgn [hE, hE] (⟨[(6, oL 0 enc_api_Attr x19), (25, pL none encT_List_api_Attr slices), (26, pI (List.length slices : Int)), (27, pI (IntKind.wrap .i64 (v14 + 1)))], [(0, rL (some 3) enc_api_Attr x19)], 1⟩)) ?_
      refine x_tn ?_
      exact ⟨_, (Option.some.inj h).symm, by kernel_rfl⟩
     ·replace h := ite_f h hc17
      refine kw0 (⟨[(6, oL 0 enc_api_Attr newslice)], [(0, rL (some 3) enc_api_Attr newslice)], 1⟩) ?_
      refine x_exit ?_
      refine x_te ?_
      refine x_te ?_
      replace h := done_leaf h hx16
      refine x_bh ?_
      refine x_tn ?_
      refine x_rg (rgn [hE, hE] (⟨[(2, oL 0 enc_api_Attr newslice)], [(0, rL (some 3) enc_api_Attr newslice)], 1⟩)) ?_
      refine x_toret ?_
      obtain rfl := Option.some.inj h
      exact x_ret (.usl (some 3) (List.take (List.map enc_api_Attr newslice).length (List.map enc_api_Attr newslice))) [0] [(List.map enc_api_Attr newslice).length ≤ List.length (List.map enc_api_Attr newslice)] (by kernel_rfl) (.cons (Nat.le_refl _) .nil) (by decide) (.of_eq (by rw [List.take_length])) (fun _ => (usl_ns (sh := (some 3)) (fun _ => rfl)))

theorem c69 {l : (List api_Attr)} {r : Int} (h : attr_Check l = some r) : CallOK Tryd.prog 69 [.sl (some 3) (List.map enc_api_Attr l)] (.int .i64 r) true := by
  apply ok69
  unfold attr_Check at h
  refine x_rg (rgn [hE] (⟨[(0, pL (some 3) enc_api_Attr l)], [], 0⟩)) ?_
  refine x_seq ?_
  refine x_rg (rg0 [hE, hN (.len (List.length l : Int)), hE] (⟨[(0, pL (some 3) enc_api_Attr l), (6, pL (some 3) enc_api_Attr l), (7, pI (List.length l : Int)), (8, pI 0)], [], 0⟩) (.cons (lenM enc_api_Attr l) .nil)) ?_
  refine x_block ?_
  refine kw0 (⟨[(0, pL (some 3) enc_api_Attr l), (6, pL (some 3) enc_api_Attr l), (7, pI (List.length l : Int)), (8, pI 0)], [], 0⟩) ?_
  refine x_loop (σ := Int) h (fun s => ⟨[(0, pL (some 3) enc_api_Attr l), (6, pL (some 3) enc_api_Attr l), (7, pI (List.length l : Int)), (8, pI s)], [], 0⟩) (by kernel_rfl) ?_ ?_
  ·rintro v6
   kernel_rfl
  ·rintro v6 x7 h hx7
   replace h : attr_Check_L7 l v6 = some x7 := h
   unfold attr_Check_L7 at h
   refine x_rg (rgn [hE] (⟨[(0, pL (some 3) enc_api_Attr l), (6, pL (some 3) enc_api_Attr l), (7, pI (List.length l : Int)), (8, pI v6), (9, pB (decide (v6 < (List.length l : Int))))], [], 0⟩)) ?_
   refine x_seq ?_
   refine x_cond _ rfl (fun hc8 => ?_) (fun hc8 => ?_)
   ·replace h := ite_t h hc8
    refine kw0 (⟨[(0, pL (some 3) enc_api_Attr l), (6, pL (some 3) enc_api_Attr l), (7, pI (List.length l : Int)), (8, pI v6)], [], 0⟩) ?_
    refine x_skip ?_
    refine x_tn ?_
    refine x_seq ?_
    refine x_block ?_
    obtain ⟨x9, hx9, h⟩ := bind_some h
    refine x_rg (rg0 [hE, hN (.pAt (enc_api_Attr x9)), hE, hE, hE, hE] (⟨[(0, pL (some 3) enc_api_Attr l), (3, pI v6), (4, .optr 0 0 0), (6, pL (some 3) enc_api_Attr l), (7, pI (List.length l : Int)), (8, pI v6)], [(0, some (.p (some 3) [enc_api_Attr x9]))], 1⟩) (.cons (lsAt_map (f := enc_api_Attr) hx9) .nil)) ?_
    obtain ⟨x10, hx10, h⟩ := bind_some h
    obtain ⟨x11, hx11, h⟩ := bind_some h
    refine x_rg (rg0 (obs := [(cut (List.map enc_api_Attr l) 0 v6 = some (List.map enc_api_Attr x10)), (CallOK Tryd.prog 95 [.sl (some 3) (List.map enc_api_Attr x10), enc_api_Attr x9] (.int .i64 x11) true)]) [hE, hE, hN (.cutP (List.map enc_api_Attr x10)), hE, hN (.cal [] (.int .i64 x11) true), hE] (⟨[(0, pL (some 3) enc_api_Attr l), (5, pI x11), (6, pL (some 3) enc_api_Attr l), (7, pI (List.length l : Int)), (8, pI v6)], [], 0⟩) (.cons (cut_map hx10) (.cons (c95 hx11) .nil))) ?_
    refine x_rg (rgn [hE, hE] (⟨[(0, pL (some 3) enc_api_Attr l), (5, pI x11), (6, pL (some 3) enc_api_Attr l), (7, pI (List.length l : Int)), (8, pI v6), (19, pB (!decide (x11 = 0)))], [], 0⟩)) ?_
    refine x_cond _ rfl (fun hc12 => ?_) (fun hc12 => ?_)
    ·replace h := ite_t h hc12
     refine x_rg (rgn [hE, hE] (⟨[(2, pI x11)], [], 0⟩)) ?_
     refine x_toret ?_
     refine x_br ?_
     refine x_tr ?_
     refine x_tr ?_
     replace h := done_leaf h hx7
     refine x_br ?_
     refine x_tr ?_
     obtain rfl := Option.some.inj h
     exact ret0 (.int .i64 x11) (.refl _) (fun _ => rfl)
    ·replace h := ite_f h hc12
     refine kw0 (⟨[(0, pL (some 3) enc_api_Attr l), (6, pL (some 3) enc_api_Attr l), (7, pI (List.length l : Int)), (8, pI v6)], [], 0⟩) ?_
     refine x_skip ?_
     refine x_bn ?_
     refine x_tn ?_
     refine x_rgt (rgn [hE, hE] (⟨[(0, pL (some 3) enc_api_Attr l), (6, pL (some 3) enc_api_Attr l), (7, pI (List.length l : Int)), (8, pI (IntKind.wrap .i64 (v6 + 1)))], [], 0⟩)) ?_
     refine x_tn ?_
     exact ⟨_, (Option.some.inj h).symm, by kernel_rfl⟩
   ·replace h := ite_f h hc8
    refine kw0 (⟨[], [], 0⟩) ?_
    refine x_exit ?_
    refine x_te ?_
    refine x_te ?_
    replace h := done_leaf h hx7
    refine x_bh ?_
    refine x_tn ?_
    refine x_rg (rgn [hE] (⟨[(2, pI 0)], [], 0⟩)) ?_
    refine x_toret ?_
    obtain rfl := Option.some.inj h
    exact ret0 (.int .i64 0) (.refl _) (fun _ => rfl)

theorem c36 {before : (List api_Attr)} {line : Str} {r : ((List api_Attr) × Int)} (h : dial_joined before line = some r) : CallOK Tryd.prog 36 [.sl (some 3) (List.map enc_api_Attr before), .str line] (.tup [.usl (some 3) (List.map enc_api_Attr r.1), .int .i64 r.2]) true := by
  apply ok36
  unfold dial_joined at h
  refine x_rg (rgn [hE, hE] (⟨[(0, pL (some 3) enc_api_Attr before), (1, pS line)], [], 0⟩)) ?_
  obtain ⟨x1, hx1, h⟩ := bind_some h
  refine x_rg (rg0 [hE, hN (.cal [] (.tup [.usl (some 3) (List.map enc_api_Attr x1.1), .int .i64 x1.2.1, .int .i64 x1.2.2]) true), hE, hE, hE, hE, hE, hE, hE] (⟨[(0, pL (some 3) enc_api_Attr before), (6, oL 0 enc_api_Attr x1.1), (8, pI x1.2.2)], [(0, rL (some 3) enc_api_Attr x1.1)], 1⟩) (.cons (c67 hx1) .nil)) ?_
  refine x_seq ?_
  refine x_rg (rgn [hE, hE] (⟨[(0, pL (some 3) enc_api_Attr before), (6, oL 0 enc_api_Attr x1.1), (8, pI x1.2.2), (17, pB (!decide (x1.2.2 = 0)))], [(0, rL (some 3) enc_api_Attr x1.1)], 1⟩)) ?_
  refine x_cond _ rfl (fun hc2 => ?_) (fun hc2 => ?_)
  ·replace h := ite_t h hc2
   refine x_rg (rgn [hE, hE, hE] (⟨[(4, .pv (.nilsl)), (5, pI x1.2.2)], [], 0⟩)) ?_
   refine x_toret ?_
   refine x_tr ?_
   obtain rfl := Option.some.inj h
   exact ret0 (.tup [.nilsl, .int .i64 x1.2.2]) (.tup (.cons (.nilUsl _) (.cons (.refl _) .nil))) (fun _ => tup_ns (.cons (usl_ns (sh := (some 3)) (fun _ => rfl)) (.cons rfl .nil)))
  ·replace h := ite_f h hc2
   refine kw0 (⟨[(0, pL (some 3) enc_api_Attr before), (6, oL 0 enc_api_Attr x1.1)], [(0, rL (some 3) enc_api_Attr x1.1)], 1⟩) ?_
   refine x_skip ?_
   refine x_tn ?_
   refine x_seq ?_
   obtain ⟨x3, hx3, h⟩ := bind_some h
   refine x_rg (rg0 (obs := [(LesA [.sl (some 3) (List.take (List.map enc_api_Attr x1.1).length (List.drop 0 (List.map enc_api_Attr x1.1)))] [.sl (some 3) (List.map enc_api_Attr x1.1)]), (CallOK Tryd.prog 56 [.sl (some 3) (List.map enc_api_Attr x1.1)] (.bool x3) true), (0 + (List.map enc_api_Attr x1.1).length ≤ List.length (List.map enc_api_Attr x1.1))]) [hE, hN (.call [] [.sl (some 3) (List.map enc_api_Attr x1.1)] (.bool x3) true)] (⟨[(0, pL (some 3) enc_api_Attr before), (6, oL 0 enc_api_Attr x1.1), (20, pB x3)], [(0, rL (some 3) enc_api_Attr x1.1)], 1⟩) (.cons (.cons (.of_eq (by rw [List.drop_zero, List.take_length])) .nil) (.cons (c56 hx3) (.cons (by simp) .nil)))) ?_
   refine x_cond _ rfl (fun hc4 => ?_) (fun hc4 => ?_)
   ·replace h := ite_t h hc4
    refine x_rg (rgn [hE, hE] (⟨[(4, .pv (.nilsl)), (5, pI 2)], [], 0⟩)) ?_
    refine x_toret ?_
    refine x_tr ?_
    obtain rfl := Option.some.inj h
    exact ret0 (.tup [.nilsl, .int .i64 2]) (.tup (.cons (.nilUsl _) (.cons (.refl _) .nil))) (fun _ => tup_ns (.cons (usl_ns (sh := (some 3)) (fun _ => rfl)) (.cons rfl .nil)))
   ·replace h := ite_f h hc4
    refine x_kw (st2 := { tm := [(0, .pv (.sl (some 3) (List.map enc_api_Attr before))), (6, .pv (.sl (some 3) (List.map enc_api_Attr x1.1)))], hp := [], nx := 0 }) ({ tm := [(0, .pv (.sl (some 3) (List.map enc_api_Attr before))), (6, .osl 0 0 (List.map enc_api_Attr x1.1).length)], hp := [(0, some (.p (some 3) (List.map enc_api_Attr x1.1)))], nx := 1 }) (by kernel_rfl) ((Sub.keep (ks := [0, 6]) (st := ⟨(6, .pv (.sl (some 3) (List.map enc_api_Attr x1.1))) :: [(0, .pv (.sl (some 3) (List.map enc_api_Attr before))), (6, .osl 0 0 (List.map enc_api_Attr x1.1).length)], (0, none) :: [(0, some (.p (some 3) (List.map enc_api_Attr x1.1)))], 1⟩) (st' := { tm := [(0, .pv (.sl (some 3) (List.map enc_api_Attr before))), (6, .pv (.sl (some 3) (List.map enc_api_Attr x1.1)))], hp := [], nx := 0 }) (by kernel_rfl)).trans (Sub.frz (st := { tm := [(0, .pv (.sl (some 3) (List.map enc_api_Attr before))), (6, .osl 0 0 (List.map enc_api_Attr x1.1).length)], hp := [(0, some (.p (some 3) (List.map enc_api_Attr x1.1)))], nx := 1 }) 6 (List.map enc_api_Attr x1.1) rfl rfl (Nat.le_refl _) (by rw [List.take_of_length_le (Nat.le_refl _)]))) ?_
    refine x_skip ?_
    refine x_tn ?_
    obtain ⟨x5, hx5, h⟩ := bind_some h
    refine x_rg (rg0 (obs := [(LesA [.sl none (List.take 2 (List.drop 0 ([.sl (some 3) (List.map enc_api_Attr before), .sl (some 3) (List.map enc_api_Attr x1.1)] : List PV)))] [.sl none (List.map encT_List_api_Attr [before, x1.1])]), (CallOK Tryd.prog 68 [.sl none (List.map encT_List_api_Attr [before, x1.1])] (.usl (some 3) (List.map enc_api_Attr x5)) true), (0 + 2 ≤ List.length ([.sl (some 3) (List.map enc_api_Attr before), .sl (some 3) (List.map enc_api_Attr x1.1)] : List PV))]) [hE, hE, hE, hN (.call [] [.sl none (List.map encT_List_api_Attr [before, x1.1])] (.usl (some 3) (List.map enc_api_Attr x5)) true), hE] (⟨[(9, oL 0 enc_api_Attr x5)], [(0, rL (some 3) enc_api_Attr x5)], 1⟩) (.cons (.cons (.refl _) .nil) (.cons (c68 hx5) (.cons (by simp) .nil)))) ?_
    obtain ⟨x6, hx6, h⟩ := bind_some h
    refine x_rg (rg0 (obs := [(LesA [.sl (some 3) (List.take (List.map enc_api_Attr x5).length (List.drop 0 (List.map enc_api_Attr x5)))] [.sl (some 3) (List.map enc_api_Attr x5)]), (CallOK Tryd.prog 69 [.sl (some 3) (List.map enc_api_Attr x5)] (.int .i64 x6) true), (0 + (List.map enc_api_Attr x5).length ≤ List.length (List.map enc_api_Attr x5))]) [hE, hE, hN (.call [] [.sl (some 3) (List.map enc_api_Attr x5)] (.int .i64 x6) true), hE, hE] (⟨[(4, oL 0 enc_api_Attr x5), (5, pI x6)], [(0, rL (some 3) enc_api_Attr x5)], 1⟩) (.cons (.cons (.of_eq (by rw [List.drop_zero, List.take_length])) .nil) (.cons (c69 hx6) (.cons (by simp) .nil)))) ?_
    refine x_toret ?_
    obtain rfl := Option.some.inj h
    exact x_ret (.tup [.usl (some 3) (List.take (List.map enc_api_Attr x5).length (List.map enc_api_Attr x5)), .int .i64 x6]) [0] [(List.map enc_api_Attr x5).length ≤ List.length (List.map enc_api_Attr x5)] (by kernel_rfl) (.cons (Nat.le_refl _) .nil) (by decide) (.tup (.cons (.of_eq (by rw [List.take_length])) (.cons (.refl _) .nil))) (fun _ => tup_ns (.cons (usl_ns (sh := (some 3)) (fun _ => rfl)) (.cons rfl .nil)))

theorem c16 {s_ : Str} {r : ((List api_Entry) × Int × Int)} (h : dial_Db s_ = some r) : CallOK Tryd.prog 16 [.str s_] (.tup [.usl (some 1) (List.map enc_api_Entry r.1), .int .i64 r.2.1, .int .i64 r.2.2]) false := by
  apply ok16
  unfold dial_Db at h
  refine x_rg (rgn [hE, hE, hE] (⟨[(0, pS s_)], [], 0⟩)) ?_
  refine x_rg (st2 := { tm := [(0, .pv (.str s_)), (5, .osl 0 0 (List.map enc_api_Entry ([] : List api_Entry)).length)], hp := [(0, some (.p (some 1) (List.map enc_api_Entry ([] : List api_Entry))))], nx := 1 }) (rg [hE] ({ tm := [(0, .pv (.str s_)), (5, .pv (.nilsl))], hp := [], nx := 0 }) .nil ((Sub.keep (ks := [0, 5]) (st := ownSt 5 (some 1) ({ tm := [(0, .pv (.str s_)), (5, .pv (.nilsl))], hp := [], nx := 0 })) (st' := { tm := [(0, .pv (.str s_)), (5, .osl 0 0 (List.map enc_api_Entry ([] : List api_Entry)).length)], hp := [(0, some (.p (some 1) (List.map enc_api_Entry ([] : List api_Entry))))], nx := 1 }) (by kernel_rfl)).trans (own_sound 5 (some 1) ({ tm := [(0, .pv (.str s_)), (5, .pv (.nilsl))], hp := [], nx := 0 })))) ?_
  refine x_seq ?_
  obtain ⟨x1, hx1, h⟩ := bind_some h
  refine x_rg (rg0 (obs := [(CallOK Tryd.prog 34 [.str s_] (.usl none (List.map PV.str x1)) true), ((((List.map PV.str x1).length : Nat) : Int) = (List.length x1 : Int))]) [hE, hN (.cal [] (.usl none (List.map PV.str x1)) true), hN (.len (List.length x1 : Int)), hE] (⟨[(5, oL 0 enc_api_Entry ([] : List api_Entry)), (14, oL 1 PV.str x1), (15, pI (List.length x1 : Int)), (16, pI 0)], [(0, rL (some 1) enc_api_Entry ([] : List api_Entry)), (1, rL none PV.str x1)], 2⟩) (.cons (c34 hx1) (.cons (by rw [List.length_map]) .nil))) ?_
  refine x_block ?_
  refine kw0 (⟨[(5, oL 0 enc_api_Entry ([] : List api_Entry)), (14, oL 1 PV.str x1), (15, pI (List.length x1 : Int)), (16, pI 0)], [(0, rL (some 1) enc_api_Entry ([] : List api_Entry)), (1, rL none PV.str x1)], 2⟩) ?_
  refine x_loop (σ := (Int × (List api_Entry))) h (fun s => ⟨[(5, oL 0 enc_api_Entry s.2), (14, oL 1 PV.str x1), (15, pI (List.length x1 : Int)), (16, pI s.1)], [(0, rL (some 1) enc_api_Entry s.2), (1, rL none PV.str x1)], 2⟩) (by kernel_rfl) ?_ ?_
  ·rintro ⟨v23, out⟩
   kernel_rfl
  ·rintro ⟨v23, out⟩ x25 h hx25
   replace h : dial_Db_L25 x1 v23 out = some x25 := h
   unfold dial_Db_L25 at h
   refine x_rg (rgn [hE] (⟨[(5, oL 0 enc_api_Entry out), (14, oL 1 PV.str x1), (15, pI (List.length x1 : Int)), (16, pI v23), (17, pB (decide (v23 < (List.length x1 : Int))))], [(0, rL (some 1) enc_api_Entry out), (1, rL none PV.str x1)], 2⟩)) ?_
   refine x_seq ?_
   refine x_cond _ rfl (fun hc26 => ?_) (fun hc26 => ?_)
   ·replace h := ite_t h hc26
    refine kw0 (⟨[(5, oL 0 enc_api_Entry out), (14, oL 1 PV.str x1), (15, pI (List.length x1 : Int)), (16, pI v23)], [(0, rL (some 1) enc_api_Entry out), (1, rL none PV.str x1)], 2⟩) ?_
    refine x_skip ?_
    refine x_tn ?_
    refine x_seq ?_
    refine x_block ?_
    obtain ⟨x27, hx27, h⟩ := bind_some h
    refine x_rg (rg0 (obs := [(0 ≤ (v23 : Int) ∧ Int.toNat v23 < (List.map PV.str x1).length), ((List.map PV.str x1)[(0 + Int.toNat v23)]? = some (.str x27))]) [hE, hN .rAt, hN (.ld (.str x27)), hE, hE] (⟨[(5, oL 0 enc_api_Entry out), (6, pI v23), (7, pS x27), (14, oL 1 PV.str x1), (15, pI (List.length x1 : Int)), (16, pI v23)], [(0, rL (some 1) enc_api_Entry out), (1, rL none PV.str x1)], 2⟩) (.cons (rAt_ob hx27 (by simp)) (.cons (ownAt hx27) .nil))) ?_
    refine x_seq ?_
    obtain ⟨x28, hx28, h⟩ := bind_some h
    refine x_rg (rg0 [hE, hN (.cal [] (.bool x28) true)] (⟨[(5, oL 0 enc_api_Entry out), (6, pI v23), (7, pS x27), (14, oL 1 PV.str x1), (15, pI (List.length x1 : Int)), (16, pI v23), (22, pB x28)], [(0, rL (some 1) enc_api_Entry out), (1, rL none PV.str x1)], 2⟩) (.cons (c35 hx28) .nil)) ?_
    refine x_cond _ rfl (fun hc29 => ?_) (fun hc29 => ?_)
    ·replace h := ite_t h hc29
     refine kw0 (⟨[(5, oL 0 enc_api_Entry out), (14, oL 1 PV.str x1), (15, pI (List.length x1 : Int)), (16, pI v23)], [(0, rL (some 1) enc_api_Entry out), (1, rL none PV.str x1)], 2⟩) ?_
     refine x_exit ?_
     refine x_te ?_
     refine x_bh ?_
     refine x_tn ?_
     refine x_rgt (rgn [hE, hE] (⟨[(5, oL 0 enc_api_Entry out), (14, oL 1 PV.str x1), (15, pI (List.length x1 : Int)), (16, pI (IntKind.wrap .i64 (v23 + 1)))], [(0, rL (some 1) enc_api_Entry out), (1, rL none PV.str x1)], 2⟩)) ?_
     refine x_tn ?_
     exact ⟨_, (Option.some.inj h).symm, by kernel_rfl⟩
    ·replace h := ite_f h hc29
     refine kw0 (⟨[(5, oL 0 enc_api_Entry out), (6, pI v23), (7, pS x27), (14, oL 1 PV.str x1), (15, pI (List.length x1 : Int)), (16, pI v23)], [(0, rL (some 1) enc_api_Entry out), (1, rL none PV.str x1)], 2⟩) ?_
     refine x_skip ?_
     refine x_tn ?_
     refine x_rg (rg0 (obs := [((((List.map enc_api_Entry out).length : Nat) : Int) = (List.length out : Int))]) [hE, hN (.len (List.length out : Int)), hE, hE] (⟨[(5, oL 0 enc_api_Entry out), (6, pI v23), (7, pS x27), (8, pI (IntKind.wrap .i64 ((List.length out : Int) - 1))), (14, oL 1 PV.str x1), (15, pI (List.length x1 : Int)), (16, pI v23)], [(0, rL (some 1) enc_api_Entry out), (1, rL none PV.str x1)], 2⟩) (.cons (by rw [List.length_map]) .nil)) ?_
     obtain ⟨c30, hc30, h⟩ := bind_some h
     obtain ⟨t33, ht, h⟩ := bind_some h
     refine x_rg (st2 := ⟨[(5, oL 0 enc_api_Entry out), (6, pI v23), (7, pS x27), (8, pI (IntKind.wrap .i64 ((List.length out : Int) - 1))), (9, pB t33), (14, oL 1 PV.str x1), (15, pI (List.length x1 : Int)), (16, pI v23)], [(0, rL (some 1) enc_api_Entry out), (1, rL none PV.str x1)], 2⟩) ?_ ?_
     ·rcases Bool.eq_false_or_eq_true (decide ((c30.toNat : Int) = 32)) with hg31 | hg31
      ·replace ht := ite_t ht hg31
       have e := Option.some.inj ht
       subst e
       exact rg0 [hE, hN (.sAt c30), hE, hE, hS, hS, hS, hN (.pk true), hE] (⟨[(5, oL 0 enc_api_Entry out), (6, pI v23), (7, pS x27), (8, pI (IntKind.wrap .i64 ((List.length out : Int) - 1))), (9, pB true), (14, oL 1 PV.str x1), (15, pI (List.length x1 : Int)), (16, pI v23)], [(0, rL (some 1) enc_api_Entry out), (1, rL none PV.str x1)], 2⟩) (.cons hc30 (.cons hg31 (.cons hg31 (.cons hg31 (.cons hg31 .nil)))))
      ·replace ht := ite_f ht hg31
       obtain ⟨c32, hc32, ht⟩ := bind_some ht
       have e := Option.some.inj ht
       subst e
       exact rg0 [hE, hN (.sAt c30), hE, hE, hY, (.y, (.sAt c32)), hY, hN (.pk false), hE] (⟨[(5, oL 0 enc_api_Entry out), (6, pI v23), (7, pS x27), (8, pI (IntKind.wrap .i64 ((List.length out : Int) - 1))), (9, pB (decide ((c32.toNat : Int) = 9))), (14, oL 1 PV.str x1), (15, pI (List.length x1 : Int)), (16, pI v23)], [(0, rL (some 1) enc_api_Entry out), (1, rL none PV.str x1)], 2⟩) (.cons hc30 (.cons hg31 (.cons hg31 (.cons hc32 (.cons hg31 (.cons hg31 .nil))))))
     ·clear ht
      refine x_rg (st2 := { tm := [(5, .osl 0 0 (List.map enc_api_Entry out).length), (6, .pv (.int .i64 v23)), (7, .pv (.str x27)), (8, .pv (.int .i64 (IntKind.wrap .i64 ((List.length out : Int) - 1)))), (9, .pv (.bool t33)), (10, .pv (.sl (some 3) (List.map enc_api_Attr ([] : List api_Attr)))), (14, .osl 1 0 (List.map PV.str x1).length), (15, .pv (.int .i64 (List.length x1 : Int))), (16, .pv (.int .i64 v23))], hp := [(0, some (.p (some 1) (List.map enc_api_Entry out))), (1, some (.p none (List.map PV.str x1)))], nx := 2 }) (rg [hE] ({ tm := [(5, .osl 0 0 (List.map enc_api_Entry out).length), (6, .pv (.int .i64 v23)), (7, .pv (.str x27)), (8, .pv (.int .i64 (IntKind.wrap .i64 ((List.length out : Int) - 1)))), (9, .pv (.bool t33)), (10, .pv (.nilsl)), (14, .osl 1 0 (List.map PV.str x1).length), (15, .pv (.int .i64 (List.length x1 : Int))), (16, .pv (.int .i64 v23))], hp := [(0, some (.p (some 1) (List.map enc_api_Entry out))), (1, some (.p none (List.map PV.str x1)))], nx := 2 }) .nil ((Sub.le (tm := [(5, .osl 0 0 (List.map enc_api_Entry out).length), (6, .pv (.int .i64 v23)), (7, .pv (.str x27)), (8, .pv (.int .i64 (IntKind.wrap .i64 ((List.length out : Int) - 1)))), (9, .pv (.bool t33)), (10, .pv (.nilsl)), (14, .osl 1 0 (List.map PV.str x1).length), (15, .pv (.int .i64 (List.length x1 : Int))), (16, .pv (.int .i64 v23))]) (.same (.same (.same (.same (.same (.pv (.nilSl _) (.same (.same (.same .nil)))))))))))) ?_
      refine x_join (τ := (List api_Attr)) (fun t => dial_Db_K34 v23 out x27 t33 t = some x25) (fun t => { tm := [(5, .osl 0 0 (List.map enc_api_Entry out).length), (6, .pv (.int .i64 v23)), (7, .pv (.str x27)), (8, .pv (.int .i64 (IntKind.wrap .i64 ((List.length out : Int) - 1)))), (9, .pv (.bool t33)), (10, .pv (.sl (some 3) (List.map enc_api_Attr t))), (14, .osl 1 0 (List.map PV.str x1).length), (15, .pv (.int .i64 (List.length x1 : Int))), (16, .pv (.int .i64 v23))], hp := [(0, some (.p (some 1) (List.map enc_api_Entry out))), (1, some (.p none (List.map PV.str x1)))], nx := 2 }) ?_ ?_
      ·rintro p35 h
       replace h : dial_Db_K34 v23 out x27 t33 p35 = some x25 := h
       unfold dial_Db_K34 at h
       obtain ⟨x36, hx36, h⟩ := bind_some h
       refine x_rg (rg0 [hE, hE, hN (.cal [] (.tup [.usl (some 3) (List.map enc_api_Attr x36.1), .int .i64 x36.2]) true), hE, hE, hE, hE, hE] (⟨[(5, oL 0 enc_api_Entry out), (6, pI v23), (8, pI (IntKind.wrap .i64 ((List.length out : Int) - 1))), (9, pB t33), (11, oL 1 enc_api_Attr x36.1), (12, pI x36.2), (14, oL 2 PV.str x1), (15, pI (List.length x1 : Int)), (16, pI v23)], [(0, rL (some 1) enc_api_Entry out), (1, rL (some 3) enc_api_Attr x36.1), (2, rL none PV.str x1)], 3⟩) (.cons (c36 hx36) .nil)) ?_
       refine x_seq ?_
       refine x_rg (rgn [hE, hE] (⟨[(5, oL 0 enc_api_Entry out), (6, pI v23), (8, pI (IntKind.wrap .i64 ((List.length out : Int) - 1))), (9, pB t33), (11, oL 1 enc_api_Attr x36.1), (12, pI x36.2), (14, oL 2 PV.str x1), (15, pI (List.length x1 : Int)), (16, pI v23), (60, pB (!decide (x36.2 = 0)))], [(0, rL (some 1) enc_api_Entry out), (1, rL (some 3) enc_api_Attr x36.1), (2, rL none PV.str x1)], 3⟩)) ?_
       refine x_cond _ rfl (fun hc37 => ?_) (fun hc37 => ?_)
       ·replace h := ite_t h hc37
        refine x_rg (rgn [hE, hE, hE, hE, hE] (⟨[(2, .pv (.nilsl)), (3, pI v23), (4, pI x36.2)], [], 0⟩)) ?_
        refine x_toret ?_
        refine x_tr ?_
        refine x_br ?_
        refine x_tr ?_
        refine x_tr ?_
        replace h := done_leaf h hx25
        refine x_br ?_
        refine x_tr ?_
        obtain rfl := Option.some.inj h
        exact ret0 (.tup [.nilsl, .int .i64 v23, .int .i64 x36.2]) (.tup (.cons (.nilUsl _) (.cons (.refl _) (.cons (.refl _) .nil)))) (fun h => nomatch h)
       ·replace h := ite_f h hc37
        refine kw0 (⟨[(5, oL 0 enc_api_Entry out), (8, pI (IntKind.wrap .i64 ((List.length out : Int) - 1))), (9, pB t33), (11, oL 1 enc_api_Attr x36.1), (14, oL 2 PV.str x1), (15, pI (List.length x1 : Int)), (16, pI v23)], [(0, rL (some 1) enc_api_Entry out), (1, rL (some 3) enc_api_Attr x36.1), (2, rL none PV.str x1)], 3⟩) ?_
        refine x_skip ?_
        refine x_tn ?_
        refine x_rg (st2 := { tm := [(5, .osl 0 0 (List.map enc_api_Entry out).length), (8, .pv (.int .i64 (IntKind.wrap .i64 ((List.length out : Int) - 1)))), (11, .pv (.sl (some 3) (List.map enc_api_Attr x36.1))), (14, .osl 1 0 (List.map PV.str x1).length), (15, .pv (.int .i64 (List.length x1 : Int))), (16, .pv (.int .i64 v23)), (63, .pv (.bool t33))], hp := [(0, some (.p (some 1) (List.map enc_api_Entry out))), (1, some (.p none (List.map PV.str x1)))], nx := 2 }) (rg [hE] ({ tm := [(5, .osl 0 0 (List.map enc_api_Entry out).length), (8, .pv (.int .i64 (IntKind.wrap .i64 ((List.length out : Int) - 1)))), (11, .osl 1 0 (List.map enc_api_Attr x36.1).length), (14, .osl 2 0 (List.map PV.str x1).length), (15, .pv (.int .i64 (List.length x1 : Int))), (16, .pv (.int .i64 v23)), (63, .pv (.bool t33))], hp := [(0, some (.p (some 1) (List.map enc_api_Entry out))), (1, some (.p (some 3) (List.map enc_api_Attr x36.1))), (2, some (.p none (List.map PV.str x1)))], nx := 3 }) .nil ((Sub.keep (ks := [5, 8, 11, 14, 15, 16, 63]) (st := ⟨(11, .pv (.sl (some 3) (List.map enc_api_Attr x36.1))) :: [(5, .osl 0 0 (List.map enc_api_Entry out).length), (8, .pv (.int .i64 (IntKind.wrap .i64 ((List.length out : Int) - 1)))), (11, .osl 1 0 (List.map enc_api_Attr x36.1).length), (14, .osl 2 0 (List.map PV.str x1).length), (15, .pv (.int .i64 (List.length x1 : Int))), (16, .pv (.int .i64 v23)), (63, .pv (.bool t33))], (1, none) :: [(0, some (.p (some 1) (List.map enc_api_Entry out))), (1, some (.p (some 3) (List.map enc_api_Attr x36.1))), (2, some (.p none (List.map PV.str x1)))], 3⟩) (st' := { tm := [(5, .osl 0 0 (List.map enc_api_Entry out).length), (8, .pv (.int .i64 (IntKind.wrap .i64 ((List.length out : Int) - 1)))), (11, .pv (.sl (some 3) (List.map enc_api_Attr x36.1))), (14, .osl 1 0 (List.map PV.str x1).length), (15, .pv (.int .i64 (List.length x1 : Int))), (16, .pv (.int .i64 v23)), (63, .pv (.bool t33))], hp := [(0, some (.p (some 1) (List.map enc_api_Entry out))), (1, some (.p none (List.map PV.str x1)))], nx := 2 }) (by kernel_rfl)).trans (Sub.frz (st := { tm := [(5, .osl 0 0 (List.map enc_api_Entry out).length), (8, .pv (.int .i64 (IntKind.wrap .i64 ((List.length out : Int) - 1)))), (11, .osl 1 0 (List.map enc_api_Attr x36.1).length), (14, .osl 2 0 (List.map PV.str x1).length), (15, .pv (.int .i64 (List.length x1 : Int))), (16, .pv (.int .i64 v23)), (63, .pv (.bool t33))], hp := [(0, some (.p (some 1) (List.map enc_api_Entry out))), (1, some (.p (some 3) (List.map enc_api_Attr x36.1))), (2, some (.p none (List.map PV.str x1)))], nx := 3 }) 11 (List.map enc_api_Attr x36.1) rfl rfl (Nat.le_refl _) (by rw [List.take_of_length_le (Nat.le_refl _)])))) ?_
        refine x_cond _ rfl (fun hc38 => ?_) (fun hc38 => ?_)
        ·replace h := ite_t h hc38
         obtain ⟨x39, hx39, h⟩ := bind_some h
         refine x_rgt (st2 := { tm := [(5, .osl 0 0 (List.map enc_api_Entry (List.set out (Int.toNat (IntKind.wrap .i64 ((List.length out : Int) - 1))) (api_Entry.mk x36.1))).length), (14, .osl 1 0 (List.map PV.str x1).length), (15, .pv (.int .i64 (List.length x1 : Int))), (16, .pv (.int .i64 v23))], hp := [(0, some (.p (some 1) (List.map enc_api_Entry (List.set out (Int.toNat (IntKind.wrap .i64 ((List.length out : Int) - 1))) (api_Entry.mk x36.1))))), (1, some (.p none (List.map PV.str x1)))], nx := 2 }) (rg (obs := [(0 ≤ ((IntKind.wrap .i64 ((List.length out : Int) - 1)) : Int) ∧ Int.toNat (IntKind.wrap .i64 ((List.length out : Int) - 1)) < (List.map enc_api_Entry out).length), ((List.map enc_api_Entry out)[(0 + Int.toNat (IntKind.wrap .i64 ((List.length out : Int) - 1)))]? = some (enc_api_Entry x39)), (List.set (List.map enc_api_Entry out) (0 + Int.toNat (IntKind.wrap .i64 ((List.length out : Int) - 1))) (.agg [.sl (some 3) (List.map enc_api_Attr x36.1)]) = (List.map enc_api_Entry (List.set out (Int.toNat (IntKind.wrap .i64 ((List.length out : Int) - 1))) (api_Entry.mk x36.1))))]) [hE, hE, hE, hN .rAt, hE, hN (.set (enc_api_Entry x39) (List.map enc_api_Entry (List.set out (Int.toNat (IntKind.wrap .i64 ((List.length out : Int) - 1))) (api_Entry.mk x36.1))))] ({ tm := [(5, .osl 0 0 (List.map enc_api_Entry out).length), (14, .osl 1 0 (List.map PV.str x1).length), (15, .pv (.int .i64 (List.length x1 : Int))), (16, .pv (.int .i64 v23))], hp := [(0, some (.p (some 1) (List.map enc_api_Entry (List.set out (Int.toNat (IntKind.wrap .i64 ((List.length out : Int) - 1))) (api_Entry.mk x36.1))))), (1, some (.p none (List.map PV.str x1)))], nx := 2 }) (.cons (rAt_ob hx39 (by simp)) (.cons (ownAt hx39) (.cons (by rw [Nat.zero_add, List.map_set]; try rfl) .nil))) (Sub.of_eq (by simp only [List.length_map, List.length_set]))) ?_
         refine x_bn ?_
         refine x_tn ?_
         refine x_rgt (rgn [hE, hE] (⟨[(5, oL 0 enc_api_Entry (List.set out (Int.toNat (IntKind.wrap .i64 ((List.length out : Int) - 1))) (api_Entry.mk x36.1))), (14, oL 1 PV.str x1), (15, pI (List.length x1 : Int)), (16, pI (IntKind.wrap .i64 (v23 + 1)))], [(0, rL (some 1) enc_api_Entry (List.set out (Int.toNat (IntKind.wrap .i64 ((List.length out : Int) - 1))) (api_Entry.mk x36.1))), (1, rL none PV.str x1)], 2⟩)) ?_
         refine x_tn ?_
         exact ⟨_, (Option.some.inj h).symm, by kernel_rfl⟩
        ·replace h := ite_f h hc38
         obtain ⟨x40, hx40, h⟩ := bind_some h
         refine x_rgt (rg0 (obs := [(List.take (List.map enc_api_Entry out).length (List.map enc_api_Entry out) ++ List.take 1 (List.drop 0 ([.agg [.sl (some 3) (List.map enc_api_Attr x36.1)]] : List PV)) = (List.map enc_api_Entry x40)), (List.length (List.map enc_api_Entry x40) * 24 ≤ 140737488355328), (List.length (List.map enc_api_Entry x40) ≤ 9223372036854775807), ((List.map enc_api_Entry out).length ≤ List.length (List.map enc_api_Entry out)), (0 + 1 ≤ List.length ([.agg [.sl (some 3) (List.map enc_api_Attr x36.1)]] : List PV))]) [hE, hE, hE, hE, hN (.app (List.map enc_api_Entry x40)), hE] (⟨[(5, oL 0 enc_api_Entry x40), (14, oL 1 PV.str x1), (15, pI (List.length x1 : Int)), (16, pI v23)], [(0, rL (some 1) enc_api_Entry x40), (1, rL none PV.str x1)], 2⟩) (.cons (app_ob hx40 (.all _) (.rfl _)) (.cons (by rw [List.length_map]; exact (appL_ok hx40).2.1) (.cons (by rw [List.length_map]; exact (appL_ok hx40).2.2) (.cons (Nat.le_refl _) (.cons (by simp) .nil)))))) ?_
         refine x_bn ?_
         refine x_tn ?_
         refine x_rgt (rgn [hE, hE] (⟨[(5, oL 0 enc_api_Entry x40), (14, oL 1 PV.str x1), (15, pI (List.length x1 : Int)), (16, pI (IntKind.wrap .i64 (v23 + 1)))], [(0, rL (some 1) enc_api_Entry x40), (1, rL none PV.str x1)], 2⟩)) ?_
         refine x_tn ?_
         exact ⟨_, (Option.some.inj h).symm, by kernel_rfl⟩
      ·refine x_block ?_
       refine x_rg (st2 := ⟨[(5, oL 0 enc_api_Entry out), (6, pI v23), (7, pS x27), (8, pI (IntKind.wrap .i64 ((List.length out : Int) - 1))), (9, pB t33), (10, pL (some 3) enc_api_Attr ([] : List api_Attr)), (14, oL 1 PV.str x1), (15, pI (List.length x1 : Int)), (16, pI v23), (34, pB (t33 && (decide ((IntKind.wrap .i64 ((List.length out : Int) - 1)) < 0))))], [(0, rL (some 1) enc_api_Entry out), (1, rL none PV.str x1)], 2⟩) ?_ ?_
       ·rcases Bool.eq_false_or_eq_true t33 with hg41 | hg41
        ·exact rg [hE, hE, hY, hY, hN (.pk true), hE] (⟨[(5, oL 0 enc_api_Entry out), (6, pI v23), (7, pS x27), (8, pI (IntKind.wrap .i64 ((List.length out : Int) - 1))), (9, pB t33), (10, pL (some 3) enc_api_Attr ([] : List api_Attr)), (14, oL 1 PV.str x1), (15, pI (List.length x1 : Int)), (16, pI v23), (34, pB (decide ((IntKind.wrap .i64 ((List.length out : Int) - 1)) < 0)))], [(0, rL (some 1) enc_api_Entry out), (1, rL none PV.str x1)], 2⟩) (.cons hg41 (.cons hg41 (.cons hg41 .nil))) (.of_eq (by simp only [hg41, bs, reduceIte]))
        ·exact rg [hE, hE, hS, hS, hN (.pk false), hE] (⟨[(5, oL 0 enc_api_Entry out), (6, pI v23), (7, pS x27), (8, pI (IntKind.wrap .i64 ((List.length out : Int) - 1))), (9, pB t33), (10, pL (some 3) enc_api_Attr ([] : List api_Attr)), (14, oL 1 PV.str x1), (15, pI (List.length x1 : Int)), (16, pI v23), (34, pB false)], [(0, rL (some 1) enc_api_Entry out), (1, rL none PV.str x1)], 2⟩) (.cons hg41 (.cons hg41 (.cons hg41 .nil))) (.of_eq (by simp only [hg41, bs, reduceIte]))
       ·refine x_cond _ rfl (fun hc43 => ?_) (fun hc43 => ?_)
        ·replace h := ite_t h hc43
         refine x_rg (rgn [hE, hE, hE, hE] (⟨[(2, .pv (.nilsl)), (3, pI v23), (4, pI 2)], [], 0⟩)) ?_
         refine x_toret ?_
         refine x_br ?_
         refine x_tr ?_
         refine x_br ?_
         refine x_tr ?_
         refine x_tr ?_
         replace h := done_leaf h hx25
         refine x_br ?_
         refine x_tr ?_
         obtain rfl := Option.some.inj h
         exact ret0 (.tup [.nilsl, .int .i64 v23, .int .i64 2]) (.tup (.cons (.nilUsl _) (.cons (.refl _) (.cons (.refl _) .nil)))) (fun h => nomatch h)
        ·replace h := ite_f h hc43
         refine x_rg (rgn [hE, hE] (⟨[(5, oL 0 enc_api_Entry out), (6, pI v23), (7, pS x27), (8, pI (IntKind.wrap .i64 ((List.length out : Int) - 1))), (9, pB t33), (10, pL (some 3) enc_api_Attr ([] : List api_Attr)), (14, oL 1 PV.str x1), (15, pI (List.length x1 : Int)), (16, pI v23), (41, pB t33)], [(0, rL (some 1) enc_api_Entry out), (1, rL none PV.str x1)], 2⟩)) ?_
         refine x_cond _ rfl (fun hc44 => ?_) (fun hc44 => ?_)
         ·replace h := ite_t h hc44
          obtain ⟨x45, hx45, h⟩ := bind_some h
          refine x_rgt (rg0 (obs := [(0 ≤ ((IntKind.wrap .i64 ((List.length out : Int) - 1)) : Int) ∧ Int.toNat (IntKind.wrap .i64 ((List.length out : Int) - 1)) < (List.map enc_api_Entry out).length), ((List.map enc_api_Entry out)[(0 + Int.toNat (IntKind.wrap .i64 ((List.length out : Int) - 1)))]? = some (enc_api_Entry x45))]) [hE, hE, hN .rAt, hE, hN (.ld (enc_api_Entry x45)), hE] (⟨[(5, oL 0 enc_api_Entry out), (6, pI v23), (7, pS x27), (8, pI (IntKind.wrap .i64 ((List.length out : Int) - 1))), (9, pB t33), (10, pL (some 3) enc_api_Attr x45.Attrs), (14, oL 1 PV.str x1), (15, pI (List.length x1 : Int)), (16, pI v23)], [(0, rL (some 1) enc_api_Entry out), (1, rL none PV.str x1)], 2⟩) (.cons (rAt_ob hx45 (by simp)) (.cons (ownAt hx45) .nil))) ?_
          refine x_bn ?_
          refine x_tn ?_
          exact ⟨x45.Attrs, h, by kernel_rfl⟩
         ·replace h := ite_f h hc44
          refine x_rg (rg0 (obs := [((((List.map enc_api_Entry out).length : Nat) : Int) = (List.length out : Int))]) [hE, hN (.len (List.length out : Int)), hE, hE] (⟨[(5, oL 0 enc_api_Entry out), (6, pI v23), (7, pS x27), (8, pI (IntKind.wrap .i64 ((List.length out : Int) - 1))), (9, pB t33), (10, pL (some 3) enc_api_Attr ([] : List api_Attr)), (14, oL 1 PV.str x1), (15, pI (List.length x1 : Int)), (16, pI v23), (48, pB (decide (256 ≤ (List.length out : Int))))], [(0, rL (some 1) enc_api_Entry out), (1, rL none PV.str x1)], 2⟩) (.cons (by rw [List.length_map]) .nil)) ?_
          refine x_cond _ rfl (fun hc46 => ?_) (fun hc46 => ?_)
          ·replace h := ite_t h hc46
           refine x_rg (rgn [hE, hE, hE, hE] (⟨[(2, .pv (.nilsl)), (3, pI v23), (4, pI 22)], [], 0⟩)) ?_
           refine x_toret ?_
           refine x_br ?_
           refine x_tr ?_
           refine x_br ?_
           refine x_tr ?_
           refine x_tr ?_
           replace h := done_leaf h hx25
           refine x_br ?_
           refine x_tr ?_
           obtain rfl := Option.some.inj h
           exact ret0 (.tup [.nilsl, .int .i64 v23, .int .i64 22]) (.tup (.cons (.nilUsl _) (.cons (.refl _) (.cons (.refl _) .nil)))) (fun h => nomatch h)
          ·replace h := ite_f h hc46
           refine kw0 (⟨[(5, oL 0 enc_api_Entry out), (6, pI v23), (7, pS x27), (8, pI (IntKind.wrap .i64 ((List.length out : Int) - 1))), (9, pB t33), (10, pL (some 3) enc_api_Attr ([] : List api_Attr)), (14, oL 1 PV.str x1), (15, pI (List.length x1 : Int)), (16, pI v23)], [(0, rL (some 1) enc_api_Entry out), (1, rL none PV.str x1)], 2⟩) ?_
           refine x_skip ?_
           refine x_bn ?_
           refine x_tn ?_
           exact ⟨([] : List api_Attr), h, by kernel_rfl⟩
   ·replace h := ite_f h hc26
    refine kw0 (⟨[(5, oL 0 enc_api_Entry out)], [(0, rL (some 1) enc_api_Entry out)], 1⟩) ?_
    refine x_exit ?_
    refine x_te ?_
    refine x_te ?_
    replace h := done_leaf h hx25
    refine x_bh ?_
    refine x_tn ?_
    refine x_rg (rgn [hE, hE, hE, hE] (⟨[(2, oL 0 enc_api_Entry out), (3, pI 0), (4, pI 0)], [(0, rL (some 1) enc_api_Entry out)], 1⟩)) ?_
    refine x_toret ?_
    obtain rfl := Option.some.inj h
    exact x_ret (.tup [.usl (some 1) (List.take (List.map enc_api_Entry out).length (List.map enc_api_Entry out)), .int .i64 0, .int .i64 0]) [0] [(List.map enc_api_Entry out).length ≤ List.length (List.map enc_api_Entry out)] (by kernel_rfl) (.cons (Nat.le_refl _) .nil) (by decide) (.tup (.cons (.of_eq (by rw [List.take_length])) (.cons (.refl _) (.cons (.refl _) .nil)))) (fun h => nomatch h)

theorem c63 {s_ : Str} {most : Int} {more : Str} {r : Bool} (h : dial_made s_ most more = some r) : CallOK Tryd.prog 63 [.str s_, .int .i64 most, .str more] (.bool r) true := by
  apply ok63
  unfold dial_made at h
  refine x_rg (rgn [hE] (⟨[(0, pS s_), (1, pI most), (2, pS more)], [], 0⟩)) ?_
  refine x_seq ?_
  refine x_rg (st2 := ⟨[(0, pS s_), (2, pS more), (16, pB ((decide (s_ = [])) || (decide (most < (List.length s_ : Int)))))], [], 0⟩) ?_ ?_
  ·rcases Bool.eq_false_or_eq_true (decide (s_ = [])) with hg1 | hg1
   ·exact rg [hE, hE, hE, hS, hS, hS, hS, hN (.pk true)] (⟨[(0, pS s_), (2, pS more), (16, pB true)], [], 0⟩) (.cons hg1 (.cons hg1 (.cons hg1 (.cons hg1 (.cons hg1 .nil))))) (.of_eq (by simp only [hg1, bs, reduceIte]))
   ·exact rg [hE, hE, hE, hY, hY, hY, hY, hN (.pk false)] (⟨[(0, pS s_), (2, pS more), (16, pB (decide (most < (List.length s_ : Int))))], [], 0⟩) (.cons hg1 (.cons hg1 (.cons hg1 (.cons hg1 (.cons hg1 .nil))))) (.of_eq (by simp only [hg1, bs, reduceIte]))
  ·refine x_cond _ rfl (fun hc3 => ?_) (fun hc3 => ?_)
   ·replace h := ite_t h hc3
    refine x_rg (rgn [hE] (⟨[(6, pB false)], [], 0⟩)) ?_
    refine x_toret ?_
    refine x_tr ?_
    obtain rfl := Option.some.inj h
    exact ret0 (.bool false) (.refl _) (fun _ => rfl)
   ·replace h := ite_f h hc3
    refine kw0 (⟨[(0, pS s_), (2, pS more)], [], 0⟩) ?_
    refine x_skip ?_
    refine x_tn ?_
    refine x_seq ?_
    refine x_rg (rgn [hE, hE, hE] (⟨[(0, pS s_), (2, pS more), (18, pI (List.length s_ : Int)), (19, pI 0)], [], 0⟩)) ?_
    refine x_block ?_
    refine kw0 (⟨[(0, pS s_), (2, pS more), (18, pI (List.length s_ : Int)), (19, pI 0)], [], 0⟩) ?_
    refine x_loop (σ := Int) h (fun s => ⟨[(0, pS s_), (2, pS more), (18, pI (List.length s_ : Int)), (19, pI s)], [], 0⟩) (by kernel_rfl) ?_ ?_
    ·rintro v18
     kernel_rfl
    ·rintro v18 x19 h hx19
     replace h : dial_made_L19 s_ more v18 = some x19 := h
     unfold dial_made_L19 at h
     refine x_rg (rgn [hE] (⟨[(0, pS s_), (2, pS more), (18, pI (List.length s_ : Int)), (19, pI v18), (20, pB (decide (v18 < (List.length s_ : Int))))], [], 0⟩)) ?_
     refine x_seq ?_
     refine x_cond _ rfl (fun hc20 => ?_) (fun hc20 => ?_)
     ·replace h := ite_t h hc20
      refine kw0 (⟨[(0, pS s_), (2, pS more), (18, pI (List.length s_ : Int)), (19, pI v18)], [], 0⟩) ?_
      refine x_skip ?_
      refine x_tn ?_
      refine x_seq ?_
      refine x_block ?_
      refine x_rg (rgn [hE, hE] (⟨[(0, pS s_), (2, pS more), (7, pI v18), (18, pI (List.length s_ : Int)), (19, pI v18)], [], 0⟩)) ?_
      obtain ⟨c21, hc21, h⟩ := bind_some h
      refine x_rg (rg0 [hE, hE, hN (.sAt c21), hE] (⟨[(0, pS s_), (2, pS more), (8, .pv (.int .u8 (c21.toNat : Int))), (18, pI (List.length s_ : Int)), (19, pI v18)], [], 0⟩) (.cons hc21 .nil)) ?_
      obtain ⟨t32, ht, h⟩ := bind_some h
      refine x_rg (st2 := ⟨[(0, pS s_), (2, pS more), (18, pI (List.length s_ : Int)), (19, pI v18), (44, pB t32)], [], 0⟩) ?_ ?_
      ·rcases Bool.eq_false_or_eq_true (decide ((c21.toNat : Int) < 97)) with hg22 | hg22
       ·replace ht := ite_t ht hg22
        rcases Bool.eq_false_or_eq_true (decide ((c21.toNat : Int) < 48)) with hg23 | hg23
        ·replace ht := ite_t ht hg23
         obtain ⟨x24, hx24, ht⟩ := bind_some ht
         have e := Option.some.inj ht
         subst e
         exact rg0 [hE, hE, hE, hS, hS, hN (.pk true), hE, hY, hY, hY, hS, hS, (.y, (.pk true)), hE, hE, hY, hY, (.y, (.cal [] (.int .i64 x24) true)), hY, hE] (⟨[(0, pS s_), (2, pS more), (18, pI (List.length s_ : Int)), (19, pI v18), (44, pB (decide (x24 < 0)))], [], 0⟩) (.cons hg22 (.cons hg22 (.cons hg22 (.cons tt (.cons tt (.cons tt (.cons hg23 (.cons hg23 (.cons tt (.cons hg23 (.cons tt (.cons tt (.cons tt (.cons (c91 hx24) (.cons tt .nil)))))))))))))))
        ·replace ht := ite_f ht hg23
         rcases Bool.eq_false_or_eq_true (decide (57 < (c21.toNat : Int))) with hg25 | hg25
         ·replace ht := ite_t ht hg25
          obtain ⟨x26, hx26, ht⟩ := bind_some ht
          have e := Option.some.inj ht
          subst e
          exact rg0 [hE, hE, hE, hS, hS, hN (.pk true), hE, hY, hY, hY, hY, hY, (.y, (.pk false)), hE, hE, hY, hY, (.y, (.cal [] (.int .i64 x26) true)), hY, hN (.pk true)] (⟨[(0, pS s_), (2, pS more), (18, pI (List.length s_ : Int)), (19, pI v18), (44, pB (decide (x26 < 0)))], [], 0⟩) (.cons hg22 (.cons hg22 (.cons hg22 (.cons tt (.cons tt (.cons tt (.cons hg23 (.cons hg23 (.cons tt (.cons hg23 (.cons hg25 (.cons hg25 (.cons hg25 (.cons (c91 hx26) (.cons hg25 (.cons hg25 .nil))))))))))))))))
         ·replace ht := ite_f ht hg25
          have e := Option.some.inj ht
          subst e
          exact rg0 [hE, hE, hE, hS, hS, hN (.pk true), hE, hY, hY, hY, hY, hY, (.y, (.pk false)), hE, hE, hS, hS, hS, hS, hN (.pk false)] (⟨[(0, pS s_), (2, pS more), (18, pI (List.length s_ : Int)), (19, pI v18), (44, pB false)], [], 0⟩) (.cons hg22 (.cons hg22 (.cons hg22 (.cons tt (.cons tt (.cons tt (.cons hg23 (.cons hg23 (.cons tt (.cons hg23 (.cons hg25 (.cons hg25 (.cons hg25 (.cons hg25 (.cons hg25 .nil)))))))))))))))
       ·replace ht := ite_f ht hg22
        rcases Bool.eq_false_or_eq_true (decide (122 < (c21.toNat : Int))) with hg27 | hg27
        ·replace ht := ite_t ht hg27
         rcases Bool.eq_false_or_eq_true (decide ((c21.toNat : Int) < 48)) with hg28 | hg28
         ·replace ht := ite_t ht hg28
          obtain ⟨x29, hx29, ht⟩ := bind_some ht
          have e := Option.some.inj ht
          subst e
          exact rg0 [hE, hE, hE, hY, hY, hN (.pk false), hE, hY, hY, hY, hS, hS, (.y, (.pk true)), hN (.pk true), hE, hY, hY, (.y, (.cal [] (.int .i64 x29) true)), hY, hE] (⟨[(0, pS s_), (2, pS more), (18, pI (List.length s_ : Int)), (19, pI v18), (44, pB (decide (x29 < 0)))], [], 0⟩) (.cons hg22 (.cons hg22 (.cons hg22 (.cons hg27 (.cons hg27 (.cons hg27 (.cons hg28 (.cons hg28 (.cons hg27 (.cons hg28 (.cons hg27 (.cons tt (.cons tt (.cons tt (.cons (c91 hx29) (.cons tt .nil))))))))))))))))
         ·replace ht := ite_f ht hg28
          rcases Bool.eq_false_or_eq_true (decide (57 < (c21.toNat : Int))) with hg30 | hg30
          ·replace ht := ite_t ht hg30
           obtain ⟨x31, hx31, ht⟩ := bind_some ht
           have e := Option.some.inj ht
           subst e
           exact rg0 [hE, hE, hE, hY, hY, hN (.pk false), hE, hY, hY, hY, hY, hY, (.y, (.pk false)), hN (.pk true), hE, hY, hY, (.y, (.cal [] (.int .i64 x31) true)), hY, hN (.pk true)] (⟨[(0, pS s_), (2, pS more), (18, pI (List.length s_ : Int)), (19, pI v18), (44, pB (decide (x31 < 0)))], [], 0⟩) (.cons hg22 (.cons hg22 (.cons hg22 (.cons hg27 (.cons hg27 (.cons hg27 (.cons hg28 (.cons hg28 (.cons hg27 (.cons hg28 (.cons hg27 (.cons hg30 (.cons hg30 (.cons hg30 (.cons (c91 hx31) (.cons hg30 (.cons hg30 .nil)))))))))))))))))
          ·replace ht := ite_f ht hg30
           have e := Option.some.inj ht
           subst e
           exact rg0 [hE, hE, hE, hY, hY, hN (.pk false), hE, hY, hY, hY, hY, hY, (.y, (.pk false)), hN (.pk true), hE, hS, hS, hS, hS, hN (.pk false)] (⟨[(0, pS s_), (2, pS more), (18, pI (List.length s_ : Int)), (19, pI v18), (44, pB false)], [], 0⟩) (.cons hg22 (.cons hg22 (.cons hg22 (.cons hg27 (.cons hg27 (.cons hg27 (.cons hg28 (.cons hg28 (.cons hg27 (.cons hg28 (.cons hg27 (.cons hg30 (.cons hg30 (.cons hg30 (.cons hg30 (.cons hg30 .nil))))))))))))))))
        ·replace ht := ite_f ht hg27
         have e := Option.some.inj ht
         subst e
         exact rg0 (obs := [((decide ((c21.toNat : Int) < 97)) = false), ((decide ((c21.toNat : Int) < 97)) = false), ((decide ((c21.toNat : Int) < 97)) = false), ((decide (122 < (c21.toNat : Int))) = false), ((decide (122 < (c21.toNat : Int))) = false), ((decide (122 < (c21.toNat : Int))) = false), ((decide (122 < (c21.toNat : Int))) = false), ((decide (122 < (c21.toNat : Int))) = false), (false = false), (false = false), (false = false), (false = false)]) [hE, hE, hE, hY, hY, hN (.pk false), hE, hS, hS, hS, (.u, .e), (.u, .e), hS, hN (.pk false), hE, hS, hS, hS, hS, hE] (⟨[(0, pS s_), (2, pS more), (18, pI (List.length s_ : Int)), (19, pI v18), (44, pB false)], [], 0⟩) (.cons hg22 (.cons hg22 (.cons hg22 (.cons hg27 (.cons hg27 (.cons hg27 (.cons hg27 (.cons hg27 (.cons rfl (.cons rfl (.cons rfl (.cons rfl .nil))))))))))))
      ·clear ht
       refine x_cond _ rfl (fun hc33 => ?_) (fun hc33 => ?_)
       ·replace h := ite_t h hc33
        refine x_rg (rgn [hE] (⟨[(6, pB false)], [], 0⟩)) ?_
        refine x_toret ?_
        refine x_br ?_
        refine x_tr ?_
        refine x_tr ?_
        replace h := done_leaf h hx19
        refine x_br ?_
        refine x_tr ?_
        obtain rfl := Option.some.inj h
        exact ret0 (.bool false) (.refl _) (fun _ => rfl)
       ·replace h := ite_f h hc33
        refine kw0 (⟨[(0, pS s_), (2, pS more), (18, pI (List.length s_ : Int)), (19, pI v18)], [], 0⟩) ?_
        refine x_skip ?_
        refine x_bn ?_
        refine x_tn ?_
        refine x_rgt (rgn [hE, hE] (⟨[(0, pS s_), (2, pS more), (18, pI (List.length s_ : Int)), (19, pI (IntKind.wrap .i64 (v18 + 1)))], [], 0⟩)) ?_
        refine x_tn ?_
        exact ⟨_, (Option.some.inj h).symm, by kernel_rfl⟩
     ·replace h := ite_f h hc20
      refine kw0 (⟨[], [], 0⟩) ?_
      refine x_exit ?_
      refine x_te ?_
      refine x_te ?_
      replace h := done_leaf h hx19
      refine x_bh ?_
      refine x_tn ?_
      refine x_rg (rgn [hE] (⟨[(6, pB true)], [], 0⟩)) ?_
      refine x_toret ?_
      obtain rfl := Option.some.inj h
      exact ret0 (.bool true) (.refl _) (fun _ => rfl)

theorem c64 {s_ : Str} {r : Bool} (h : dial_isNet s_ = some r) : CallOK Tryd.prog 64 [.str s_] (.bool r) true := by
  apply ok64
  unfold dial_isNet at h
  refine x_rg (rgn [hE] (⟨[(0, pS s_)], [], 0⟩)) ?_
  obtain ⟨x1, hx1, h⟩ := bind_some h
  obtain ⟨t6, ht, h⟩ := bind_some h
  refine x_rg (st2 := ⟨[(2, pB t6)], [], 0⟩) ?_ ?_
  ·rcases Bool.eq_false_or_eq_true x1 with hg2 | hg2
   ·replace ht := ite_t ht hg2
    obtain ⟨c3, hc3, ht⟩ := bind_some ht
    rcases Bool.eq_false_or_eq_true (decide (97 ≤ (c3.toNat : Int))) with hg4 | hg4
    ·replace ht := ite_t ht hg4
     obtain ⟨c5, hc5, ht⟩ := bind_some ht
     have e := Option.some.inj ht
     subst e
     exact rg0 [hE, hN (.cal [] (.bool x1) true), hE, hY, (.y, (.sAt c3)), hY, hN (.pk true), hE, hY, (.y, (.sAt c5)), hY, hN (.pk true), hE] (⟨[(2, pB (decide ((c5.toNat : Int) ≤ 122)))], [], 0⟩) (.cons (c63 hx1) (.cons hg2 (.cons hg2 (.cons hc3 (.cons hg2 (.cons hg2 (.cons hg4 (.cons hg4 (.cons hc5 (.cons hg4 (.cons hg4 .nil)))))))))))
    ·replace ht := ite_f ht hg4
     have e := Option.some.inj ht
     subst e
     exact rg0 [hE, hN (.cal [] (.bool x1) true), hE, hY, (.y, (.sAt c3)), hY, hN (.pk true), hE, hS, hS, hS, hN (.pk false), hE] (⟨[(2, pB false)], [], 0⟩) (.cons (c63 hx1) (.cons hg2 (.cons hg2 (.cons hc3 (.cons hg2 (.cons hg2 (.cons hg4 (.cons hg4 (.cons hg4 (.cons hg4 .nil))))))))))
   ·replace ht := ite_f ht hg2
    have e := Option.some.inj ht
    subst e
    exact rg0 (obs := [(CallOK Tryd.prog 63 [.str s_, .int .i64 32, .str [45, 95]] (.bool x1) true), (x1 = false), (x1 = false), (x1 = false), (x1 = false), (false = false), (false = false), (false = false)]) [hE, hN (.cal [] (.bool x1) true), hE, hS, hS, hS, hN (.pk false), hE, hS, hS, hS, hE, hE] (⟨[(2, pB false)], [], 0⟩) (.cons (c63 hx1) (.cons hg2 (.cons hg2 (.cons hg2 (.cons hg2 (.cons rfl (.cons rfl (.cons rfl .nil))))))))
  ·clear ht
   refine x_toret ?_
   obtain rfl := Option.some.inj h
   exact ret0 (.bool t6) (.refl _) (fun _ => rfl)

theorem c65 {s_ : Str} {r : Bool} (h : dial_isHost s_ = some r) : CallOK Tryd.prog 65 [.str s_] (.bool r) true := by
  apply ok65
  unfold dial_isHost at h
  refine x_rg (rgn [hE] (⟨[(0, pS s_)], [], 0⟩)) ?_
  obtain ⟨x1, hx1, h⟩ := bind_some h
  refine x_rg (rg0 [hE, hN (.cal [] (.bool x1) true), hE] (⟨[(2, pB x1)], [], 0⟩) (.cons (c63 hx1) .nil)) ?_
  refine x_toret ?_
  obtain rfl := Option.some.inj h
  exact ret0 (.bool x1) (.refl _) (fun _ => rfl)

theorem c32 {a : api_Addr} {r : Bool} (h : dial_valid a = some r) : CallOK Tryd.prog 32 [enc_api_Addr a] (.bool r) true := by
  apply ok32
  unfold dial_valid at h
  refine x_rg (rgn [hE, hE] (⟨[(1, .optr 0 0 0)], [(0, some (.p (some 3) [enc_api_Addr a]))], 1⟩)) ?_
  obtain ⟨t3, ht, h⟩ := bind_some h
  refine x_rg (st2 := ⟨[(1, .optr 0 0 0), (3, pB t3)], [(0, some (.p (some 3) [enc_api_Addr a]))], 1⟩) ?_ ?_
  ·rcases Bool.eq_false_or_eq_true (decide (a.Service = [])) with hg1 | hg1
   ·replace ht := ite_t ht hg1
    have e := Option.some.inj ht
    subst e
    exact rg0 [hE, hE, hE, hE, hS, hS, hS, hN (.pk true), hE] (⟨[(1, .optr 0 0 0), (3, pB true)], [(0, some (.p (some 3) [enc_api_Addr a]))], 1⟩) (.cons hg1 (.cons hg1 (.cons hg1 (.cons hg1 .nil))))
   ·replace ht := ite_f ht hg1
    obtain ⟨x2, hx2, ht⟩ := bind_some ht
    have e := Option.some.inj ht
    subst e
    exact rg0 [hE, hE, hE, hE, hY, hY, (.y, (.cal [] (.bool x2) true)), hN (.pk false), hE] (⟨[(1, .optr 0 0 0), (3, pB x2)], [(0, some (.p (some 3) [enc_api_Addr a]))], 1⟩) (.cons hg1 (.cons hg1 (.cons hg1 (.cons (c63 hx2) (.cons hg1 .nil)))))
  ·clear ht
   obtain ⟨x4, hx4, h⟩ := bind_some h
   obtain ⟨t9, ht, h⟩ := bind_some h
   refine x_rg (st2 := ⟨[(2, pB t9)], [], 0⟩) ?_ ?_
   ·rcases Bool.eq_false_or_eq_true x4 with hg5 | hg5
    ·replace ht := ite_t ht hg5
     rcases Bool.eq_false_or_eq_true (decide (a.Host = [42])) with hg6 | hg6
     ·replace ht := ite_t ht hg6
      have e := Option.some.inj ht
      subst e
      exact rg0 [hE, hE, hN (.cal [] (.bool x4) true), hE, hY, hY, hY, hY, hS, hS, hS, (.y, (.pk true)), hN (.pk true), hE, hY, hE, hE] (⟨[(2, pB t3)], [], 0⟩) (.cons (c64 hx4) (.cons hg5 (.cons hg5 (.cons hg5 (.cons hg5 (.cons hg6 (.cons hg6 (.cons hg6 (.cons hg5 (.cons hg6 (.cons hg5 (.cons tt .nil))))))))))))
     ·replace ht := ite_f ht hg6
      obtain ⟨x7, hx7, ht⟩ := bind_some ht
      rcases Bool.eq_false_or_eq_true x7 with hg8 | hg8
      ·replace ht := ite_t ht hg8
       have e := Option.some.inj ht
       subst e
       exact rg0 [hE, hE, hN (.cal [] (.bool x4) true), hE, hY, hY, hY, hY, hY, hY, (.y, (.cal [] (.bool x7) true)), (.y, (.pk false)), hN (.pk true), hE, hY, hN (.pk true), hE] (⟨[(2, pB t3)], [], 0⟩) (.cons (c64 hx4) (.cons hg5 (.cons hg5 (.cons hg5 (.cons hg5 (.cons hg6 (.cons hg6 (.cons hg6 (.cons (c65 hx7) (.cons hg5 (.cons hg6 (.cons hg5 (.cons hg8 (.cons hg8 .nil))))))))))))))
      ·replace ht := ite_f ht hg8
       have e := Option.some.inj ht
       subst e
       exact rg0 [hE, hE, hN (.cal [] (.bool x4) true), hE, hY, hY, hY, hY, hY, hY, (.y, (.cal [] (.bool x7) true)), (.y, (.pk false)), hN (.pk true), hE, hS, hN (.pk false), hE] (⟨[(2, pB false)], [], 0⟩) (.cons (c64 hx4) (.cons hg5 (.cons hg5 (.cons hg5 (.cons hg5 (.cons hg6 (.cons hg6 (.cons hg6 (.cons (c65 hx7) (.cons hg5 (.cons hg6 (.cons hg5 (.cons hg8 (.cons hg8 .nil))))))))))))))
    ·replace ht := ite_f ht hg5
     have e := Option.some.inj ht
     subst e
     exact rg0 (obs := [(CallOK Tryd.prog 64 [.str a.Net] (.bool x4) true), (x4 = false), (x4 = false), (x4 = false), (x4 = false), (x4 = false), (x4 = false), (false = false)]) [hE, hE, hN (.cal [] (.bool x4) true), hE, hS, hS, hS, hS, (.u, .e), (.u, .e), (.u, .e), hS, hN (.pk false), hE, hS, hE, hE] (⟨[(2, pB false)], [], 0⟩) (.cons (c64 hx4) (.cons hg5 (.cons hg5 (.cons hg5 (.cons hg5 (.cons hg5 (.cons hg5 (.cons rfl .nil))))))))
   ·clear ht
    refine x_toret ?_
    obtain rfl := Option.some.inj h
    exact ret0 (.bool t9) (.refl _) (fun _ => rfl)

theorem c100 {a : api_Attr} {a1 : Str} {r : Bool} (h : attr_index_1 a a1 = some r) : CallOK Tryd.prog 100 [enc_api_Attr a, .rptr none (.str a1) 0] (.bool r) true := by
  apply ok100
  unfold attr_index_1 at h
  refine x_rg (rgn [hE, hE] (⟨[(1, .pv (.rptr none (.str a1) 0)), (2, .optr 0 0 0)], [(0, some (.p (some 3) [enc_api_Attr a]))], 1⟩)) ?_
  refine x_rg (st2 := ⟨[(3, pB ((!a.Query) && (decide (a.Name = a1))))], [], 0⟩) ?_ ?_
  ·rcases Bool.eq_false_or_eq_true (!a.Query) with hg1 | hg1
   ·exact rg [hE, hE, hE, hE, hY, hY, hY, hY, hN (.pk true), hE] (⟨[(3, pB (decide (a.Name = a1)))], [], 0⟩) (.cons hg1 (.cons hg1 (.cons hg1 (.cons hg1 (.cons hg1 .nil))))) (.of_eq (by simp only [hg1, bs, reduceIte]))
   ·exact rg [hE, hE, hE, hE, hS, hS, hS, hS, hN (.pk false), hE] (⟨[(3, pB false)], [], 0⟩) (.cons hg1 (.cons hg1 (.cons hg1 (.cons hg1 (.cons hg1 .nil))))) (.of_eq (by simp only [hg1, bs, reduceIte]))
  ·refine x_toret ?_
   obtain rfl := Option.some.inj h
   exact ret0 (.bool ((!a.Query) && (decide (a.Name = a1)))) (.refl _) (fun _ => rfl)

theorem c99_f100 {s_ : (List api_Attr)} {f : Str} {r : Int} (h : slices_IndexFunc_api_Attr_api_Attr_f100 s_ f = some r) : CallOK Tryd.prog 99 [.sl (some 3) (List.map enc_api_Attr s_), .fn 100 [.rptr none (.str f) 0]] (.int .i64 r) true := by
  apply ok99
  unfold slices_IndexFunc_api_Attr_api_Attr_f100 at h
  refine x_rg (rgn [hE] (⟨[(0, pL (some 3) enc_api_Attr s_), (1, .pv (.fn 100 [.rptr none (.str f) 0]))], [], 0⟩)) ?_
  refine x_seq ?_
  refine x_rg (rg0 [hE, hN (.len (List.length s_ : Int)), hE] (⟨[(0, pL (some 3) enc_api_Attr s_), (1, .pv (.fn 100 [.rptr none (.str f) 0])), (7, pI (List.length s_ : Int)), (8, pI 0)], [], 0⟩) (.cons (lenM enc_api_Attr s_) .nil)) ?_
  refine x_block ?_
  refine kw0 (⟨[(0, pL (some 3) enc_api_Attr s_), (1, .pv (.fn 100 [.rptr none (.str f) 0])), (7, pI (List.length s_ : Int)), (8, pI 0)], [], 0⟩) ?_
  refine x_loop (σ := Int) h (fun s => ⟨[(0, pL (some 3) enc_api_Attr s_), (1, .pv (.fn 100 [.rptr none (.str f) 0])), (7, pI (List.length s_ : Int)), (8, pI s)], [], 0⟩) (by kernel_rfl) ?_ ?_
  ·rintro v5
   kernel_rfl
  ·rintro v5 x6 h hx6
   replace h : slices_IndexFunc_api_Attr_api_Attr_f100_L6 s_ f v5 = some x6 := h
   unfold slices_IndexFunc_api_Attr_api_Attr_f100_L6 at h
   refine x_rg (rgn [hE] (⟨[(0, pL (some 3) enc_api_Attr s_), (1, .pv (.fn 100 [.rptr none (.str f) 0])), (7, pI (List.length s_ : Int)), (8, pI v5), (9, pB (decide (v5 < (List.length s_ : Int))))], [], 0⟩)) ?_
   refine x_seq ?_
   refine x_cond _ rfl (fun hc7 => ?_) (fun hc7 => ?_)
   ·replace h := ite_t h hc7
    refine kw0 (⟨[(0, pL (some 3) enc_api_Attr s_), (1, .pv (.fn 100 [.rptr none (.str f) 0])), (7, pI (List.length s_ : Int)), (8, pI v5)], [], 0⟩) ?_
    refine x_skip ?_
    refine x_tn ?_
    refine x_seq ?_
    refine x_block ?_
    refine x_rg (rgn [hE, hE] (⟨[(0, pL (some 3) enc_api_Attr s_), (1, .pv (.fn 100 [.rptr none (.str f) 0])), (5, pI v5), (7, pI (List.length s_ : Int)), (8, pI v5)], [], 0⟩)) ?_
    obtain ⟨x8, hx8, h⟩ := bind_some h
    obtain ⟨x9, hx9, h⟩ := bind_some h
    refine x_rg (rg0 [hE, hE, hE, hN (.pAt (enc_api_Attr x8)), hE, hN (.cal [] (.bool x9) true)] (⟨[(0, pL (some 3) enc_api_Attr s_), (1, .pv (.fn 100 [.rptr none (.str f) 0])), (5, pI v5), (7, pI (List.length s_ : Int)), (8, pI v5), (16, pB x9)], [], 0⟩) (.cons (lsAt_map (f := enc_api_Attr) hx8) (.cons (c100 hx9) .nil))) ?_
    refine x_cond _ rfl (fun hc10 => ?_) (fun hc10 => ?_)
    ·replace h := ite_t h hc10
     refine x_rg (rgn [hE, hE] (⟨[(4, pI v5)], [], 0⟩)) ?_
     refine x_toret ?_
     refine x_br ?_
     refine x_tr ?_
     refine x_tr ?_
     replace h := done_leaf h hx6
     refine x_br ?_
     refine x_tr ?_
     obtain rfl := Option.some.inj h
     exact ret0 (.int .i64 v5) (.refl _) (fun _ => rfl)
    ·replace h := ite_f h hc10
     refine kw0 (⟨[(0, pL (some 3) enc_api_Attr s_), (1, .pv (.fn 100 [.rptr none (.str f) 0])), (7, pI (List.length s_ : Int)), (8, pI v5)], [], 0⟩) ?_
     refine x_skip ?_
     refine x_bn ?_
     refine x_tn ?_
     refine x_rgt (rgn [hE, hE] (⟨[(0, pL (some 3) enc_api_Attr s_), (1, .pv (.fn 100 [.rptr none (.str f) 0])), (7, pI (List.length s_ : Int)), (8, pI (IntKind.wrap .i64 (v5 + 1)))], [], 0⟩)) ?_
     refine x_tn ?_
     exact ⟨_, (Option.some.inj h).symm, by kernel_rfl⟩
   ·replace h := ite_f h hc7
    refine kw0 (⟨[], [], 0⟩) ?_
    refine x_exit ?_
    refine x_te ?_
    refine x_te ?_
    replace h := done_leaf h hx6
    refine x_bh ?_
    refine x_tn ?_
    refine x_rg (rgn [hE] (⟨[(4, pI (-1))], [], 0⟩)) ?_
    refine x_toret ?_
    obtain rfl := Option.some.inj h
    exact ret0 (.int .i64 (-1)) (.refl _) (fun _ => rfl)

theorem c72 {l : (List api_Attr)} {name : Str} {r : Int} (h : attr_index l name = some r) : CallOK Tryd.prog 72 [.sl (some 3) (List.map enc_api_Attr l), .str name] (.int .i64 r) true := by
  apply ok72
  unfold attr_index at h
  refine x_rg (rgn [hE, hE] (⟨[(0, pL (some 3) enc_api_Attr l), (3, .optr 0 0 0)], [(0, some (.p none [.str name]))], 1⟩)) ?_
  obtain ⟨x1, hx1, h⟩ := bind_some h
  refine x_rg (rg0 [hE, hE, hN (.cal [] (.int .i64 x1) true), hE] (⟨[(4, pI x1)], [], 0⟩) (.cons (c99_f100 hx1) .nil)) ?_
  refine x_toret ?_
  obtain rfl := Option.some.inj h
  exact ret0 (.int .i64 x1) (.refl _) (fun _ => rfl)

theorem c42 {l : (List api_Attr)} {name : Str} {r : (Str × Bool)} (h : attr_Find l name = some r) : CallOK Tryd.prog 42 [.sl (some 3) (List.map enc_api_Attr l), .str name] (.tup [.str r.1, .bool r.2]) true := by
  apply ok42
  unfold attr_Find at h
  refine x_rg (rgn [hE, hE] (⟨[(0, pL (some 3) enc_api_Attr l), (1, pS name)], [], 0⟩)) ?_
  obtain ⟨x1, hx1, h⟩ := bind_some h
  refine x_rg (rg0 [hE, hE, hN (.cal [] (.int .i64 x1) true), hE] (⟨[(0, pL (some 3) enc_api_Attr l), (6, pI x1)], [], 0⟩) (.cons (c72 hx1) .nil)) ?_
  refine x_seq ?_
  refine x_rg (rgn [hE, hE] (⟨[(0, pL (some 3) enc_api_Attr l), (6, pI x1), (11, pB (decide (x1 < 0)))], [], 0⟩)) ?_
  refine x_cond _ rfl (fun hc2 => ?_) (fun hc2 => ?_)
  ·replace h := ite_t h hc2
   refine x_rg (rgn [hE, hE] (⟨[(4, pS []), (5, pB false)], [], 0⟩)) ?_
   refine x_toret ?_
   refine x_tr ?_
   obtain rfl := Option.some.inj h
   exact ret0 (.tup [.str [], .bool false]) (.tup (.cons (.refl _) (.cons (.refl _) .nil))) (fun _ => rfl)
  ·replace h := ite_f h hc2
   refine kw0 (⟨[(0, pL (some 3) enc_api_Attr l), (6, pI x1)], [], 0⟩) ?_
   refine x_skip ?_
   refine x_tn ?_
   obtain ⟨x3, hx3, h⟩ := bind_some h
   refine x_rg (rg0 [hE, hE, hN (.pAt (enc_api_Attr x3)), hE, hE, hE, hE] (⟨[(4, pS x3.Value), (5, pB true)], [], 0⟩) (.cons (lsAt_map (f := enc_api_Attr) hx3) .nil)) ?_
   refine x_toret ?_
   obtain rfl := Option.some.inj h
   exact ret0 (.tup [.str x3.Value, .bool true]) (.tup (.cons (.refl _) (.cons (.refl _) .nil))) (fun _ => rfl)

theorem c101 {s_ : (List Str)} {v : Str} {r : Int} (h : slices_Index_string_string s_ v = some r) : CallOK Tryd.prog 101 [.sl none (List.map PV.str s_), .str v] (.int .i64 r) true := by
  apply ok101
  unfold slices_Index_string_string at h
  refine x_rg (rgn [hE] (⟨[(0, pL none PV.str s_), (1, pS v)], [], 0⟩)) ?_
  refine x_seq ?_
  refine x_rg (rg0 [hE, hN (.len (List.length s_ : Int)), hE] (⟨[(0, pL none PV.str s_), (1, pS v), (7, pI (List.length s_ : Int)), (8, pI 0)], [], 0⟩) (.cons (lenM PV.str s_) .nil)) ?_
  refine x_block ?_
  refine kw0 (⟨[(0, pL none PV.str s_), (1, pS v), (7, pI (List.length s_ : Int)), (8, pI 0)], [], 0⟩) ?_
  refine x_loop (σ := Int) h (fun s => ⟨[(0, pL none PV.str s_), (1, pS v), (7, pI (List.length s_ : Int)), (8, pI s)], [], 0⟩) (by kernel_rfl) ?_ ?_
  ·rintro v4
   kernel_rfl
  ·rintro v4 x5 h hx5
   replace h : slices_Index_string_string_L5 s_ v v4 = some x5 := h
   unfold slices_Index_string_string_L5 at h
   refine x_rg (rgn [hE] (⟨[(0, pL none PV.str s_), (1, pS v), (7, pI (List.length s_ : Int)), (8, pI v4), (9, pB (decide (v4 < (List.length s_ : Int))))], [], 0⟩)) ?_
   refine x_seq ?_
   refine x_cond _ rfl (fun hc6 => ?_) (fun hc6 => ?_)
   ·replace h := ite_t h hc6
    refine kw0 (⟨[(0, pL none PV.str s_), (1, pS v), (7, pI (List.length s_ : Int)), (8, pI v4)], [], 0⟩) ?_
    refine x_skip ?_
    refine x_tn ?_
    refine x_seq ?_
    refine x_block ?_
    refine x_rg (rgn [hE, hE] (⟨[(0, pL none PV.str s_), (1, pS v), (5, pI v4), (7, pI (List.length s_ : Int)), (8, pI v4)], [], 0⟩)) ?_
    obtain ⟨x7, hx7, h⟩ := bind_some h
    refine x_rg (rg0 [hE, hE, hE, hN (.pAt (.str x7)), hE, hE] (⟨[(0, pL none PV.str s_), (1, pS v), (5, pI v4), (7, pI (List.length s_ : Int)), (8, pI v4), (16, pB (decide (v = x7)))], [], 0⟩) (.cons (lsAt_map (f := PV.str) hx7) .nil)) ?_
    refine x_cond _ rfl (fun hc8 => ?_) (fun hc8 => ?_)
    ·replace h := ite_t h hc8
     refine x_rg (rgn [hE, hE] (⟨[(4, pI v4)], [], 0⟩)) ?_
     refine x_toret ?_
     refine x_br ?_
     refine x_tr ?_
     refine x_tr ?_
     replace h := done_leaf h hx5
     refine x_br ?_
     refine x_tr ?_
     obtain rfl := Option.some.inj h
     exact ret0 (.int .i64 v4) (.refl _) (fun _ => rfl)
    ·replace h := ite_f h hc8
     refine kw0 (⟨[(0, pL none PV.str s_), (1, pS v), (7, pI (List.length s_ : Int)), (8, pI v4)], [], 0⟩) ?_
     refine x_skip ?_
     refine x_bn ?_
     refine x_tn ?_
     refine x_rgt (rgn [hE, hE] (⟨[(0, pL none PV.str s_), (1, pS v), (7, pI (List.length s_ : Int)), (8, pI (IntKind.wrap .i64 (v4 + 1)))], [], 0⟩)) ?_
     refine x_tn ?_
     exact ⟨_, (Option.some.inj h).symm, by kernel_rfl⟩
   ·replace h := ite_f h hc6
    refine kw0 (⟨[], [], 0⟩) ?_
    refine x_exit ?_
    refine x_te ?_
    refine x_te ?_
    replace h := done_leaf h hx5
    refine x_bh ?_
    refine x_tn ?_
    refine x_rg (rgn [hE] (⟨[(4, pI (-1))], [], 0⟩)) ?_
    refine x_toret ?_
    obtain rfl := Option.some.inj h
    exact ret0 (.int .i64 (-1)) (.refl _) (fun _ => rfl)

theorem c74 {s_ : (List Str)} {v : Str} {r : Bool} (h : slices_Contains_string_string s_ v = some r) : CallOK Tryd.prog 74 [.sl none (List.map PV.str s_), .str v] (.bool r) true := by
  apply ok74
  unfold slices_Contains_string_string at h
  refine x_rg (rgn [hE] (⟨[(0, pL none PV.str s_), (1, pS v)], [], 0⟩)) ?_
  obtain ⟨x1, hx1, h⟩ := bind_some h
  refine x_rg (rg0 [hE, hE, hN (.cal [] (.int .i64 x1) true), hE, hE] (⟨[(4, pB (decide (0 ≤ x1)))], [], 0⟩) (.cons (c101 hx1) .nil)) ?_
  refine x_toret ?_
  obtain rfl := Option.some.inj h
  exact ret0 (.bool (decide (0 ≤ x1))) (.refl _) (fun _ => rfl)

theorem c73_o {l : (List Str)} {s_ : Str} {r : (List Str)} (h : dial_once_o l s_ = some r) : CallOK Tryd.prog 73 [.usl none (List.map PV.str l), .str s_] (.usl none (List.map PV.str r)) true := by
  apply ok73
  unfold dial_once_o at h
  refine x_rg (rgn [hE] (⟨[(0, oL 0 PV.str l), (1, pS s_)], [(0, rL none PV.str l)], 1⟩)) ?_
  refine x_seq ?_
  obtain ⟨x1, hx1, h⟩ := bind_some h
  refine x_rg (rg0 (obs := [(LesA [.sl none (List.take (List.map PV.str l).length (List.drop 0 (List.map PV.str l))), .str s_] [.sl none (List.map PV.str l), .str s_]), (CallOK Tryd.prog 74 [.sl none (List.map PV.str l), .str s_] (.bool x1) true), (0 + (List.map PV.str l).length ≤ List.length (List.map PV.str l))]) [hE, hE, hN (.call [] [.sl none (List.map PV.str l), .str s_] (.bool x1) true)] (⟨[(0, oL 0 PV.str l), (1, pS s_), (7, pB x1)], [(0, rL none PV.str l)], 1⟩) (.cons (.cons (.of_eq (by rw [List.drop_zero, List.take_length])) (.cons (.refl _) .nil)) (.cons (c74 hx1) (.cons (by simp) .nil)))) ?_
  refine x_cond _ rfl (fun hc2 => ?_) (fun hc2 => ?_)
  ·replace h := ite_t h hc2
   refine x_rg (rgn [hE, hE] (⟨[(4, oL 0 PV.str l)], [(0, rL none PV.str l)], 1⟩)) ?_
   refine x_toret ?_
   refine x_tr ?_
   obtain rfl := Option.some.inj h
   exact x_ret (.usl none (List.take (List.map PV.str l).length (List.map PV.str l))) [0] [(List.map PV.str l).length ≤ List.length (List.map PV.str l)] (by kernel_rfl) (.cons (Nat.le_refl _) .nil) (by decide) (.of_eq (by rw [List.take_length])) (fun _ => (usl_ns (sh := none) (fun _ => rfl)))
  ·replace h := ite_f h hc2
   refine kw0 (⟨[(0, oL 0 PV.str l), (1, pS s_)], [(0, rL none PV.str l)], 1⟩) ?_
   refine x_skip ?_
   refine x_tn ?_
   obtain ⟨x3, hx3, h⟩ := bind_some h
   refine x_rg (rg0 (obs := [(List.take (List.map PV.str l).length (List.map PV.str l) ++ List.take 1 (List.drop 0 ([.str s_] : List PV)) = (List.map PV.str x3)), (List.length (List.map PV.str x3) * 16 ≤ 140737488355328), (List.length (List.map PV.str x3) ≤ 9223372036854775807), ((List.map PV.str l).length ≤ List.length (List.map PV.str l)), (0 + 1 ≤ List.length ([.str s_] : List PV))]) [hE, hE, hE, hN (.app (List.map PV.str x3)), hE] (⟨[(4, oL 0 PV.str x3)], [(0, rL none PV.str x3)], 1⟩) (.cons (app_ob hx3 (.all _) (.rfl _)) (.cons (by rw [List.length_map]; exact (appL_ok hx3).2.1) (.cons (by rw [List.length_map]; exact (appL_ok hx3).2.2) (.cons (Nat.le_refl _) (.cons (by simp) .nil)))))) ?_
   refine x_toret ?_
   obtain rfl := Option.some.inj h
   exact x_ret (.usl none (List.take (List.map PV.str x3).length (List.map PV.str x3))) [0] [(List.map PV.str x3).length ≤ List.length (List.map PV.str x3)] (by kernel_rfl) (.cons (Nat.le_refl _) .nil) (by decide) (.of_eq (by rw [List.take_length])) (fun _ => (usl_ns (sh := none) (fun _ => rfl)))

theorem c43 {l : (List api_Entry)} {name : Str} {r : (List Str)} (h : dial_values l name = some r) : CallOK Tryd.prog 43 [.sl (some 1) (List.map enc_api_Entry l), .str name] (.usl none (List.map PV.str r)) true := by
  apply ok43
  unfold dial_values at h
  refine x_rg (rgn [hE] (⟨[(0, pL (some 1) enc_api_Entry l), (1, pS name)], [], 0⟩)) ?_
  refine x_rg (st2 := { tm := [(0, .pv (.sl (some 1) (List.map enc_api_Entry l))), (1, .pv (.str name)), (5, .osl 0 0 (List.map PV.str ([] : List Str)).length)], hp := [(0, some (.p none (List.map PV.str ([] : List Str))))], nx := 1 }) (rg [hE] ({ tm := [(0, .pv (.sl (some 1) (List.map enc_api_Entry l))), (1, .pv (.str name)), (5, .pv (.nilsl))], hp := [], nx := 0 }) .nil ((Sub.keep (ks := [0, 1, 5]) (st := ownSt 5 none ({ tm := [(0, .pv (.sl (some 1) (List.map enc_api_Entry l))), (1, .pv (.str name)), (5, .pv (.nilsl))], hp := [], nx := 0 })) (st' := { tm := [(0, .pv (.sl (some 1) (List.map enc_api_Entry l))), (1, .pv (.str name)), (5, .osl 0 0 (List.map PV.str ([] : List Str)).length)], hp := [(0, some (.p none (List.map PV.str ([] : List Str))))], nx := 1 }) (by kernel_rfl)).trans (own_sound 5 none ({ tm := [(0, .pv (.sl (some 1) (List.map enc_api_Entry l))), (1, .pv (.str name)), (5, .pv (.nilsl))], hp := [], nx := 0 })))) ?_
  refine x_seq ?_
  refine x_rg (rg0 [hE, hN (.len (List.length l : Int)), hE] (⟨[(1, pS name), (5, oL 0 PV.str ([] : List Str)), (10, pL (some 1) enc_api_Entry l), (11, pI (List.length l : Int)), (12, pI 0)], [(0, rL none PV.str ([] : List Str))], 1⟩) (.cons (lenM enc_api_Entry l) .nil)) ?_
  refine x_block ?_
  refine kw0 (⟨[(1, pS name), (5, oL 0 PV.str ([] : List Str)), (10, pL (some 1) enc_api_Entry l), (11, pI (List.length l : Int)), (12, pI 0)], [(0, rL none PV.str ([] : List Str))], 1⟩) ?_
  refine x_loop (σ := (Int × (List Str))) h (fun s => ⟨[(1, pS name), (5, oL 0 PV.str s.2), (10, pL (some 1) enc_api_Entry l), (11, pI (List.length l : Int)), (12, pI s.1)], [(0, rL none PV.str s.2)], 1⟩) (by kernel_rfl) ?_ ?_
  ·rintro ⟨v6, out⟩
   kernel_rfl
  ·rintro ⟨v6, out⟩ x8 h hx8
   replace h : dial_values_L8 l name v6 out = some x8 := h
   unfold dial_values_L8 at h
   refine x_rg (rgn [hE] (⟨[(1, pS name), (5, oL 0 PV.str out), (10, pL (some 1) enc_api_Entry l), (11, pI (List.length l : Int)), (12, pI v6), (13, pB (decide (v6 < (List.length l : Int))))], [(0, rL none PV.str out)], 1⟩)) ?_
   refine x_seq ?_
   refine x_cond _ rfl (fun hc9 => ?_) (fun hc9 => ?_)
   ·replace h := ite_t h hc9
    refine kw0 (⟨[(1, pS name), (5, oL 0 PV.str out), (10, pL (some 1) enc_api_Entry l), (11, pI (List.length l : Int)), (12, pI v6)], [(0, rL none PV.str out)], 1⟩) ?_
    refine x_skip ?_
    refine x_tn ?_
    refine x_seq ?_
    refine x_block ?_
    obtain ⟨x10, hx10, h⟩ := bind_some h
    refine x_rg (rg0 [hN (.pAt (enc_api_Entry x10)), hE, hE, hE] (⟨[(1, pS name), (5, oL 0 PV.str out), (7, .optr 1 0 0), (10, pL (some 1) enc_api_Entry l), (11, pI (List.length l : Int)), (12, pI v6)], [(0, rL none PV.str out), (1, some (.p (some 1) [enc_api_Entry x10]))], 2⟩) (.cons (lsAt_map (f := enc_api_Entry) hx10) .nil)) ?_
    obtain ⟨x11, hx11, h⟩ := bind_some h
    refine x_rg (rg0 [hE, hE, hE, hN (.cal [] (.tup [.str x11.1, .bool x11.2]) true), hE, hE, hE, hE, hE] (⟨[(1, pS name), (5, oL 0 PV.str out), (8, pS x11.1), (9, pB x11.2), (10, pL (some 1) enc_api_Entry l), (11, pI (List.length l : Int)), (12, pI v6)], [(0, rL none PV.str out)], 1⟩) (.cons (c42 hx11) .nil)) ?_
    refine x_rg (rgn [hE] (⟨[(1, pS name), (5, oL 0 PV.str out), (8, pS x11.1), (10, pL (some 1) enc_api_Entry l), (11, pI (List.length l : Int)), (12, pI v6), (23, pB x11.2)], [(0, rL none PV.str out)], 1⟩)) ?_
    refine x_cond _ rfl (fun hc12 => ?_) (fun hc12 => ?_)
    ·replace h := ite_t h hc12
     obtain ⟨x13, hx13, h⟩ := bind_some h
     refine x_rgt (rg0 (obs := [(LesA [.usl none (List.take (List.map PV.str out).length (List.map PV.str out)), .str x11.1] [.usl none (List.map PV.str out), .str x11.1]), (CallOK Tryd.prog 73 [.usl none (List.map PV.str out), .str x11.1] (.usl none (List.map PV.str x13)) true), ((List.map PV.str out).length ≤ List.length (List.map PV.str out))]) [hE, hE, hN (.call [0] [.usl none (List.map PV.str out), .str x11.1] (.usl none (List.map PV.str x13)) true), hE] (⟨[(1, pS name), (5, oL 0 PV.str x13), (10, pL (some 1) enc_api_Entry l), (11, pI (List.length l : Int)), (12, pI v6)], [(0, rL none PV.str x13)], 1⟩) (.cons (.cons (.of_eq (by rw [List.take_length])) (.cons (.refl _) .nil)) (.cons (c73_o hx13) (.cons (Nat.le_refl _) .nil)))) ?_
     refine x_bn ?_
     refine x_tn ?_
     refine x_rgt (rgn [hE, hE] (⟨[(1, pS name), (5, oL 0 PV.str x13), (10, pL (some 1) enc_api_Entry l), (11, pI (List.length l : Int)), (12, pI (IntKind.wrap .i64 (v6 + 1)))], [(0, rL none PV.str x13)], 1⟩)) ?_
     refine x_tn ?_
     exact ⟨_, (Option.some.inj h).symm, by kernel_rfl⟩
    ·replace h := ite_f h hc12
     refine kw0 (⟨[(1, pS name), (5, oL 0 PV.str out), (10, pL (some 1) enc_api_Entry l), (11, pI (List.length l : Int)), (12, pI v6)], [(0, rL none PV.str out)], 1⟩) ?_
     refine x_skip ?_
     refine x_bn ?_
     refine x_tn ?_
     refine x_rgt (rgn [hE, hE] (⟨[(1, pS name), (5, oL 0 PV.str out), (10, pL (some 1) enc_api_Entry l), (11, pI (List.length l : Int)), (12, pI (IntKind.wrap .i64 (v6 + 1)))], [(0, rL none PV.str out)], 1⟩)) ?_
     refine x_tn ?_
     exact ⟨_, (Option.some.inj h).symm, by kernel_rfl⟩
   ·replace h := ite_f h hc9
    refine kw0 (⟨[(5, oL 0 PV.str out)], [(0, rL none PV.str out)], 1⟩) ?_
    refine x_exit ?_
    refine x_te ?_
    refine x_te ?_
    replace h := done_leaf h hx8
    refine x_bh ?_
    refine x_tn ?_
    refine x_rg (rgn [hE, hE] (⟨[(4, oL 0 PV.str out)], [(0, rL none PV.str out)], 1⟩)) ?_
    refine x_toret ?_
    obtain rfl := Option.some.inj h
    exact x_ret (.usl none (List.take (List.map PV.str out).length (List.map PV.str out))) [0] [(List.map PV.str out).length ≤ List.length (List.map PV.str out)] (by kernel_rfl) (.cons (Nat.le_refl _) .nil) (by decide) (.of_eq (by rw [List.take_length])) (fun _ => (usl_ns (sh := none) (fun _ => rfl)))

theorem c46 {l : (List api_Entry)} {name : Str} {r : (List Str)} (h : dial_networks l name = some r) : CallOK Tryd.prog 46 [.sl (some 1) (List.map enc_api_Entry l), .str name] (.usl none (List.map PV.str r)) true := by
  apply ok46
  unfold dial_networks at h
  refine x_rg (rgn [hE] (⟨[(0, pL (some 1) enc_api_Entry l), (1, pS name)], [], 0⟩)) ?_
  refine x_rg (st2 := { tm := [(0, .pv (.sl (some 1) (List.map enc_api_Entry l))), (1, .pv (.str name)), (5, .osl 0 0 (List.map PV.str ([] : List Str)).length)], hp := [(0, some (.p none (List.map PV.str ([] : List Str))))], nx := 1 }) (rg [hE] ({ tm := [(0, .pv (.sl (some 1) (List.map enc_api_Entry l))), (1, .pv (.str name)), (5, .pv (.nilsl))], hp := [], nx := 0 }) .nil ((Sub.keep (ks := [0, 1, 5]) (st := ownSt 5 none ({ tm := [(0, .pv (.sl (some 1) (List.map enc_api_Entry l))), (1, .pv (.str name)), (5, .pv (.nilsl))], hp := [], nx := 0 })) (st' := { tm := [(0, .pv (.sl (some 1) (List.map enc_api_Entry l))), (1, .pv (.str name)), (5, .osl 0 0 (List.map PV.str ([] : List Str)).length)], hp := [(0, some (.p none (List.map PV.str ([] : List Str))))], nx := 1 }) (by kernel_rfl)).trans (own_sound 5 none ({ tm := [(0, .pv (.sl (some 1) (List.map enc_api_Entry l))), (1, .pv (.str name)), (5, .pv (.nilsl))], hp := [], nx := 0 })))) ?_
  refine x_seq ?_
  obtain ⟨x1, hx1, h⟩ := bind_some h
  refine x_rg (rg0 (obs := [(CallOK Tryd.prog 43 [.sl (some 1) (List.map enc_api_Entry l), .str [110, 101, 116]] (.usl none (List.map PV.str x1)) true), ((((List.map PV.str x1).length : Nat) : Int) = (List.length x1 : Int))]) [hE, hN (.cal [] (.usl none (List.map PV.str x1)) true), hN (.len (List.length x1 : Int)), hE] (⟨[(1, pS name), (5, oL 0 PV.str ([] : List Str)), (9, oL 1 PV.str x1), (10, pI (List.length x1 : Int)), (11, pI 0)], [(0, rL none PV.str ([] : List Str)), (1, rL none PV.str x1)], 2⟩) (.cons (c43 hx1) (.cons (by rw [List.length_map]) .nil))) ?_
  refine x_block ?_
  refine kw0 (⟨[(1, pS name), (5, oL 0 PV.str ([] : List Str)), (9, oL 1 PV.str x1), (10, pI (List.length x1 : Int)), (11, pI 0)], [(0, rL none PV.str ([] : List Str)), (1, rL none PV.str x1)], 2⟩) ?_
  refine x_loop (σ := (Int × (List Str))) h (fun s => ⟨[(1, pS name), (5, oL 0 PV.str s.2), (9, oL 1 PV.str x1), (10, pI (List.length x1 : Int)), (11, pI s.1)], [(0, rL none PV.str s.2), (1, rL none PV.str x1)], 2⟩) (by kernel_rfl) ?_ ?_
  ·rintro ⟨v11, out⟩
   kernel_rfl
  ·rintro ⟨v11, out⟩ x13 h hx13
   replace h : dial_networks_L13 name x1 v11 out = some x13 := h
   unfold dial_networks_L13 at h
   refine x_rg (rgn [hE] (⟨[(1, pS name), (5, oL 0 PV.str out), (9, oL 1 PV.str x1), (10, pI (List.length x1 : Int)), (11, pI v11), (12, pB (decide (v11 < (List.length x1 : Int))))], [(0, rL none PV.str out), (1, rL none PV.str x1)], 2⟩)) ?_
   refine x_seq ?_
   refine x_cond _ rfl (fun hc14 => ?_) (fun hc14 => ?_)
   ·replace h := ite_t h hc14
    refine kw0 (⟨[(1, pS name), (5, oL 0 PV.str out), (9, oL 1 PV.str x1), (10, pI (List.length x1 : Int)), (11, pI v11)], [(0, rL none PV.str out), (1, rL none PV.str x1)], 2⟩) ?_
    refine x_skip ?_
    refine x_tn ?_
    refine x_seq ?_
    refine x_block ?_
    obtain ⟨x15, hx15, h⟩ := bind_some h
    refine x_rg (rg0 (obs := [(0 ≤ (v11 : Int) ∧ Int.toNat v11 < (List.map PV.str x1).length), ((List.map PV.str x1)[(0 + Int.toNat v11)]? = some (.str x15))]) [hN .rAt, hN (.ld (.str x15)), hE] (⟨[(1, pS name), (5, oL 0 PV.str out), (7, pS x15), (9, oL 1 PV.str x1), (10, pI (List.length x1 : Int)), (11, pI v11)], [(0, rL none PV.str out), (1, rL none PV.str x1)], 2⟩) (.cons (rAt_ob hx15 (by simp)) (.cons (ownAt hx15) .nil))) ?_
    obtain ⟨x16, hx16, h⟩ := bind_some h
    refine x_rg (st2 := ⟨[(1, pS name), (5, oL 0 PV.str out), (7, pS x15), (9, oL 1 PV.str x1), (10, pI (List.length x1 : Int)), (11, pI v11), (29, pB (x16 && ((!decide (x15 = [110, 101, 116])) && ((decide (name = [110, 101, 116])) || (decide (name = x15))))))], [(0, rL none PV.str out), (1, rL none PV.str x1)], 2⟩) ?_ ?_
    ·rcases Bool.eq_false_or_eq_true x16 with hg17 | hg17
     ·rcases Bool.eq_false_or_eq_true (!decide (x15 = [110, 101, 116])) with hg18 | hg18
      ·rcases Bool.eq_false_or_eq_true (decide (name = [110, 101, 116])) with hg19 | hg19
       ·exact rg [hE, hN (.cal [] (.bool x16) true), hE, hY, hY, hN (.pk true), hE, hY, hY, hY, hS, hS, hS, (.y, (.pk true)), hN (.pk true)] (⟨[(1, pS name), (5, oL 0 PV.str out), (7, pS x15), (9, oL 1 PV.str x1), (10, pI (List.length x1 : Int)), (11, pI v11), (29, pB true)], [(0, rL none PV.str out), (1, rL none PV.str x1)], 2⟩) (.cons (c64 hx16) (.cons hg17 (.cons hg17 (.cons hg17 (.cons hg18 (.cons hg18 (.cons hg18 (.cons hg19 (.cons hg19 (.cons hg19 (.cons hg18 (.cons hg19 (.cons hg18 .nil))))))))))))) (.of_eq (by simp only [hg17, hg18, hg19, bs, reduceIte]))
       ·exact rg [hE, hN (.cal [] (.bool x16) true), hE, hY, hY, hN (.pk true), hE, hY, hY, hY, hY, hY, hY, (.y, (.pk false)), hN (.pk true)] (⟨[(1, pS name), (5, oL 0 PV.str out), (7, pS x15), (9, oL 1 PV.str x1), (10, pI (List.length x1 : Int)), (11, pI v11), (29, pB (decide (name = x15)))], [(0, rL none PV.str out), (1, rL none PV.str x1)], 2⟩) (.cons (c64 hx16) (.cons hg17 (.cons hg17 (.cons hg17 (.cons hg18 (.cons hg18 (.cons hg18 (.cons hg19 (.cons hg19 (.cons hg19 (.cons hg18 (.cons hg19 (.cons hg18 .nil))))))))))))) (.of_eq (by simp only [hg17, hg18, hg19, bs, reduceIte]))
      ·exact rg [hE, hN (.cal [] (.bool x16) true), hE, hY, hY, hN (.pk true), hE, hS, hS, hS, (.u, .e), (.u, .e), (.u, .e), hS, hN (.pk false)] (⟨[(1, pS name), (5, oL 0 PV.str out), (7, pS x15), (9, oL 1 PV.str x1), (10, pI (List.length x1 : Int)), (11, pI v11), (29, pB false)], [(0, rL none PV.str out), (1, rL none PV.str x1)], 2⟩) (.cons (c64 hx16) (.cons hg17 (.cons hg17 (.cons hg17 (.cons hg18 (.cons hg18 (.cons hg18 (.cons hg18 (.cons hg18 .nil))))))))) (.of_eq (by simp only [hg17, hg18, bs, reduceIte]))
     ·exact rg (obs := [(CallOK Tryd.prog 64 [.str x15] (.bool x16) true), (x16 = false), (x16 = false), (x16 = false), (false = false), (false = false), (false = false), (false = false)]) [hE, hN (.cal [] (.bool x16) true), hE, hS, hS, hN (.pk false), hE, hS, hS, hS, (.u, .e), (.u, .e), (.u, .e), hS, hE] (⟨[(1, pS name), (5, oL 0 PV.str out), (7, pS x15), (9, oL 1 PV.str x1), (10, pI (List.length x1 : Int)), (11, pI v11), (29, pB false)], [(0, rL none PV.str out), (1, rL none PV.str x1)], 2⟩) (.cons (c64 hx16) (.cons hg17 (.cons hg17 (.cons hg17 (.cons rfl (.cons rfl (.cons rfl (.cons rfl .nil)))))))) (.of_eq (by simp only [hg17, bs, reduceIte]))
    ·refine x_cond _ rfl (fun hc21 => ?_) (fun hc21 => ?_)
     ·replace h := ite_t h hc21
      obtain ⟨x22, hx22, h⟩ := bind_some h
      refine x_rgt (rg0 (obs := [(List.take (List.map PV.str out).length (List.map PV.str out) ++ List.take 1 (List.drop 0 ([.str x15] : List PV)) = (List.map PV.str x22)), (List.length (List.map PV.str x22) * 16 ≤ 140737488355328), (List.length (List.map PV.str x22) ≤ 9223372036854775807), ((List.map PV.str out).length ≤ List.length (List.map PV.str out)), (0 + 1 ≤ List.length ([.str x15] : List PV))]) [hE, hE, hE, hN (.app (List.map PV.str x22)), hE] (⟨[(1, pS name), (5, oL 0 PV.str x22), (9, oL 1 PV.str x1), (10, pI (List.length x1 : Int)), (11, pI v11)], [(0, rL none PV.str x22), (1, rL none PV.str x1)], 2⟩) (.cons (app_ob hx22 (.all _) (.rfl _)) (.cons (by rw [List.length_map]; exact (appL_ok hx22).2.1) (.cons (by rw [List.length_map]; exact (appL_ok hx22).2.2) (.cons (Nat.le_refl _) (.cons (by simp) .nil)))))) ?_
      refine x_bn ?_
      refine x_tn ?_
      refine x_rgt (rgn [hE, hE] (⟨[(1, pS name), (5, oL 0 PV.str x22), (9, oL 1 PV.str x1), (10, pI (List.length x1 : Int)), (11, pI (IntKind.wrap .i64 (v11 + 1)))], [(0, rL none PV.str x22), (1, rL none PV.str x1)], 2⟩)) ?_
      refine x_tn ?_
      exact ⟨_, (Option.some.inj h).symm, by kernel_rfl⟩
     ·replace h := ite_f h hc21
      refine kw0 (⟨[(1, pS name), (5, oL 0 PV.str out), (9, oL 1 PV.str x1), (10, pI (List.length x1 : Int)), (11, pI v11)], [(0, rL none PV.str out), (1, rL none PV.str x1)], 2⟩) ?_
      refine x_skip ?_
      refine x_bn ?_
      refine x_tn ?_
      refine x_rgt (rgn [hE, hE] (⟨[(1, pS name), (5, oL 0 PV.str out), (9, oL 1 PV.str x1), (10, pI (List.length x1 : Int)), (11, pI (IntKind.wrap .i64 (v11 + 1)))], [(0, rL none PV.str out), (1, rL none PV.str x1)], 2⟩)) ?_
      refine x_tn ?_
      exact ⟨_, (Option.some.inj h).symm, by kernel_rfl⟩
   ·replace h := ite_f h hc14
    refine kw0 (⟨[(5, oL 0 PV.str out)], [(0, rL none PV.str out)], 1⟩) ?_
    refine x_exit ?_
    refine x_te ?_
    refine x_te ?_
    replace h := done_leaf h hx13
    refine x_bh ?_
    refine x_tn ?_
    refine x_rg (rgn [hE, hE] (⟨[(4, oL 0 PV.str out)], [(0, rL none PV.str out)], 1⟩)) ?_
    refine x_toret ?_
    obtain rfl := Option.some.inj h
    exact x_ret (.usl none (List.take (List.map PV.str out).length (List.map PV.str out))) [0] [(List.map PV.str out).length ≤ List.length (List.map PV.str out)] (by kernel_rfl) (.cons (Nat.le_refl _) .nil) (by decide) (.of_eq (by rw [List.take_length])) (fun _ => (usl_ns (sh := none) (fun _ => rfl)))

theorem c20 {l : (List api_Entry)} {name : Str} {value : Str} {want : Str} {r : (List Str)} (h : dial_Query l name value want = some r) : CallOK Tryd.prog 20 [.sl (some 1) (List.map enc_api_Entry l), .str name, .str value, .str want] (.usl none (List.map PV.str r)) true := by
  apply ok20
  unfold dial_Query at h
  refine x_rg (rgn [hE] (⟨[(0, pL (some 1) enc_api_Entry l), (1, pS name), (2, pS value), (3, pS want)], [], 0⟩)) ?_
  refine x_rg (st2 := { tm := [(0, .pv (.sl (some 1) (List.map enc_api_Entry l))), (1, .pv (.str name)), (2, .pv (.str value)), (3, .pv (.str want)), (9, .osl 0 0 (List.map enc_api_Entry ([] : List api_Entry)).length)], hp := [(0, some (.p (some 1) (List.map enc_api_Entry ([] : List api_Entry))))], nx := 1 }) (rg [hE] ({ tm := [(0, .pv (.sl (some 1) (List.map enc_api_Entry l))), (1, .pv (.str name)), (2, .pv (.str value)), (3, .pv (.str want)), (9, .pv (.nilsl))], hp := [], nx := 0 }) .nil ((Sub.keep (ks := [0, 1, 2, 3, 9]) (st := ownSt 9 (some 1) ({ tm := [(0, .pv (.sl (some 1) (List.map enc_api_Entry l))), (1, .pv (.str name)), (2, .pv (.str value)), (3, .pv (.str want)), (9, .pv (.nilsl))], hp := [], nx := 0 })) (st' := { tm := [(0, .pv (.sl (some 1) (List.map enc_api_Entry l))), (1, .pv (.str name)), (2, .pv (.str value)), (3, .pv (.str want)), (9, .osl 0 0 (List.map enc_api_Entry ([] : List api_Entry)).length)], hp := [(0, some (.p (some 1) (List.map enc_api_Entry ([] : List api_Entry))))], nx := 1 }) (by kernel_rfl)).trans (own_sound 9 (some 1) ({ tm := [(0, .pv (.sl (some 1) (List.map enc_api_Entry l))), (1, .pv (.str name)), (2, .pv (.str value)), (3, .pv (.str want)), (9, .pv (.nilsl))], hp := [], nx := 0 })))) ?_
  refine x_seq ?_
  refine x_rg (rg0 [hE, hN (.len (List.length l : Int)), hE] (⟨[(1, pS name), (2, pS value), (3, pS want), (9, oL 0 enc_api_Entry ([] : List api_Entry)), (14, pL (some 1) enc_api_Entry l), (15, pI (List.length l : Int)), (16, pI 0)], [(0, rL (some 1) enc_api_Entry ([] : List api_Entry))], 1⟩) (.cons (lenM enc_api_Entry l) .nil)) ?_
  refine x_block ?_
  refine kw0 (⟨[(1, pS name), (2, pS value), (3, pS want), (9, oL 0 enc_api_Entry ([] : List api_Entry)), (14, pL (some 1) enc_api_Entry l), (15, pI (List.length l : Int)), (16, pI 0)], [(0, rL (some 1) enc_api_Entry ([] : List api_Entry))], 1⟩) ?_
  refine x_loop (σ := (Int × (List api_Entry))) h (fun s => ⟨[(1, pS name), (2, pS value), (3, pS want), (9, oL 0 enc_api_Entry s.2), (14, pL (some 1) enc_api_Entry l), (15, pI (List.length l : Int)), (16, pI s.1)], [(0, rL (some 1) enc_api_Entry s.2)], 1⟩) (by kernel_rfl) ?_ ?_
  ·rintro ⟨v8, hits⟩
   kernel_rfl
  ·rintro ⟨v8, hits⟩ x10 h hx10
   replace h : dial_Query_L10 l name value want v8 hits = some x10 := h
   unfold dial_Query_L10 at h
   refine x_rg (rgn [hE] (⟨[(1, pS name), (2, pS value), (3, pS want), (9, oL 0 enc_api_Entry hits), (14, pL (some 1) enc_api_Entry l), (15, pI (List.length l : Int)), (16, pI v8), (17, pB (decide (v8 < (List.length l : Int))))], [(0, rL (some 1) enc_api_Entry hits)], 1⟩)) ?_
   refine x_seq ?_
   refine x_cond _ rfl (fun hc11 => ?_) (fun hc11 => ?_)
   ·replace h := ite_t h hc11
    refine kw0 (⟨[(1, pS name), (2, pS value), (3, pS want), (9, oL 0 enc_api_Entry hits), (14, pL (some 1) enc_api_Entry l), (15, pI (List.length l : Int)), (16, pI v8)], [(0, rL (some 1) enc_api_Entry hits)], 1⟩) ?_
    refine x_skip ?_
    refine x_tn ?_
    refine x_seq ?_
    refine x_block ?_
    obtain ⟨x12, hx12, h⟩ := bind_some h
    refine x_rg (rg0 [hN (.pAt (enc_api_Entry x12)), hE, hE, hE] (⟨[(1, pS name), (2, pS value), (3, pS want), (9, oL 0 enc_api_Entry hits), (11, .optr 1 0 0), (14, pL (some 1) enc_api_Entry l), (15, pI (List.length l : Int)), (16, pI v8)], [(0, rL (some 1) enc_api_Entry hits), (1, some (.p (some 1) [enc_api_Entry x12]))], 2⟩) (.cons (lsAt_map (f := enc_api_Entry) hx12) .nil)) ?_
    obtain ⟨x13, hx13, h⟩ := bind_some h
    refine x_rg (rg0 [hE, hE, hE, hN (.cal [] (.tup [.str x13.1, .bool x13.2]) true), hE, hE, hE, hE, hE] (⟨[(1, pS name), (2, pS value), (3, pS want), (9, oL 0 enc_api_Entry hits), (11, .optr 1 0 0), (12, pS x13.1), (13, pB x13.2), (14, pL (some 1) enc_api_Entry l), (15, pI (List.length l : Int)), (16, pI v8)], [(0, rL (some 1) enc_api_Entry hits), (1, some (.p (some 1) [enc_api_Entry x12]))], 2⟩) (.cons (c42 hx13) .nil)) ?_
    refine x_rg (st2 := ⟨[(1, pS name), (2, pS value), (3, pS want), (9, oL 0 enc_api_Entry hits), (11, .optr 1 0 0), (14, pL (some 1) enc_api_Entry l), (15, pI (List.length l : Int)), (16, pI v8), (32, pB (x13.2 && (decide (x13.1 = value))))], [(0, rL (some 1) enc_api_Entry hits), (1, some (.p (some 1) [enc_api_Entry x12]))], 2⟩) ?_ ?_
    ·rcases Bool.eq_false_or_eq_true x13.2 with hg14 | hg14
     ·exact rg [hE, hE, hY, hY, hY, hN (.pk true)] (⟨[(1, pS name), (2, pS value), (3, pS want), (9, oL 0 enc_api_Entry hits), (11, .optr 1 0 0), (14, pL (some 1) enc_api_Entry l), (15, pI (List.length l : Int)), (16, pI v8), (32, pB (decide (x13.1 = value)))], [(0, rL (some 1) enc_api_Entry hits), (1, some (.p (some 1) [enc_api_Entry x12]))], 2⟩) (.cons hg14 (.cons hg14 (.cons hg14 (.cons hg14 .nil)))) (.of_eq (by simp only [hg14, bs, reduceIte]))
     ·exact rg [hE, hE, hS, hS, hS, hN (.pk false)] (⟨[(1, pS name), (2, pS value), (3, pS want), (9, oL 0 enc_api_Entry hits), (11, .optr 1 0 0), (14, pL (some 1) enc_api_Entry l), (15, pI (List.length l : Int)), (16, pI v8), (32, pB false)], [(0, rL (some 1) enc_api_Entry hits), (1, some (.p (some 1) [enc_api_Entry x12]))], 2⟩) (.cons hg14 (.cons hg14 (.cons hg14 (.cons hg14 .nil)))) (.of_eq (by simp only [hg14, bs, reduceIte]))
    ·refine x_cond _ rfl (fun hc16 => ?_) (fun hc16 => ?_)
     ·replace h := ite_t h hc16
      obtain ⟨x17, hx17, h⟩ := bind_some h
      refine x_rgt (rg0 (obs := [(List.take (List.map enc_api_Entry hits).length (List.map enc_api_Entry hits) ++ List.take 1 (List.drop 0 ([enc_api_Entry x12] : List PV)) = (List.map enc_api_Entry x17)), (List.length (List.map enc_api_Entry x17) * 24 ≤ 140737488355328), (List.length (List.map enc_api_Entry x17) ≤ 9223372036854775807), ((List.map enc_api_Entry hits).length ≤ List.length (List.map enc_api_Entry hits)), (0 + 1 ≤ List.length ([enc_api_Entry x12] : List PV))]) [hE, hE, hE, hN (.app (List.map enc_api_Entry x17)), hE] (⟨[(1, pS name), (2, pS value), (3, pS want), (9, oL 0 enc_api_Entry x17), (14, pL (some 1) enc_api_Entry l), (15, pI (List.length l : Int)), (16, pI v8)], [(0, rL (some 1) enc_api_Entry x17)], 1⟩) (.cons (app_ob hx17 (.all _) (.rfl _)) (.cons (by rw [List.length_map]; exact (appL_ok hx17).2.1) (.cons (by rw [List.length_map]; exact (appL_ok hx17).2.2) (.cons (Nat.le_refl _) (.cons (by simp) .nil)))))) ?_
      refine x_bn ?_
      refine x_tn ?_
      refine x_rgt (rgn [hE, hE] (⟨[(1, pS name), (2, pS value), (3, pS want), (9, oL 0 enc_api_Entry x17), (14, pL (some 1) enc_api_Entry l), (15, pI (List.length l : Int)), (16, pI (IntKind.wrap .i64 (v8 + 1)))], [(0, rL (some 1) enc_api_Entry x17)], 1⟩)) ?_
      refine x_tn ?_
      exact ⟨_, (Option.some.inj h).symm, by kernel_rfl⟩
     ·replace h := ite_f h hc16
      refine kw0 (⟨[(1, pS name), (2, pS value), (3, pS want), (9, oL 0 enc_api_Entry hits), (14, pL (some 1) enc_api_Entry l), (15, pI (List.length l : Int)), (16, pI v8)], [(0, rL (some 1) enc_api_Entry hits)], 1⟩) ?_
      refine x_skip ?_
      refine x_bn ?_
      refine x_tn ?_
      refine x_rgt (rgn [hE, hE] (⟨[(1, pS name), (2, pS value), (3, pS want), (9, oL 0 enc_api_Entry hits), (14, pL (some 1) enc_api_Entry l), (15, pI (List.length l : Int)), (16, pI (IntKind.wrap .i64 (v8 + 1)))], [(0, rL (some 1) enc_api_Entry hits)], 1⟩)) ?_
      refine x_tn ?_
      exact ⟨_, (Option.some.inj h).symm, by kernel_rfl⟩
   ·replace h := ite_f h hc11
    refine kw0 (⟨[(3, pS want), (9, oL 0 enc_api_Entry hits)], [(0, rL (some 1) enc_api_Entry hits)], 1⟩) ?_
    refine x_exit ?_
    refine x_te ?_
    refine x_te ?_
    replace h := done_map h hx10
    unfold dial_Query_A19 at h
    refine x_bh ?_
    refine x_tn ?_
    obtain ⟨x18, hx18, h⟩ := bind_some h
    refine x_rg (rg0 (obs := [(LesA [.sl (some 1) (List.take (List.map enc_api_Entry hits).length (List.drop 0 (List.map enc_api_Entry hits))), .str want] [.sl (some 1) (List.map enc_api_Entry hits), .str want]), (CallOK Tryd.prog 43 [.sl (some 1) (List.map enc_api_Entry hits), .str want] (.usl none (List.map PV.str x18)) true), (0 + (List.map enc_api_Entry hits).length ≤ List.length (List.map enc_api_Entry hits))]) [hE, hE, hN (.call [] [.sl (some 1) (List.map enc_api_Entry hits), .str want] (.usl none (List.map PV.str x18)) true), hE] (⟨[(8, oL 0 PV.str x18)], [(0, rL none PV.str x18)], 1⟩) (.cons (.cons (.of_eq (by rw [List.drop_zero, List.take_length])) (.cons (.refl _) .nil)) (.cons (c43 hx18) (.cons (by simp) .nil)))) ?_
    refine x_toret ?_
    obtain rfl := Option.some.inj h
    exact x_ret (.usl none (List.take (List.map PV.str x18).length (List.map PV.str x18))) [0] [(List.map PV.str x18).length ≤ List.length (List.map PV.str x18)] (by kernel_rfl) (.cons (Nat.le_refl _) .nil) (by decide) (.of_eq (by rw [List.take_length])) (fun _ => (usl_ns (sh := none) (fun _ => rfl)))

theorem c76 {s_ : Str} {r : Bool} (h : dial_hosts_1 s_ = some r) : CallOK Tryd.prog 76 [.str s_] (.bool r) true := by
  apply ok76
  unfold dial_hosts_1 at h
  refine x_rg (rgn [hE] (⟨[(0, pS s_)], [], 0⟩)) ?_
  obtain ⟨x1, hx1, h⟩ := bind_some h
  refine x_rg (rg0 [hE, hN (.cal [] (.bool x1) true), hE, hE] (⟨[(2, pB (!x1))], [], 0⟩) (.cons (c65 hx1) .nil)) ?_
  refine x_toret ?_
  obtain rfl := Option.some.inj h
  exact ret0 (.bool (!x1)) (.refl _) (fun _ => rfl)

theorem c102_f76 {s_ : (List Str)} {r : Int} (h : slices_IndexFunc_string_string_f76 s_ = some r) : CallOK Tryd.prog 102 [.sl none (List.map PV.str s_), .fn 76 []] (.int .i64 r) true := by
  apply ok102
  unfold slices_IndexFunc_string_string_f76 at h
  refine x_rg (rgn [hE] (⟨[(0, pL none PV.str s_), (1, .pv (.fn 76 []))], [], 0⟩)) ?_
  refine x_seq ?_
  refine x_rg (rg0 [hE, hN (.len (List.length s_ : Int)), hE] (⟨[(0, pL none PV.str s_), (1, .pv (.fn 76 [])), (7, pI (List.length s_ : Int)), (8, pI 0)], [], 0⟩) (.cons (lenM PV.str s_) .nil)) ?_
  refine x_block ?_
  refine kw0 (⟨[(0, pL none PV.str s_), (1, .pv (.fn 76 [])), (7, pI (List.length s_ : Int)), (8, pI 0)], [], 0⟩) ?_
  refine x_loop (σ := Int) h (fun s => ⟨[(0, pL none PV.str s_), (1, .pv (.fn 76 [])), (7, pI (List.length s_ : Int)), (8, pI s)], [], 0⟩) (by kernel_rfl) ?_ ?_
  ·rintro v5
   kernel_rfl
  ·rintro v5 x6 h hx6
   replace h : slices_IndexFunc_string_string_f76_L6 s_ v5 = some x6 := h
   unfold slices_IndexFunc_string_string_f76_L6 at h
   refine x_rg (rgn [hE] (⟨[(0, pL none PV.str s_), (1, .pv (.fn 76 [])), (7, pI (List.length s_ : Int)), (8, pI v5), (9, pB (decide (v5 < (List.length s_ : Int))))], [], 0⟩)) ?_
   refine x_seq ?_
   refine x_cond _ rfl (fun hc7 => ?_) (fun hc7 => ?_)
   ·replace h := ite_t h hc7
    refine kw0 (⟨[(0, pL none PV.str s_), (1, .pv (.fn 76 [])), (7, pI (List.length s_ : Int)), (8, pI v5)], [], 0⟩) ?_
    refine x_skip ?_
    refine x_tn ?_
    refine x_seq ?_
    refine x_block ?_
    refine x_rg (rgn [hE, hE] (⟨[(0, pL none PV.str s_), (1, .pv (.fn 76 [])), (5, pI v5), (7, pI (List.length s_ : Int)), (8, pI v5)], [], 0⟩)) ?_
    obtain ⟨x8, hx8, h⟩ := bind_some h
    obtain ⟨x9, hx9, h⟩ := bind_some h
    refine x_rg (rg0 [hE, hE, hE, hN (.pAt (.str x8)), hE, hN (.cal [] (.bool x9) true)] (⟨[(0, pL none PV.str s_), (1, .pv (.fn 76 [])), (5, pI v5), (7, pI (List.length s_ : Int)), (8, pI v5), (16, pB x9)], [], 0⟩) (.cons (lsAt_map (f := PV.str) hx8) (.cons (c76 hx9) .nil))) ?_
    refine x_cond _ rfl (fun hc10 => ?_) (fun hc10 => ?_)
    ·replace h := ite_t h hc10
     refine x_rg (rgn [hE, hE] (⟨[(4, pI v5)], [], 0⟩)) ?_
     refine x_toret ?_
     refine x_br ?_
     refine x_tr ?_
     refine x_tr ?_
     replace h := done_leaf h hx6
     refine x_br ?_
     refine x_tr ?_
     obtain rfl := Option.some.inj h
     exact ret0 (.int .i64 v5) (.refl _) (fun _ => rfl)
    ·replace h := ite_f h hc10
     refine kw0 (⟨[(0, pL none PV.str s_), (1, .pv (.fn 76 [])), (7, pI (List.length s_ : Int)), (8, pI v5)], [], 0⟩) ?_
     refine x_skip ?_
     refine x_bn ?_
     refine x_tn ?_
     refine x_rgt (rgn [hE, hE] (⟨[(0, pL none PV.str s_), (1, .pv (.fn 76 [])), (7, pI (List.length s_ : Int)), (8, pI (IntKind.wrap .i64 (v5 + 1)))], [], 0⟩)) ?_
     refine x_tn ?_
     exact ⟨_, (Option.some.inj h).symm, by kernel_rfl⟩
   ·replace h := ite_f h hc7
    refine kw0 (⟨[], [], 0⟩) ?_
    refine x_exit ?_
    refine x_te ?_
    refine x_te ?_
    replace h := done_leaf h hx6
    refine x_bh ?_
    refine x_tn ?_
    refine x_rg (rgn [hE] (⟨[(4, pI (-1))], [], 0⟩)) ?_
    refine x_toret ?_
    obtain rfl := Option.some.inj h
    exact ret0 (.int .i64 (-1)) (.refl _) (fun _ => rfl)

theorem c75_o_f76 {s_ : (List Str)} {r : (List Str)} (h : slices_DeleteFunc_string_string_o_f76 s_ = some r) : CallOK Tryd.prog 75 [.usl none (List.map PV.str s_), .fn 76 []] (.usl none (List.map PV.str r)) true := by
  apply ok75
  unfold slices_DeleteFunc_string_string_o_f76 at h
  refine x_rg (rgn [hE] (⟨[(0, oL 0 PV.str s_), (1, .pv (.fn 76 []))], [(0, rL none PV.str s_)], 1⟩)) ?_
  obtain ⟨x1, hx1, h⟩ := bind_some h
  refine x_rg (rg0 (obs := [(LesA [.sl none (List.take (List.map PV.str s_).length (List.drop 0 (List.map PV.str s_))), .fn 76 []] [.sl none (List.map PV.str s_), .fn 76 []]), (CallOK Tryd.prog 102 [.sl none (List.map PV.str s_), .fn 76 []] (.int .i64 x1) true), (0 + (List.map PV.str s_).length ≤ List.length (List.map PV.str s_))]) [hE, hE, hN (.call [] [.sl none (List.map PV.str s_), .fn 76 []] (.int .i64 x1) true), hE] (⟨[(0, oL 0 PV.str s_), (1, .pv (.fn 76 [])), (5, pI x1)], [(0, rL none PV.str s_)], 1⟩) (.cons (.cons (.of_eq (by rw [List.drop_zero, List.take_length])) (.cons (.refl _) .nil)) (.cons (c102_f76 hx1) (.cons (by simp) .nil)))) ?_
  refine x_seq ?_
  refine x_rg (rgn [hE, hE] (⟨[(0, oL 0 PV.str s_), (1, .pv (.fn 76 [])), (5, pI x1), (12, pB (decide (x1 = (-1))))], [(0, rL none PV.str s_)], 1⟩)) ?_
  refine x_cond _ rfl (fun hc2 => ?_) (fun hc2 => ?_)
  ·replace h := ite_t h hc2
   refine x_rg (rgn [hE, hE] (⟨[(4, oL 0 PV.str s_)], [(0, rL none PV.str s_)], 1⟩)) ?_
   refine x_toret ?_
   refine x_tr ?_
   obtain rfl := Option.some.inj h
   exact x_ret (.usl none (List.take (List.map PV.str s_).length (List.map PV.str s_))) [0] [(List.map PV.str s_).length ≤ List.length (List.map PV.str s_)] (by kernel_rfl) (.cons (Nat.le_refl _) .nil) (by decide) (.of_eq (by rw [List.take_length])) (fun _ => (usl_ns (sh := none) (fun _ => rfl)))
  ·replace h := ite_f h hc2
   refine kw0 (⟨[(0, oL 0 PV.str s_), (1, .pv (.fn 76 [])), (5, pI x1)], [(0, rL none PV.str s_)], 1⟩) ?_
   refine x_skip ?_
   refine x_tn ?_
   refine x_seq ?_
   refine x_rg (rgn [hE, hE, hE] (⟨[(0, oL 0 PV.str s_), (1, .pv (.fn 76 [])), (5, pI x1), (6, pI (IntKind.wrap .i64 (x1 + 1)))], [(0, rL none PV.str s_)], 1⟩)) ?_
   refine x_block ?_
   refine kw0 (⟨[(0, oL 0 PV.str s_), (1, .pv (.fn 76 [])), (5, pI x1), (6, pI (IntKind.wrap .i64 (x1 + 1)))], [(0, rL none PV.str s_)], 1⟩) ?_
   refine x_loop (σ := (Int × Int × (List Str))) h (fun s => ⟨[(0, oL 0 PV.str s.2.2), (1, .pv (.fn 76 [])), (5, pI s.1), (6, pI s.2.1)], [(0, rL none PV.str s.2.2)], 1⟩) (by kernel_rfl) ?_ ?_
   ·rintro ⟨i, j, s__1⟩
    kernel_rfl
   ·rintro ⟨i, j, s__1⟩ x11 h hx11
    replace h : slices_DeleteFunc_string_string_o_f76_L11 i j s__1 = some x11 := h
    unfold slices_DeleteFunc_string_string_o_f76_L11 at h
    refine x_seq ?_
    refine x_rg (rg0 (obs := [((((List.map PV.str s__1).length : Nat) : Int) = (List.length s__1 : Int))]) [hE, hE, hN (.len (List.length s__1 : Int)), hE] (⟨[(0, oL 0 PV.str s__1), (1, .pv (.fn 76 [])), (5, pI i), (6, pI j), (19, pB (decide (j < (List.length s__1 : Int))))], [(0, rL none PV.str s__1)], 1⟩) (.cons (by rw [List.length_map]) .nil)) ?_
    refine x_cond _ rfl (fun hc12 => ?_) (fun hc12 => ?_)
    ·replace h := ite_t h hc12
     refine kw0 (⟨[(0, oL 0 PV.str s__1), (1, .pv (.fn 76 [])), (5, pI i), (6, pI j)], [(0, rL none PV.str s__1)], 1⟩) ?_
     refine x_skip ?_
     refine x_tn ?_
     refine x_seq ?_
     refine x_block ?_
     obtain ⟨x13, hx13, h⟩ := bind_some h
     refine x_rg (rg0 (obs := [(0 ≤ (j : Int) ∧ Int.toNat j < (List.map PV.str s__1).length), ((List.map PV.str s__1)[(0 + Int.toNat j)]? = some (.str x13))]) [hE, hE, hN .rAt, hN (.ld (.str x13)), hE] (⟨[(0, oL 0 PV.str s__1), (1, .pv (.fn 76 [])), (5, pI i), (6, pI j), (7, pS x13)], [(0, rL none PV.str s__1)], 1⟩) (.cons (rAt_ob hx13 (by simp)) (.cons (ownAt hx13) .nil))) ?_
     obtain ⟨x14, hx14, h⟩ := bind_some h
     refine x_rg (rg0 [hE, hE, hN (.cal [] (.bool x14) true), hE] (⟨[(0, oL 0 PV.str s__1), (1, .pv (.fn 76 [])), (5, pI i), (6, pI j), (7, pS x13), (29, pB (!x14))], [(0, rL none PV.str s__1)], 1⟩) (.cons (c76 hx14) .nil)) ?_
     refine x_cond _ rfl (fun hc15 => ?_) (fun hc15 => ?_)
     ·replace h := ite_t h hc15
      obtain ⟨x16, hx16, h⟩ := bind_some h
      refine x_rg (st2 := { tm := [(0, .osl 0 0 (List.map PV.str (List.set s__1 (Int.toNat i) x13)).length), (1, .pv (.fn 76 [])), (5, .pv (.int .i64 i)), (6, .pv (.int .i64 j))], hp := [(0, some (.p none (List.map PV.str (List.set s__1 (Int.toNat i) x13))))], nx := 1 }) (rg (obs := [(0 ≤ (i : Int) ∧ Int.toNat i < (List.map PV.str s__1).length), ((List.map PV.str s__1)[(0 + Int.toNat i)]? = some (.str x16)), (List.set (List.map PV.str s__1) (0 + Int.toNat i) (.str x13) = (List.map PV.str (List.set s__1 (Int.toNat i) x13)))]) [hE, hE, hE, hN .rAt, hN (.set (.str x16) (List.map PV.str (List.set s__1 (Int.toNat i) x13)))] ({ tm := [(0, .osl 0 0 (List.map PV.str s__1).length), (1, .pv (.fn 76 [])), (5, .pv (.int .i64 i)), (6, .pv (.int .i64 j))], hp := [(0, some (.p none (List.map PV.str (List.set s__1 (Int.toNat i) x13))))], nx := 1 }) (.cons (rAt_ob hx16 (by simp)) (.cons (ownAt hx16) (.cons (by rw [Nat.zero_add, List.map_set]; try rfl) .nil))) (Sub.of_eq (by simp only [List.length_map, List.length_set]))) ?_
      refine x_rgt (rgn [hE, hE, hE] (⟨[(0, oL 0 PV.str (List.set s__1 (Int.toNat i) x13)), (1, .pv (.fn 76 [])), (5, pI (IntKind.wrap .i64 (i + 1))), (6, pI j)], [(0, rL none PV.str (List.set s__1 (Int.toNat i) x13))], 1⟩)) ?_
      refine x_bn ?_
      refine x_tn ?_
      refine x_rgt (rgn [hE, hE, hE] (⟨[(0, oL 0 PV.str (List.set s__1 (Int.toNat i) x13)), (1, .pv (.fn 76 [])), (5, pI (IntKind.wrap .i64 (i + 1))), (6, pI (IntKind.wrap .i64 (j + 1)))], [(0, rL none PV.str (List.set s__1 (Int.toNat i) x13))], 1⟩)) ?_
      refine x_tn ?_
      exact ⟨_, (Option.some.inj h).symm, by kernel_rfl⟩
     ·replace h := ite_f h hc15
      refine kw0 (⟨[(0, oL 0 PV.str s__1), (1, .pv (.fn 76 [])), (5, pI i), (6, pI j)], [(0, rL none PV.str s__1)], 1⟩) ?_
      refine x_skip ?_
      refine x_bn ?_
      refine x_tn ?_
      refine x_rgt (rgn [hE, hE, hE] (⟨[(0, oL 0 PV.str s__1), (1, .pv (.fn 76 [])), (5, pI i), (6, pI (IntKind.wrap .i64 (j + 1)))], [(0, rL none PV.str s__1)], 1⟩)) ?_
      refine x_tn ?_
      exact ⟨_, (Option.some.inj h).symm, by kernel_rfl⟩
    ·replace h := ite_f h hc12
     refine kw0 (⟨[(0, oL 0 PV.str s__1), (5, pI i)], [(0, rL none PV.str s__1)], 1⟩) ?_
     refine x_exit ?_
     refine x_te ?_
     refine x_te ?_
     replace h := done_map h hx11
     unfold slices_DeleteFunc_string_string_o_f76_A18 at h
     refine x_bh ?_
     refine x_tn ?_
     obtain ⟨x17, hx17, h⟩ := bind_some h
     refine x_rg (st2 := { tm := [(0, .osl 0 0 (List.map PV.str s__1).length), (5, .pv (.int .i64 i))], hp := [(0, some (.p none (List.map PV.str x17)))], nx := 1 }) (rg (obs := [(0 ≤ i ∧ i ≤ (((List.map PV.str s__1).length : Nat) : Int) ∧ (((List.map PV.str s__1).length : Nat) : Int) ≤ (((List.map PV.str s__1).length : Nat) : Int)), ((0 + Int.toNat i) ≤ List.length (List.map PV.str s__1))]) [hE, hE, hN .cutR, hN .clr] ({ tm := [(0, .osl 0 0 (List.map PV.str s__1).length), (5, .pv (.int .i64 i))], hp := [(0, some (.p none (List.take (0 + Int.toNat i) (List.map PV.str s__1))))], nx := 1 }) (.cons (cutB_ob hx17 (by simp)) (.cons (clr_ob hx17) .nil)) (Sub.of_eq (show ({ tm := [(0, .osl 0 0 (List.map PV.str s__1).length), (5, .pv (.int .i64 i))], hp := [(0, some (.p none (List.map PV.str x17)))], nx := 1 } : VSt) = { tm := [(0, .osl 0 0 (List.map PV.str s__1).length), (5, .pv (.int .i64 i))], hp := [(0, some (.p none (List.take (0 + Int.toNat i) (List.map PV.str s__1))))], nx := 1 } from by rw [clr_row hx17]))) ?_
     refine x_rg (st2 := { tm := [(4, .osl 0 0 (List.map PV.str x17).length)], hp := [(0, some (.p none (List.map PV.str x17)))], nx := 1 }) (rg (obs := [(0 ≤ (0 : Int) ∧ (0 : Int) ≤ i ∧ i ≤ (((List.map PV.str s__1).length : Nat) : Int))]) [hE, hE, hN .cutR, hE] ({ tm := [(4, .osl 0 (0 + Int.toNat 0) (Int.toNat i - Int.toNat 0))], hp := [(0, some (.p none (List.map PV.str x17)))], nx := 1 }) (.cons (cutR_ob hx17 (by simp)) .nil) (Sub.of_eq (show ({ tm := [(4, .osl 0 0 (List.map PV.str x17).length)], hp := [(0, some (.p none (List.map PV.str x17)))], nx := 1 } : VSt) = { tm := [(4, .osl 0 (0 + Int.toNat 0) (Int.toNat i - Int.toNat 0))], hp := [(0, some (.p none (List.map PV.str x17)))], nx := 1 } from by rw [clr_len hx17]; try rfl))) ?_
     refine x_toret ?_
     obtain rfl := Option.some.inj h
     exact x_ret (.usl none (List.take (List.map PV.str x17).length (List.map PV.str x17))) [0] [(List.map PV.str x17).length ≤ List.length (List.map PV.str x17)] (by kernel_rfl) (.cons (Nat.le_refl _) .nil) (by decide) (.of_eq (by rw [List.take_length])) (fun _ => (usl_ns (sh := none) (fun _ => rfl)))

theorem c47 {l : (List api_Entry)} {host : Str} {name : Str} {r : (List Str)} (h : dial_hosts l host name = some r) : CallOK Tryd.prog 47 [.sl (some 1) (List.map enc_api_Entry l), .str host, .str name] (.usl none (List.map PV.str r)) true := by
  apply ok47
  unfold dial_hosts at h
  refine x_rg (rgn [hE] (⟨[(0, pL (some 1) enc_api_Entry l), (1, pS host), (2, pS name)], [], 0⟩)) ?_
  refine x_seq ?_
  refine x_block ?_
  refine x_rg (rgn [hE, hE, hE] (⟨[(0, pL (some 1) enc_api_Entry l), (1, pS host), (2, pS name), (7, pB (decide (name = [42])))], [], 0⟩)) ?_
  refine x_cond _ rfl (fun hc1 => ?_) (fun hc1 => ?_)
  ·replace h := ite_t h hc1
   refine x_rg (rgn [hE, hE, hE] (⟨[(6, .osl 0 0 1)], [(0, some (.p none [.str name]))], 1⟩)) ?_
   refine x_toret ?_
   refine x_br ?_
   refine x_tr ?_
   obtain rfl := Option.some.inj h
   exact x_ret (.usl none (List.take 1 ([.str name] : List PV))) [0] [1 ≤ List.length ([.str name] : List PV)] (by kernel_rfl) (.cons (Nat.le_refl _) .nil) (by decide) (.refl _) (fun _ => (usl_ns (sh := none) (fun _ => rfl)))
  ·replace h := ite_f h hc1
   obtain ⟨t4, ht, h⟩ := bind_some h
   refine x_rg (st2 := ⟨[(0, pL (some 1) enc_api_Entry l), (1, pS host), (2, pS name), (12, pB t4)], [], 0⟩) ?_ ?_
   ·rcases Bool.eq_false_or_eq_true (decide (name = [115, 101, 108, 102])) with hg2 | hg2
    ·replace ht := ite_t ht hg2
     obtain ⟨x3, hx3, ht⟩ := bind_some ht
     have e := Option.some.inj ht
     subst e
     exact rg0 [hE, hE, hE, hY, (.y, (.cal [] (.bool x3) true)), hN (.pk true), hE] (⟨[(0, pL (some 1) enc_api_Entry l), (1, pS host), (2, pS name), (12, pB x3)], [], 0⟩) (.cons hg2 (.cons hg2 (.cons (c65 hx3) (.cons hg2 .nil))))
    ·replace ht := ite_f ht hg2
     have e := Option.some.inj ht
     subst e
     exact rg0 [hE, hE, hE, hS, hS, hN (.pk false), hE] (⟨[(0, pL (some 1) enc_api_Entry l), (1, pS host), (2, pS name), (12, pB false)], [], 0⟩) (.cons hg2 (.cons hg2 (.cons hg2 .nil)))
   ·clear ht
    refine x_cond _ rfl (fun hc5 => ?_) (fun hc5 => ?_)
    ·replace h := ite_t h hc5
     refine x_rg (rgn [hE, hE, hE] (⟨[(6, .osl 0 0 1)], [(0, some (.p none [.str host]))], 1⟩)) ?_
     refine x_toret ?_
     refine x_br ?_
     refine x_tr ?_
     obtain rfl := Option.some.inj h
     exact x_ret (.usl none (List.take 1 ([.str host] : List PV))) [0] [1 ≤ List.length ([.str host] : List PV)] (by kernel_rfl) (.cons (Nat.le_refl _) .nil) (by decide) (.refl _) (fun _ => (usl_ns (sh := none) (fun _ => rfl)))
    ·replace h := ite_f h hc5
     refine x_rg (rgn [hE, hE, hE] (⟨[(0, pL (some 1) enc_api_Entry l), (2, pS name), (21, pB (decide (name = [115, 101, 108, 102])))], [], 0⟩)) ?_
     refine x_cond _ rfl (fun hc6 => ?_) (fun hc6 => ?_)
     ·replace h := ite_t h hc6
      refine x_rg (rgn [hE] (⟨[(6, .pv (.nilsl))], [], 0⟩)) ?_
      refine x_toret ?_
      refine x_br ?_
      refine x_tr ?_
      obtain rfl := Option.some.inj h
      exact ret0 (.nilsl) (.nilUsl _) (fun _ => (usl_ns (sh := none) (fun _ => rfl)))
     ·replace h := ite_f h hc6
      obtain ⟨x7, hx7, h⟩ := bind_some h
      obtain ⟨x8, hx8, h⟩ := bind_some h
      refine x_rg (rg0 (obs := [(CallOK Tryd.prog 43 [.sl (some 1) (List.map enc_api_Entry l), .str [104, 111, 115, 116]] (.usl none (List.map PV.str x7)) true), (LesA [.sl none (List.take (List.map PV.str x7).length (List.drop 0 (List.map PV.str x7))), .str name] [.sl none (List.map PV.str x7), .str name]), (CallOK Tryd.prog 74 [.sl none (List.map PV.str x7), .str name] (.bool x8) true), (0 + (List.map PV.str x7).length ≤ List.length (List.map PV.str x7))]) [hE, hN (.cal [] (.usl none (List.map PV.str x7)) true), hE, hN (.call [] [.sl none (List.map PV.str x7), .str name] (.bool x8) true), hE] (⟨[(0, pL (some 1) enc_api_Entry l), (2, pS name), (24, pB x8)], [], 0⟩) (.cons (c43 hx7) (.cons (.cons (.of_eq (by rw [List.drop_zero, List.take_length])) (.cons (.refl _) .nil)) (.cons (c74 hx8) (.cons (by simp) .nil))))) ?_
      refine x_cond _ rfl (fun hc9 => ?_) (fun hc9 => ?_)
      ·replace h := ite_t h hc9
       refine x_rg (rgn [hE, hE, hE] (⟨[(6, .osl 0 0 1)], [(0, some (.p none [.str name]))], 1⟩)) ?_
       refine x_toret ?_
       refine x_br ?_
       refine x_tr ?_
       obtain rfl := Option.some.inj h
       exact x_ret (.usl none (List.take 1 ([.str name] : List PV))) [0] [1 ≤ List.length ([.str name] : List PV)] (by kernel_rfl) (.cons (Nat.le_refl _) .nil) (by decide) (.refl _) (fun _ => (usl_ns (sh := none) (fun _ => rfl)))
      ·replace h := ite_f h hc9
       refine kw0 (⟨[(0, pL (some 1) enc_api_Entry l), (2, pS name)], [], 0⟩) ?_
       refine x_skip ?_
       refine x_bn ?_
       refine x_tn ?_
       obtain ⟨x10, hx10, h⟩ := bind_some h
       obtain ⟨x11, hx11, h⟩ := bind_some h
       refine x_rg (rg0 (obs := [(CallOK Tryd.prog 20 [.sl (some 1) (List.map enc_api_Entry l), .str [97, 108, 105, 97, 115], .str name, .str [104, 111, 115, 116]] (.usl none (List.map PV.str x10)) true), (LesA [.usl none (List.take (List.map PV.str x10).length (List.map PV.str x10)), .fn 76 []] [.usl none (List.map PV.str x10), .fn 76 []]), (CallOK Tryd.prog 75 [.usl none (List.map PV.str x10), .fn 76 []] (.usl none (List.map PV.str x11)) true), ((List.map PV.str x10).length ≤ List.length (List.map PV.str x10))]) [hE, hE, hN (.cal [] (.usl none (List.map PV.str x10)) true), hN (.call [8] [.usl none (List.map PV.str x10), .fn 76 []] (.usl none (List.map PV.str x11)) true), hE] (⟨[(6, oL 0 PV.str x11)], [(0, rL none PV.str x11)], 1⟩) (.cons (c20 hx10) (.cons (.cons (.of_eq (by rw [List.take_length])) (.cons (.refl _) .nil)) (.cons (c75_o_f76 hx11) (.cons (Nat.le_refl _) .nil))))) ?_
       refine x_toret ?_
       obtain rfl := Option.some.inj h
       exact x_ret (.usl none (List.take (List.map PV.str x11).length (List.map PV.str x11))) [0] [(List.map PV.str x11).length ≤ List.length (List.map PV.str x11)] (by kernel_rfl) (.cons (Nat.le_refl _) .nil) (by decide) (.of_eq (by rw [List.take_length])) (fun _ => (usl_ns (sh := none) (fun _ => rfl)))

theorem c120 {base : Int} {r : Bool} (h : num_known base = some r) : CallOK Tryd.prog 120 [.int .i64 base] (.bool r) true := by
  apply ok120
  unfold num_known at h
  refine x_rg (rgn [hE] (⟨[(0, pI base)], [], 0⟩)) ?_
  refine x_rg (st2 := ⟨[(2, pB ((decide (base = 8)) || ((decide (base = 10)) || (decide (base = 16)))))], [], 0⟩) ?_ ?_
  ·rcases Bool.eq_false_or_eq_true (decide (base = 8)) with hg1 | hg1
   ·exact rg [hE, hE, hE, hS, hS, hN (.pk true), hE, hS, hS, hE, hE] (⟨[(2, pB true)], [], 0⟩) (.cons hg1 (.cons hg1 (.cons hg1 (.cons tt (.cons tt .nil))))) (.of_eq (by simp only [hg1, bs, reduceIte]))
   ·rcases Bool.eq_false_or_eq_true (decide (base = 10)) with hg2 | hg2
    ·exact rg [hE, hE, hE, hY, hY, hN (.pk false), hE, hS, hS, hN (.pk true), hE] (⟨[(2, pB true)], [], 0⟩) (.cons hg1 (.cons hg1 (.cons hg1 (.cons hg2 (.cons hg2 (.cons hg2 .nil)))))) (.of_eq (by simp only [hg1, hg2, bs, reduceIte]))
    ·exact rg [hE, hE, hE, hY, hY, hN (.pk false), hE, hY, hY, hN (.pk false), hE] (⟨[(2, pB (decide (base = 16)))], [], 0⟩) (.cons hg1 (.cons hg1 (.cons hg1 (.cons hg2 (.cons hg2 (.cons hg2 .nil)))))) (.of_eq (by simp only [hg1, hg2, bs, reduceIte]))
  ·refine x_toret ?_
   obtain rfl := Option.some.inj h
   exact ret0 (.bool ((decide (base = 8)) || ((decide (base = 10)) || (decide (base = 16))))) (.refl _) (fun _ => rfl)

theorem c121 {c : Int} {r : Int} (h : num_digit c = some r) : CallOK Tryd.prog 121 [.int .u8 c] (.int .i64 r) true := by
  apply ok121
  unfold num_digit at h
  refine x_rg (rgn [hE] (⟨[(0, .pv (.int .u8 c))], [], 0⟩)) ?_
  refine x_seq ?_
  refine x_block ?_
  refine x_rg (st2 := ⟨[(0, .pv (.int .u8 c)), (3, pB ((decide (48 ≤ c)) && (decide (c ≤ 57))))], [], 0⟩) ?_ ?_
  ·rcases Bool.eq_false_or_eq_true (decide (48 ≤ c)) with hg1 | hg1
   ·exact rg [hE, hE, hE, hY, hY, hN (.pk true), hE] (⟨[(0, .pv (.int .u8 c)), (3, pB (decide (c ≤ 57)))], [], 0⟩) (.cons hg1 (.cons hg1 (.cons hg1 .nil))) (.of_eq (by simp only [hg1, bs, reduceIte]))
   ·exact rg [hE, hE, hE, hS, hS, hN (.pk false), hE] (⟨[(0, .pv (.int .u8 c)), (3, pB false)], [], 0⟩) (.cons hg1 (.cons hg1 (.cons hg1 .nil))) (.of_eq (by simp only [hg1, bs, reduceIte]))
  ·refine x_cond _ rfl (fun hc3 => ?_) (fun hc3 => ?_)
   ·replace h := ite_t h hc3
    refine x_rg (rgn [hE, hE, hE, hE] (⟨[(2, pI (IntKind.wrap .i64 (IntKind.wrap .u8 (c - 48))))], [], 0⟩)) ?_
    refine x_toret ?_
    refine x_br ?_
    refine x_tr ?_
    obtain rfl := Option.some.inj h
    exact ret0 (.int .i64 (IntKind.wrap .i64 (IntKind.wrap .u8 (c - 48)))) (.refl _) (fun _ => rfl)
   ·replace h := ite_f h hc3
    refine x_rg (st2 := ⟨[(0, .pv (.int .u8 c)), (13, pB ((decide (97 ≤ c)) && (decide (c ≤ 102))))], [], 0⟩) ?_ ?_
    ·rcases Bool.eq_false_or_eq_true (decide (97 ≤ c)) with hg4 | hg4
     ·exact rg [hE, hE, hE, hY, hY, hN (.pk true), hE] (⟨[(0, .pv (.int .u8 c)), (13, pB (decide (c ≤ 102)))], [], 0⟩) (.cons hg4 (.cons hg4 (.cons hg4 .nil))) (.of_eq (by simp only [hg4, bs, reduceIte]))
     ·exact rg [hE, hE, hE, hS, hS, hN (.pk false), hE] (⟨[(0, .pv (.int .u8 c)), (13, pB false)], [], 0⟩) (.cons hg4 (.cons hg4 (.cons hg4 .nil))) (.of_eq (by simp only [hg4, bs, reduceIte]))
    ·refine x_cond _ rfl (fun hc6 => ?_) (fun hc6 => ?_)
     ·replace h := ite_t h hc6
      refine x_rg (rgn [hE, hE, hE, hE, hE] (⟨[(2, pI (IntKind.wrap .i64 ((IntKind.wrap .i64 (IntKind.wrap .u8 (c - 97))) + 10)))], [], 0⟩)) ?_
      refine x_toret ?_
      refine x_br ?_
      refine x_tr ?_
      obtain rfl := Option.some.inj h
      exact ret0 (.int .i64 (IntKind.wrap .i64 ((IntKind.wrap .i64 (IntKind.wrap .u8 (c - 97))) + 10))) (.refl _) (fun _ => rfl)
     ·replace h := ite_f h hc6
      refine kw0 (⟨[], [], 0⟩) ?_
      refine x_skip ?_
      refine x_bn ?_
      refine x_tn ?_
      refine x_rg (rgn [hE] (⟨[(2, pI 16)], [], 0⟩)) ?_
      refine x_toret ?_
      obtain rfl := Option.some.inj h
      exact ret0 (.int .i64 16) (.refl _) (fun _ => rfl)

theorem c103 {s_ : Str} {base : Int} {most : Int} {r : (Int × Int)} (h : num_Parse s_ base most = some r) : CallOK Tryd.prog 103 [.str s_, .int .i64 base, .int .i64 most] (.tup [.int .i64 r.1, .int .i64 r.2]) true := by
  apply ok103
  unfold num_Parse at h
  refine x_rg (rgn [hE, hE] (⟨[(0, pS s_), (1, pI base), (2, pI most)], [], 0⟩)) ?_
  refine x_seq ?_
  obtain ⟨x1, hx1, h⟩ := bind_some h
  refine x_rg (st2 := ⟨[(0, pS s_), (1, pI base), (2, pI most), (17, pB ((!x1) || (decide (most < 0))))], [], 0⟩) ?_ ?_
  ·rcases Bool.eq_false_or_eq_true (!x1) with hg2 | hg2
   ·exact rg [hE, hN (.cal [] (.bool x1) true), hE, hE, hS, hS, hN (.pk true)] (⟨[(0, pS s_), (1, pI base), (2, pI most), (17, pB true)], [], 0⟩) (.cons (c120 hx1) (.cons hg2 (.cons hg2 (.cons hg2 .nil)))) (.of_eq (by simp only [hg2, bs, reduceIte]))
   ·exact rg [hE, hN (.cal [] (.bool x1) true), hE, hE, hY, hY, hN (.pk false)] (⟨[(0, pS s_), (1, pI base), (2, pI most), (17, pB (decide (most < 0)))], [], 0⟩) (.cons (c120 hx1) (.cons hg2 (.cons hg2 (.cons hg2 .nil)))) (.of_eq (by simp only [hg2, bs, reduceIte]))
  ·refine x_cond _ rfl (fun hc4 => ?_) (fun hc4 => ?_)
   ·replace h := ite_t h hc4
    refine x_rg (rgn [hE, hE] (⟨[(6, pI 0), (7, pI 1)], [], 0⟩)) ?_
    refine x_toret ?_
    refine x_tr ?_
    obtain rfl := Option.some.inj h
    exact ret0 (.tup [.int .i64 0, .int .i64 1]) (.tup (.cons (.refl _) (.cons (.refl _) .nil))) (fun _ => rfl)
   ·replace h := ite_f h hc4
    refine kw0 (⟨[(0, pS s_), (1, pI base), (2, pI most)], [], 0⟩) ?_
    refine x_skip ?_
    refine x_tn ?_
    refine x_seq ?_
    obtain ⟨t8, ht, h⟩ := bind_some h
    refine x_rg (st2 := ⟨[(0, pS s_), (1, pI base), (2, pI most), (29, pB t8)], [], 0⟩) ?_ ?_
    ·rcases Bool.eq_false_or_eq_true (decide (s_ = [])) with hg5 | hg5
     ·replace ht := ite_t ht hg5
      have e := Option.some.inj ht
      subst e
      exact rg0 [hE, hE, hE, hS, hS, hS, hS, (.u, .e), (.u, .e), (.u, .e), hS, hN (.pk true)] (⟨[(0, pS s_), (1, pI base), (2, pI most), (29, pB true)], [], 0⟩) (.cons hg5 (.cons hg5 (.cons hg5 (.cons hg5 (.cons hg5 (.cons hg5 .nil))))))
     ·replace ht := ite_f ht hg5
      rcases Bool.eq_false_or_eq_true (decide (1 < (List.length s_ : Int))) with hg6 | hg6
      ·replace ht := ite_t ht hg6
       obtain ⟨c7, hc7, ht⟩ := bind_some ht
       have e := Option.some.inj ht
       subst e
       exact rg0 [hE, hE, hE, hY, hY, hY, hY, hY, (.y, (.sAt c7)), hY, (.y, (.pk true)), hN (.pk false)] (⟨[(0, pS s_), (1, pI base), (2, pI most), (29, pB (decide ((c7.toNat : Int) = 48)))], [], 0⟩) (.cons hg5 (.cons hg5 (.cons hg5 (.cons hg5 (.cons hg6 (.cons hg6 (.cons hc7 (.cons hg6 (.cons hg5 (.cons hg6 (.cons hg5 .nil)))))))))))
      ·replace ht := ite_f ht hg6
       have e := Option.some.inj ht
       subst e
       exact rg0 [hE, hE, hE, hY, hY, hY, hY, hS, hS, hS, (.y, (.pk false)), hN (.pk false)] (⟨[(0, pS s_), (1, pI base), (2, pI most), (29, pB false)], [], 0⟩) (.cons hg5 (.cons hg5 (.cons hg5 (.cons hg5 (.cons hg6 (.cons hg6 (.cons hg6 (.cons hg5 (.cons hg6 (.cons hg5 .nil))))))))))
    ·clear ht
     refine x_cond _ rfl (fun hc9 => ?_) (fun hc9 => ?_)
     ·replace h := ite_t h hc9
      refine x_rg (rgn [hE, hE] (⟨[(6, pI 0), (7, pI 5)], [], 0⟩)) ?_
      refine x_toret ?_
      refine x_tr ?_
      obtain rfl := Option.some.inj h
      exact ret0 (.tup [.int .i64 0, .int .i64 5]) (.tup (.cons (.refl _) (.cons (.refl _) .nil))) (fun _ => rfl)
     ·replace h := ite_f h hc9
      refine kw0 (⟨[(0, pS s_), (1, pI base), (2, pI most)], [], 0⟩) ?_
      refine x_skip ?_
      refine x_tn ?_
      refine x_rg (rgn [hE] (⟨[(0, pS s_), (1, pI base), (2, pI most), (8, pI 0)], [], 0⟩)) ?_
      refine x_seq ?_
      refine x_rg (rgn [hE, hE, hE] (⟨[(0, pS s_), (1, pI base), (2, pI most), (8, pI 0), (31, pI (List.length s_ : Int)), (32, pI 0)], [], 0⟩)) ?_
      refine x_block ?_
      refine kw0 (⟨[(0, pS s_), (1, pI base), (2, pI most), (8, pI 0), (31, pI (List.length s_ : Int)), (32, pI 0)], [], 0⟩) ?_
      refine x_loop (σ := (Int × Int)) h (fun s => ⟨[(0, pS s_), (1, pI base), (2, pI most), (8, pI s.1), (31, pI (List.length s_ : Int)), (32, pI s.2)], [], 0⟩) (by kernel_rfl) ?_ ?_
      ·rintro ⟨n, v19⟩
       kernel_rfl
      ·rintro ⟨n, v19⟩ x20 h hx20
       replace h : num_Parse_L20 s_ base most n v19 = some x20 := h
       unfold num_Parse_L20 at h
       refine x_rg (rgn [hE] (⟨[(0, pS s_), (1, pI base), (2, pI most), (8, pI n), (31, pI (List.length s_ : Int)), (32, pI v19), (33, pB (decide (v19 < (List.length s_ : Int))))], [], 0⟩)) ?_
       refine x_seq ?_
       refine x_cond _ rfl (fun hc21 => ?_) (fun hc21 => ?_)
       ·replace h := ite_t h hc21
        refine kw0 (⟨[(0, pS s_), (1, pI base), (2, pI most), (8, pI n), (31, pI (List.length s_ : Int)), (32, pI v19)], [], 0⟩) ?_
        refine x_skip ?_
        refine x_tn ?_
        refine x_seq ?_
        refine x_block ?_
        refine x_rg (rgn [hE, hE] (⟨[(0, pS s_), (1, pI base), (2, pI most), (8, pI n), (9, pI v19), (31, pI (List.length s_ : Int)), (32, pI v19)], [], 0⟩)) ?_
        obtain ⟨c22, hc22, h⟩ := bind_some h
        obtain ⟨x23, hx23, h⟩ := bind_some h
        refine x_rg (rg0 [hE, hE, hN (.sAt c22), hN (.cal [] (.int .i64 x23) true), hE] (⟨[(0, pS s_), (1, pI base), (2, pI most), (8, pI n), (10, pI x23), (31, pI (List.length s_ : Int)), (32, pI v19)], [], 0⟩) (.cons hc22 (.cons (c121 hx23) .nil))) ?_
        refine x_seq ?_
        obtain ⟨t27, ht, h⟩ := bind_some h
        refine x_rg (st2 := ⟨[(0, pS s_), (1, pI base), (2, pI most), (8, pI n), (10, pI x23), (31, pI (List.length s_ : Int)), (32, pI v19), (55, pB t27)], [], 0⟩) ?_ ?_
        ·rcases Bool.eq_false_or_eq_true (decide (base ≤ x23)) with hg24 | hg24
         ·replace ht := ite_t ht hg24
          have e := Option.some.inj ht
          subst e
          exact rg0 [hE, hE, hE, hE, hS, hS, hS, hS, hS, hS, hS, hN (.pk true), hE, hS, hS, hS, hE] (⟨[(0, pS s_), (1, pI base), (2, pI most), (8, pI n), (10, pI x23), (31, pI (List.length s_ : Int)), (32, pI v19), (55, pB true)], [], 0⟩) (.cons hg24 (.cons hg24 (.cons hg24 (.cons hg24 (.cons hg24 (.cons hg24 (.cons hg24 (.cons hg24 (.cons tt (.cons tt (.cons tt .nil)))))))))))
         ·replace ht := ite_f ht hg24
          obtain ⟨x25, hx25, ht⟩ := bind_some ht
          rcases Bool.eq_false_or_eq_true (decide (x25 < n)) with hg26 | hg26
          ·replace ht := ite_t ht hg26
           have e := Option.some.inj ht
           subst e
           exact rg0 [hE, hE, hE, hE, hY, hY, hY, hY, hY, (.y, (.dv x25)), hY, hN (.pk false), hE, hS, hS, hS, hN (.pk true)] (⟨[(0, pS s_), (1, pI base), (2, pI most), (8, pI n), (10, pI x23), (31, pI (List.length s_ : Int)), (32, pI v19), (55, pB true)], [], 0⟩) (.cons hg24 (.cons hg24 (.cons hg24 (.cons hg24 (.cons hg24 (.cons hg24 (.cons hx25 (.cons hg24 (.cons hg24 (.cons hg26 (.cons hg26 (.cons hg26 (.cons hg26 .nil)))))))))))))
          ·replace ht := ite_f ht hg26
           have e := Option.some.inj ht
           subst e
           exact rg0 [hE, hE, hE, hE, hY, hY, hY, hY, hY, (.y, (.dv x25)), hY, hN (.pk false), hE, hY, hY, hY, hN (.pk false)] (⟨[(0, pS s_), (1, pI base), (2, pI most), (8, pI n), (10, pI x23), (31, pI (List.length s_ : Int)), (32, pI v19), (55, pB (decide (most < x23)))], [], 0⟩) (.cons hg24 (.cons hg24 (.cons hg24 (.cons hg24 (.cons hg24 (.cons hg24 (.cons hx25 (.cons hg24 (.cons hg24 (.cons hg26 (.cons hg26 (.cons hg26 (.cons hg26 .nil)))))))))))))
        ·clear ht
         refine x_cond _ rfl (fun hc28 => ?_) (fun hc28 => ?_)
         ·replace h := ite_t h hc28
          refine x_rg (rgn [hE, hE] (⟨[(6, pI 0), (7, pI 5)], [], 0⟩)) ?_
          refine x_toret ?_
          refine x_tr ?_
          refine x_br ?_
          refine x_tr ?_
          refine x_tr ?_
          replace h := done_leaf h hx20
          refine x_br ?_
          refine x_tr ?_
          obtain rfl := Option.some.inj h
          exact ret0 (.tup [.int .i64 0, .int .i64 5]) (.tup (.cons (.refl _) (.cons (.refl _) .nil))) (fun _ => rfl)
         ·replace h := ite_f h hc28
          refine kw0 (⟨[(0, pS s_), (1, pI base), (2, pI most), (8, pI n), (10, pI x23), (31, pI (List.length s_ : Int)), (32, pI v19)], [], 0⟩) ?_
          refine x_skip ?_
          refine x_tn ?_
          refine x_rgt (rgn [hE, hE, hE, hE, hE, hE] (⟨[(0, pS s_), (1, pI base), (2, pI most), (8, pI (IntKind.wrap .i64 ((IntKind.wrap .i64 (n * base)) + x23))), (31, pI (List.length s_ : Int)), (32, pI v19)], [], 0⟩)) ?_
          refine x_bn ?_
          refine x_tn ?_
          refine x_rgt (rgn [hE, hE] (⟨[(0, pS s_), (1, pI base), (2, pI most), (8, pI (IntKind.wrap .i64 ((IntKind.wrap .i64 (n * base)) + x23))), (31, pI (List.length s_ : Int)), (32, pI (IntKind.wrap .i64 (v19 + 1)))], [], 0⟩)) ?_
          refine x_tn ?_
          exact ⟨_, (Option.some.inj h).symm, by kernel_rfl⟩
       ·replace h := ite_f h hc21
        refine kw0 (⟨[(8, pI n)], [], 0⟩) ?_
        refine x_exit ?_
        refine x_te ?_
        refine x_te ?_
        replace h := done_leaf h hx20
        refine x_bh ?_
        refine x_tn ?_
        refine x_rg (rgn [hE, hE, hE] (⟨[(6, pI n), (7, pI 0)], [], 0⟩)) ?_
        refine x_toret ?_
        obtain rfl := Option.some.inj h
        exact ret0 (.tup [.int .i64 n, .int .i64 0]) (.tup (.cons (.refl _) (.cons (.refl _) .nil))) (fun _ => rfl)

theorem c77 {s_ : Str} {r : Bool} (h : dial_isPort s_ = some r) : CallOK Tryd.prog 77 [.str s_] (.bool r) true := by
  apply ok77
  unfold dial_isPort at h
  refine x_rg (rgn [hE] (⟨[(0, pS s_)], [], 0⟩)) ?_
  obtain ⟨x1, hx1, h⟩ := bind_some h
  refine x_rg (rg0 [hE, hN (.cal [] (.tup [.int .i64 x1.1, .int .i64 x1.2]) true), hE, hE, hE, hE, hE] (⟨[(3, pI x1.1), (4, pI x1.2)], [], 0⟩) (.cons (c103 hx1) .nil)) ?_
  refine x_rg (st2 := ⟨[(2, pB ((decide (x1.2 = 0)) && (decide (0 < x1.1))))], [], 0⟩) ?_ ?_
  ·rcases Bool.eq_false_or_eq_true (decide (x1.2 = 0)) with hg2 | hg2
   ·exact rg [hE, hE, hE, hY, hY, hN (.pk true), hE] (⟨[(2, pB (decide (0 < x1.1)))], [], 0⟩) (.cons hg2 (.cons hg2 (.cons hg2 .nil))) (.of_eq (by simp only [hg2, bs, reduceIte]))
   ·exact rg [hE, hE, hE, hS, hS, hN (.pk false), hE] (⟨[(2, pB false)], [], 0⟩) (.cons hg2 (.cons hg2 (.cons hg2 .nil))) (.of_eq (by simp only [hg2, bs, reduceIte]))
  ·refine x_toret ?_
   obtain rfl := Option.some.inj h
   exact ret0 (.bool ((decide (x1.2 = 0)) && (decide (0 < x1.1)))) (.refl _) (fun _ => rfl)

theorem c48 {l : (List api_Entry)} {network : Str} {service : Str} {r : Str} (h : dial_port l network service = some r) : CallOK Tryd.prog 48 [.sl (some 1) (List.map enc_api_Entry l), .str network, .str service] (.str r) true := by
  apply ok48
  unfold dial_port at h
  refine x_rg (rgn [hE] (⟨[(0, pL (some 1) enc_api_Entry l), (1, pS network), (2, pS service)], [], 0⟩)) ?_
  refine x_join (τ := Str) (fun t => dial_port_K1 l network t = some r) (fun t => { tm := [(0, .pv (.sl (some 1) (List.map enc_api_Entry l))), (1, .pv (.str network)), (2, .pv (.str t))], hp := [], nx := 0 }) ?_ ?_
  ·rintro p2 h
   replace h : dial_port_K1 l network p2 = some r := h
   unfold dial_port_K1 at h
   refine x_seq ?_
   obtain ⟨x3, hx3, h⟩ := bind_some h
   refine x_rg (rg0 [hE, hN (.cal [] (.bool x3) true)] (⟨[(0, pL (some 1) enc_api_Entry l), (1, pS network), (2, pS p2), (22, pB x3)], [], 0⟩) (.cons (c77 hx3) .nil)) ?_
   refine x_cond _ rfl (fun hc4 => ?_) (fun hc4 => ?_)
   ·replace h := ite_t h hc4
    refine x_rg (rgn [hE, hE] (⟨[(6, pS p2)], [], 0⟩)) ?_
    refine x_toret ?_
    refine x_tr ?_
    obtain rfl := Option.some.inj h
    exact ret0 (.str p2) (.refl _) (fun _ => rfl)
   ·replace h := ite_f h hc4
    refine kw0 (⟨[(0, pL (some 1) enc_api_Entry l), (1, pS network), (2, pS p2)], [], 0⟩) ?_
    refine x_skip ?_
    refine x_tn ?_
    refine x_seq ?_
    obtain ⟨x5, hx5, h⟩ := bind_some h
    refine x_rg (rg0 (obs := [(CallOK Tryd.prog 20 [.sl (some 1) (List.map enc_api_Entry l), .str [115, 101, 114, 118, 105, 99, 101], .str p2, .str network] (.usl none (List.map PV.str x5)) true), ((((List.map PV.str x5).length : Nat) : Int) = (List.length x5 : Int))]) [hE, hE, hE, hN (.cal [] (.usl none (List.map PV.str x5)) true), hN (.len (List.length x5 : Int)), hE] (⟨[(27, oL 0 PV.str x5), (28, pI (List.length x5 : Int)), (29, pI 0)], [(0, rL none PV.str x5)], 1⟩) (.cons (c20 hx5) (.cons (by rw [List.length_map]) .nil))) ?_
    refine x_block ?_
    refine kw0 (⟨[(27, oL 0 PV.str x5), (28, pI (List.length x5 : Int)), (29, pI 0)], [(0, rL none PV.str x5)], 1⟩) ?_
    refine x_loop (σ := Int) h (fun s => ⟨[(27, oL 0 PV.str x5), (28, pI (List.length x5 : Int)), (29, pI s)], [(0, rL none PV.str x5)], 1⟩) (by kernel_rfl) ?_ ?_
    ·rintro v10
     kernel_rfl
    ·rintro v10 x11 h hx11
     replace h : dial_port_L11 x5 v10 = some x11 := h
     unfold dial_port_L11 at h
     refine x_rg (rgn [hE] (⟨[(27, oL 0 PV.str x5), (28, pI (List.length x5 : Int)), (29, pI v10), (30, pB (decide (v10 < (List.length x5 : Int))))], [(0, rL none PV.str x5)], 1⟩)) ?_
     refine x_seq ?_
     refine x_cond _ rfl (fun hc12 => ?_) (fun hc12 => ?_)
     ·replace h := ite_t h hc12
      refine kw0 (⟨[(27, oL 0 PV.str x5), (28, pI (List.length x5 : Int)), (29, pI v10)], [(0, rL none PV.str x5)], 1⟩) ?_
      refine x_skip ?_
      refine x_tn ?_
      refine x_seq ?_
      refine x_block ?_
      obtain ⟨x13, hx13, h⟩ := bind_some h
      refine x_rg (rg0 (obs := [(0 ≤ (v10 : Int) ∧ Int.toNat v10 < (List.map PV.str x5).length), ((List.map PV.str x5)[(0 + Int.toNat v10)]? = some (.str x13))]) [hN .rAt, hN (.ld (.str x13)), hE] (⟨[(9, pS x13), (27, oL 0 PV.str x5), (28, pI (List.length x5 : Int)), (29, pI v10)], [(0, rL none PV.str x5)], 1⟩) (.cons (rAt_ob hx13 (by simp)) (.cons (ownAt hx13) .nil))) ?_
      obtain ⟨x14, hx14, h⟩ := bind_some h
      refine x_rg (rg0 [hE, hN (.cal [] (.bool x14) true)] (⟨[(9, pS x13), (27, oL 0 PV.str x5), (28, pI (List.length x5 : Int)), (29, pI v10), (34, pB x14)], [(0, rL none PV.str x5)], 1⟩) (.cons (c77 hx14) .nil)) ?_
      refine x_cond _ rfl (fun hc15 => ?_) (fun hc15 => ?_)
      ·replace h := ite_t h hc15
       refine x_rg (rgn [hE, hE] (⟨[(6, pS x13)], [], 0⟩)) ?_
       refine x_toret ?_
       refine x_br ?_
       refine x_tr ?_
       refine x_tr ?_
       replace h := done_leaf h hx11
       refine x_br ?_
       refine x_tr ?_
       obtain rfl := Option.some.inj h
       exact ret0 (.str x13) (.refl _) (fun _ => rfl)
      ·replace h := ite_f h hc15
       refine kw0 (⟨[(27, oL 0 PV.str x5), (28, pI (List.length x5 : Int)), (29, pI v10)], [(0, rL none PV.str x5)], 1⟩) ?_
       refine x_skip ?_
       refine x_bn ?_
       refine x_tn ?_
       refine x_rgt (rgn [hE, hE] (⟨[(27, oL 0 PV.str x5), (28, pI (List.length x5 : Int)), (29, pI (IntKind.wrap .i64 (v10 + 1)))], [(0, rL none PV.str x5)], 1⟩)) ?_
       refine x_tn ?_
       exact ⟨_, (Option.some.inj h).symm, by kernel_rfl⟩
     ·replace h := ite_f h hc12
      refine kw0 (⟨[], [], 0⟩) ?_
      refine x_exit ?_
      refine x_te ?_
      refine x_te ?_
      replace h := done_leaf h hx11
      refine x_bh ?_
      refine x_tn ?_
      refine x_rg (rgn [hE] (⟨[(6, pS [])], [], 0⟩)) ?_
      refine x_toret ?_
      obtain rfl := Option.some.inj h
      exact ret0 (.str []) (.refl _) (fun _ => rfl)
  ·refine x_rg (rgn [hE, hE] (⟨[(0, pL (some 1) enc_api_Entry l), (1, pS network), (2, pS service), (11, pB (decide (service = [])))], [], 0⟩)) ?_
   refine x_cond _ rfl (fun hc16 => ?_) (fun hc16 => ?_)
   ·replace h := ite_t h hc16
    obtain ⟨x17, hx17, h⟩ := bind_some h
    refine x_rg (rg0 [hE, hE, hN (.cal [] (.usl none (List.map PV.str x17)) true), hE] (⟨[(0, pL (some 1) enc_api_Entry l), (1, pS network), (7, oL 0 PV.str x17)], [(0, rL none PV.str x17)], 1⟩) (.cons (c20 hx17) .nil)) ?_
    refine x_seq ?_
    refine x_rg (rg0 (obs := [((((List.map PV.str x17).length : Nat) : Int) = (List.length x17 : Int))]) [hE, hN (.len (List.length x17 : Int)), hE] (⟨[(0, pL (some 1) enc_api_Entry l), (1, pS network), (7, oL 0 PV.str x17), (17, pB (decide ((List.length x17 : Int) = 0)))], [(0, rL none PV.str x17)], 1⟩) (.cons (by rw [List.length_map]) .nil)) ?_
    refine x_cond _ rfl (fun hc18 => ?_) (fun hc18 => ?_)
    ·replace h := ite_t h hc18
     refine x_rg (rgn [hE] (⟨[(6, pS [])], [], 0⟩)) ?_
     refine x_toret ?_
     refine x_tr ?_
     refine x_tr ?_
     obtain rfl := Option.some.inj h
     exact ret0 (.str []) (.refl _) (fun _ => rfl)
    ·replace h := ite_f h hc18
     refine kw0 (⟨[(0, pL (some 1) enc_api_Entry l), (1, pS network), (7, oL 0 PV.str x17)], [(0, rL none PV.str x17)], 1⟩) ?_
     refine x_skip ?_
     refine x_tn ?_
     obtain ⟨x19, hx19, h⟩ := bind_some h
     refine x_rgt (rg0 (obs := [(0 ≤ (0 : Int) ∧ Int.toNat 0 < (List.map PV.str x17).length), ((List.map PV.str x17)[(0 + Int.toNat 0)]? = some (.str x19))]) [hE, hN .rAt, hN (.ld (.str x19)), hE] (⟨[(0, pL (some 1) enc_api_Entry l), (1, pS network), (2, pS x19)], [], 0⟩) (.cons (rAt_ob hx19 (by simp)) (.cons (ownAt hx19) .nil))) ?_
     refine x_tn ?_
     exact ⟨x19, h, by kernel_rfl⟩
   ·replace h := ite_f h hc16
    refine kw0 (⟨[(0, pL (some 1) enc_api_Entry l), (1, pS network), (2, pS service)], [], 0⟩) ?_
    refine x_skip ?_
    refine x_tn ?_
    exact ⟨service, h, by kernel_rfl⟩

theorem c22 {l : (List api_Entry)} {host : Str} {a : api_Addr} {r : ((List api_Addr) × Int)} (h : dial_Translate l host a = some r) : CallOK Tryd.prog 22 [.sl (some 1) (List.map enc_api_Entry l), .str host, enc_api_Addr a] (.tup [.usl (some 3) (List.map enc_api_Addr r.1), .int .i64 r.2]) true := by
  apply ok22
  unfold dial_Translate at h
  refine x_rg (rgn [hE, hE, hE] (⟨[(0, pL (some 1) enc_api_Entry l), (1, pS host), (5, .optr 0 0 0)], [(0, some (.p (some 3) [enc_api_Addr a]))], 1⟩)) ?_
  refine x_seq ?_
  obtain ⟨x1, hx1, h⟩ := bind_some h
  refine x_rg (rg0 [hE, hN (.cal [] (.bool x1) true), hE] (⟨[(0, pL (some 1) enc_api_Entry l), (1, pS host), (5, .optr 0 0 0), (18, pB (!x1))], [(0, some (.p (some 3) [enc_api_Addr a]))], 1⟩) (.cons (c32 hx1) .nil)) ?_
  refine x_cond _ rfl (fun hc2 => ?_) (fun hc2 => ?_)
  ·replace h := ite_t h hc2
   refine x_rg (rgn [hE, hE] (⟨[(6, .pv (.nilsl)), (7, pI 36)], [], 0⟩)) ?_
   refine x_toret ?_
   refine x_tr ?_
   obtain rfl := Option.some.inj h
   exact ret0 (.tup [.nilsl, .int .i64 36]) (.tup (.cons (.nilUsl _) (.cons (.refl _) .nil))) (fun _ => tup_ns (.cons (usl_ns (sh := (some 3)) (fun _ => rfl)) (.cons rfl .nil)))
  ·replace h := ite_f h hc2
   refine kw0 (⟨[(0, pL (some 1) enc_api_Entry l), (1, pS host), (5, .optr 0 0 0)], [(0, some (.p (some 3) [enc_api_Addr a]))], 1⟩) ?_
   refine x_skip ?_
   refine x_tn ?_
   obtain ⟨x3, hx3, h⟩ := bind_some h
   refine x_rg (rg0 [hE, hE, hE, hN (.cal [] (.usl none (List.map PV.str x3)) true), hE] (⟨[(0, pL (some 1) enc_api_Entry l), (1, pS host), (5, .optr 0 0 0), (8, oL 1 PV.str x3)], [(0, some (.p (some 3) [enc_api_Addr a])), (1, rL none PV.str x3)], 2⟩) (.cons (c46 hx3) .nil)) ?_
   refine x_seq ?_
   refine x_rg (rg0 (obs := [((((List.map PV.str x3).length : Nat) : Int) = (List.length x3 : Int))]) [hE, hN (.len (List.length x3 : Int)), hE] (⟨[(0, pL (some 1) enc_api_Entry l), (1, pS host), (5, .optr 0 0 0), (8, oL 1 PV.str x3), (25, pB (decide ((List.length x3 : Int) = 0)))], [(0, some (.p (some 3) [enc_api_Addr a])), (1, rL none PV.str x3)], 2⟩) (.cons (by rw [List.length_map]) .nil)) ?_
   refine x_cond _ rfl (fun hc4 => ?_) (fun hc4 => ?_)
   ·replace h := ite_t h hc4
    refine x_rg (rgn [hE, hE] (⟨[(6, .pv (.nilsl)), (7, pI 37)], [], 0⟩)) ?_
    refine x_toret ?_
    refine x_tr ?_
    obtain rfl := Option.some.inj h
    exact ret0 (.tup [.nilsl, .int .i64 37]) (.tup (.cons (.nilUsl _) (.cons (.refl _) .nil))) (fun _ => tup_ns (.cons (usl_ns (sh := (some 3)) (fun _ => rfl)) (.cons rfl .nil)))
   ·replace h := ite_f h hc4
    refine kw0 (⟨[(0, pL (some 1) enc_api_Entry l), (1, pS host), (5, .optr 0 0 0), (8, oL 1 PV.str x3)], [(0, some (.p (some 3) [enc_api_Addr a])), (1, rL none PV.str x3)], 2⟩) ?_
    refine x_skip ?_
    refine x_tn ?_
    obtain ⟨x5, hx5, h⟩ := bind_some h
    refine x_rg (rg0 [hE, hE, hE, hE, hN (.cal [] (.usl none (List.map PV.str x5)) true), hE] (⟨[(0, pL (some 1) enc_api_Entry l), (5, .optr 0 0 0), (8, oL 1 PV.str x3), (9, oL 2 PV.str x5)], [(0, some (.p (some 3) [enc_api_Addr a])), (1, rL none PV.str x3), (2, rL none PV.str x5)], 3⟩) (.cons (c47 hx5) .nil)) ?_
    refine x_seq ?_
    refine x_rg (rg0 (obs := [((((List.map PV.str x5).length : Nat) : Int) = (List.length x5 : Int))]) [hE, hN (.len (List.length x5 : Int)), hE] (⟨[(0, pL (some 1) enc_api_Entry l), (5, .optr 0 0 0), (8, oL 1 PV.str x3), (9, oL 2 PV.str x5), (33, pB (decide ((List.length x5 : Int) = 0)))], [(0, some (.p (some 3) [enc_api_Addr a])), (1, rL none PV.str x3), (2, rL none PV.str x5)], 3⟩) (.cons (by rw [List.length_map]) .nil)) ?_
    refine x_cond _ rfl (fun hc6 => ?_) (fun hc6 => ?_)
    ·replace h := ite_t h hc6
     refine x_rg (rgn [hE, hE] (⟨[(6, .pv (.nilsl)), (7, pI 38)], [], 0⟩)) ?_
     refine x_toret ?_
     refine x_tr ?_
     obtain rfl := Option.some.inj h
     exact ret0 (.tup [.nilsl, .int .i64 38]) (.tup (.cons (.nilUsl _) (.cons (.refl _) .nil))) (fun _ => tup_ns (.cons (usl_ns (sh := (some 3)) (fun _ => rfl)) (.cons rfl .nil)))
    ·replace h := ite_f h hc6
     refine kw0 (⟨[(0, pL (some 1) enc_api_Entry l), (5, .optr 0 0 0), (8, oL 1 PV.str x3), (9, oL 2 PV.str x5)], [(0, some (.p (some 3) [enc_api_Addr a])), (1, rL none PV.str x3), (2, rL none PV.str x5)], 3⟩) ?_
     refine x_skip ?_
     refine x_tn ?_
     refine x_rg (st2 := { tm := [(0, .pv (.sl (some 1) (List.map enc_api_Entry l))), (5, .optr 0 0 0), (8, .osl 1 0 (List.map PV.str x3).length), (9, .osl 2 0 (List.map PV.str x5).length), (10, .osl 3 0 (List.map enc_api_Addr ([] : List api_Addr)).length)], hp := [(0, some (.p (some 3) [enc_api_Addr a])), (1, some (.p none (List.map PV.str x3))), (2, some (.p none (List.map PV.str x5))), (3, some (.p (some 3) (List.map enc_api_Addr ([] : List api_Addr))))], nx := 4 }) (rg [hE] ({ tm := [(0, .pv (.sl (some 1) (List.map enc_api_Entry l))), (5, .optr 0 0 0), (8, .osl 1 0 (List.map PV.str x3).length), (9, .osl 2 0 (List.map PV.str x5).length), (10, .pv (.nilsl))], hp := [(0, some (.p (some 3) [enc_api_Addr a])), (1, some (.p none (List.map PV.str x3))), (2, some (.p none (List.map PV.str x5)))], nx := 3 }) .nil ((Sub.keep (ks := [0, 5, 8, 9, 10]) (st := ownSt 10 (some 3) ({ tm := [(0, .pv (.sl (some 1) (List.map enc_api_Entry l))), (5, .optr 0 0 0), (8, .osl 1 0 (List.map PV.str x3).length), (9, .osl 2 0 (List.map PV.str x5).length), (10, .pv (.nilsl))], hp := [(0, some (.p (some 3) [enc_api_Addr a])), (1, some (.p none (List.map PV.str x3))), (2, some (.p none (List.map PV.str x5)))], nx := 3 })) (st' := { tm := [(0, .pv (.sl (some 1) (List.map enc_api_Entry l))), (5, .optr 0 0 0), (8, .osl 1 0 (List.map PV.str x3).length), (9, .osl 2 0 (List.map PV.str x5).length), (10, .osl 3 0 (List.map enc_api_Addr ([] : List api_Addr)).length)], hp := [(0, some (.p (some 3) [enc_api_Addr a])), (1, some (.p none (List.map PV.str x3))), (2, some (.p none (List.map PV.str x5))), (3, some (.p (some 3) (List.map enc_api_Addr ([] : List api_Addr))))], nx := 4 }) (by kernel_rfl)).trans (own_sound 10 (some 3) ({ tm := [(0, .pv (.sl (some 1) (List.map enc_api_Entry l))), (5, .optr 0 0 0), (8, .osl 1 0 (List.map PV.str x3).length), (9, .osl 2 0 (List.map PV.str x5).length), (10, .pv (.nilsl))], hp := [(0, some (.p (some 3) [enc_api_Addr a])), (1, some (.p none (List.map PV.str x3))), (2, some (.p none (List.map PV.str x5)))], nx := 3 })))) ?_
     refine x_seq ?_
     refine x_rg (rg0 (obs := [((((List.map PV.str x3).length : Nat) : Int) = (List.length x3 : Int))]) [hE, hN (.len (List.length x3 : Int)), hE] (⟨[(0, pL (some 1) enc_api_Entry l), (5, .optr 0 0 0), (9, oL 1 PV.str x5), (10, oL 2 enc_api_Addr ([] : List api_Addr)), (34, oL 3 PV.str x3), (35, pI (List.length x3 : Int)), (36, pI 0)], [(0, some (.p (some 3) [enc_api_Addr a])), (1, rL none PV.str x5), (2, rL (some 3) enc_api_Addr ([] : List api_Addr)), (3, rL none PV.str x3)], 4⟩) (.cons (by rw [List.length_map]) .nil)) ?_
     refine x_block ?_
     refine kw0 (⟨[(0, pL (some 1) enc_api_Entry l), (5, .optr 0 0 0), (9, oL 1 PV.str x5), (10, oL 2 enc_api_Addr ([] : List api_Addr)), (34, oL 3 PV.str x3), (35, pI (List.length x3 : Int)), (36, pI 0)], [(0, some (.p (some 3) [enc_api_Addr a])), (1, rL none PV.str x5), (2, rL (some 3) enc_api_Addr ([] : List api_Addr)), (3, rL none PV.str x3)], 4⟩) ?_
     refine x_loop (σ := (Int × (List api_Addr))) h (fun s => ⟨[(0, pL (some 1) enc_api_Entry l), (5, .optr 0 0 0), (9, oL 1 PV.str x5), (10, oL 2 enc_api_Addr s.2), (34, oL 3 PV.str x3), (35, pI (List.length x3 : Int)), (36, pI s.1)], [(0, some (.p (some 3) [enc_api_Addr a])), (1, rL none PV.str x5), (2, rL (some 3) enc_api_Addr s.2), (3, rL none PV.str x3)], 4⟩) (by kernel_rfl) ?_ ?_
     ·rintro ⟨v20, out⟩
      kernel_rfl
     ·rintro ⟨v20, out⟩ x22 h hx22
      replace h : dial_Translate_L22 l a x3 x5 v20 out = some x22 := h
      unfold dial_Translate_L22 at h
      refine x_rg (rgn [hE] (⟨[(0, pL (some 1) enc_api_Entry l), (5, .optr 0 0 0), (9, oL 1 PV.str x5), (10, oL 2 enc_api_Addr out), (34, oL 3 PV.str x3), (35, pI (List.length x3 : Int)), (36, pI v20), (37, pB (decide (v20 < (List.length x3 : Int))))], [(0, some (.p (some 3) [enc_api_Addr a])), (1, rL none PV.str x5), (2, rL (some 3) enc_api_Addr out), (3, rL none PV.str x3)], 4⟩)) ?_
      refine x_seq ?_
      refine x_cond _ rfl (fun hc23 => ?_) (fun hc23 => ?_)
      ·replace h := ite_t h hc23
       refine kw0 (⟨[(0, pL (some 1) enc_api_Entry l), (5, .optr 0 0 0), (9, oL 1 PV.str x5), (10, oL 2 enc_api_Addr out), (34, oL 3 PV.str x3), (35, pI (List.length x3 : Int)), (36, pI v20)], [(0, some (.p (some 3) [enc_api_Addr a])), (1, rL none PV.str x5), (2, rL (some 3) enc_api_Addr out), (3, rL none PV.str x3)], 4⟩) ?_
       refine x_skip ?_
       refine x_tn ?_
       refine x_seq ?_
       refine x_block ?_
       obtain ⟨x24, hx24, h⟩ := bind_some h
       refine x_rg (rg0 (obs := [(0 ≤ (v20 : Int) ∧ Int.toNat v20 < (List.map PV.str x3).length), ((List.map PV.str x3)[(0 + Int.toNat v20)]? = some (.str x24))]) [hN .rAt, hN (.ld (.str x24)), hE] (⟨[(0, pL (some 1) enc_api_Entry l), (5, .optr 0 0 0), (9, oL 1 PV.str x5), (10, oL 2 enc_api_Addr out), (12, pS x24), (34, oL 3 PV.str x3), (35, pI (List.length x3 : Int)), (36, pI v20)], [(0, some (.p (some 3) [enc_api_Addr a])), (1, rL none PV.str x5), (2, rL (some 3) enc_api_Addr out), (3, rL none PV.str x3)], 4⟩) (.cons (rAt_ob hx24 (by simp)) (.cons (ownAt hx24) .nil))) ?_
       obtain ⟨x25, hx25, h⟩ := bind_some h
       refine x_rg (rg0 [hE, hE, hE, hE, hN (.cal [] (.str x25) true), hE] (⟨[(0, pL (some 1) enc_api_Entry l), (5, .optr 0 0 0), (9, oL 1 PV.str x5), (10, oL 2 enc_api_Addr out), (12, pS x24), (13, pS x25), (34, oL 3 PV.str x3), (35, pI (List.length x3 : Int)), (36, pI v20)], [(0, some (.p (some 3) [enc_api_Addr a])), (1, rL none PV.str x5), (2, rL (some 3) enc_api_Addr out), (3, rL none PV.str x3)], 4⟩) (.cons (c48 hx25) .nil)) ?_
       refine x_seq ?_
       refine x_rg (rgn [hE, hE] (⟨[(0, pL (some 1) enc_api_Entry l), (5, .optr 0 0 0), (9, oL 1 PV.str x5), (10, oL 2 enc_api_Addr out), (12, pS x24), (13, pS x25), (34, oL 3 PV.str x3), (35, pI (List.length x3 : Int)), (36, pI v20), (46, pB (decide (x25 = [])))], [(0, some (.p (some 3) [enc_api_Addr a])), (1, rL none PV.str x5), (2, rL (some 3) enc_api_Addr out), (3, rL none PV.str x3)], 4⟩)) ?_
       refine x_cond _ rfl (fun hc26 => ?_) (fun hc26 => ?_)
       ·replace h := ite_t h hc26
        refine kw0 (⟨[(0, pL (some 1) enc_api_Entry l), (5, .optr 0 0 0), (9, oL 1 PV.str x5), (10, oL 2 enc_api_Addr out), (34, oL 3 PV.str x3), (35, pI (List.length x3 : Int)), (36, pI v20)], [(0, some (.p (some 3) [enc_api_Addr a])), (1, rL none PV.str x5), (2, rL (some 3) enc_api_Addr out), (3, rL none PV.str x3)], 4⟩) ?_
        refine x_exit ?_
        refine x_te ?_
        refine x_bh ?_
        refine x_tn ?_
        refine x_rgt (rgn [hE, hE] (⟨[(0, pL (some 1) enc_api_Entry l), (5, .optr 0 0 0), (9, oL 1 PV.str x5), (10, oL 2 enc_api_Addr out), (34, oL 3 PV.str x3), (35, pI (List.length x3 : Int)), (36, pI (IntKind.wrap .i64 (v20 + 1)))], [(0, some (.p (some 3) [enc_api_Addr a])), (1, rL none PV.str x5), (2, rL (some 3) enc_api_Addr out), (3, rL none PV.str x3)], 4⟩)) ?_
        refine x_tn ?_
        exact ⟨_, (Option.some.inj h).symm, by kernel_rfl⟩
       ·replace h := ite_f h hc26
        refine kw0 (⟨[(0, pL (some 1) enc_api_Entry l), (5, .optr 0 0 0), (9, oL 1 PV.str x5), (10, oL 2 enc_api_Addr out), (12, pS x24), (13, pS x25), (34, oL 3 PV.str x3), (35, pI (List.length x3 : Int)), (36, pI v20)], [(0, some (.p (some 3) [enc_api_Addr a])), (1, rL none PV.str x5), (2, rL (some 3) enc_api_Addr out), (3, rL none PV.str x3)], 4⟩) ?_
        refine x_skip ?_
        refine x_tn ?_
        refine x_rg (rg0 (obs := [((((List.map PV.str x5).length : Nat) : Int) = (List.length x5 : Int))]) [hE, hN (.len (List.length x5 : Int)), hE] (⟨[(0, pL (some 1) enc_api_Entry l), (5, .optr 0 0 0), (9, oL 1 PV.str x5), (10, oL 2 enc_api_Addr out), (12, pS x24), (13, pS x25), (34, oL 3 PV.str x3), (35, pI (List.length x3 : Int)), (36, pI v20), (47, oL 1 PV.str x5), (48, pI (List.length x5 : Int)), (49, pI 0)], [(0, some (.p (some 3) [enc_api_Addr a])), (1, rL none PV.str x5), (2, rL (some 3) enc_api_Addr out), (3, rL none PV.str x3)], 4⟩) (.cons (by rw [List.length_map]) .nil)) ?_
        refine x_block ?_
        refine kw0 (⟨[(0, pL (some 1) enc_api_Entry l), (5, .optr 0 0 0), (9, oL 1 PV.str x5), (10, oL 2 enc_api_Addr out), (12, pS x24), (13, pS x25), (34, oL 3 PV.str x3), (35, pI (List.length x3 : Int)), (36, pI v20), (47, oL 1 PV.str x5), (48, pI (List.length x5 : Int)), (49, pI 0)], [(0, some (.p (some 3) [enc_api_Addr a])), (1, rL none PV.str x5), (2, rL (some 3) enc_api_Addr out), (3, rL none PV.str x3)], 4⟩) ?_
        refine x_loop (σ := (Int × (List api_Addr))) h (fun s => ⟨[(0, pL (some 1) enc_api_Entry l), (5, .optr 0 0 0), (9, oL 1 PV.str x5), (10, oL 2 enc_api_Addr s.2), (12, pS x24), (13, pS x25), (34, oL 3 PV.str x3), (35, pI (List.length x3 : Int)), (36, pI v20), (47, oL 1 PV.str x5), (48, pI (List.length x5 : Int)), (49, pI s.1)], [(0, some (.p (some 3) [enc_api_Addr a])), (1, rL none PV.str x5), (2, rL (some 3) enc_api_Addr s.2), (3, rL none PV.str x3)], 4⟩) (by kernel_rfl) ?_ ?_
        ·rintro ⟨v30, out_1⟩
         kernel_rfl
        ·rintro ⟨v30, out_1⟩ x32 h hx32
         replace h : dial_Translate_L32 x5 v20 x24 x25 v30 out_1 = some x32 := h
         unfold dial_Translate_L32 at h
         refine x_rg (rgn [hE] (⟨[(0, pL (some 1) enc_api_Entry l), (5, .optr 0 0 0), (9, oL 1 PV.str x5), (10, oL 2 enc_api_Addr out_1), (12, pS x24), (13, pS x25), (34, oL 3 PV.str x3), (35, pI (List.length x3 : Int)), (36, pI v20), (47, oL 1 PV.str x5), (48, pI (List.length x5 : Int)), (49, pI v30), (50, pB (decide (v30 < (List.length x5 : Int))))], [(0, some (.p (some 3) [enc_api_Addr a])), (1, rL none PV.str x5), (2, rL (some 3) enc_api_Addr out_1), (3, rL none PV.str x3)], 4⟩)) ?_
         refine x_seq ?_
         refine x_cond _ rfl (fun hc33 => ?_) (fun hc33 => ?_)
         ·replace h := ite_t h hc33
          refine kw0 (⟨[(0, pL (some 1) enc_api_Entry l), (5, .optr 0 0 0), (9, oL 1 PV.str x5), (10, oL 2 enc_api_Addr out_1), (12, pS x24), (13, pS x25), (34, oL 3 PV.str x3), (35, pI (List.length x3 : Int)), (36, pI v20), (47, oL 1 PV.str x5), (48, pI (List.length x5 : Int)), (49, pI v30)], [(0, some (.p (some 3) [enc_api_Addr a])), (1, rL none PV.str x5), (2, rL (some 3) enc_api_Addr out_1), (3, rL none PV.str x3)], 4⟩) ?_
          refine x_skip ?_
          refine x_tn ?_
          refine x_seq ?_
          refine x_block ?_
          obtain ⟨x34, hx34, h⟩ := bind_some h
          refine x_rg (rg0 (obs := [(0 ≤ (v30 : Int) ∧ Int.toNat v30 < (List.map PV.str x5).length), ((List.map PV.str x5)[(0 + Int.toNat v30)]? = some (.str x34))]) [hN .rAt, hN (.ld (.str x34)), hE] (⟨[(0, pL (some 1) enc_api_Entry l), (5, .optr 0 0 0), (9, oL 1 PV.str x5), (10, oL 2 enc_api_Addr out_1), (12, pS x24), (13, pS x25), (15, pS x34), (34, oL 3 PV.str x3), (35, pI (List.length x3 : Int)), (36, pI v20), (47, oL 1 PV.str x5), (48, pI (List.length x5 : Int)), (49, pI v30)], [(0, some (.p (some 3) [enc_api_Addr a])), (1, rL none PV.str x5), (2, rL (some 3) enc_api_Addr out_1), (3, rL none PV.str x3)], 4⟩) (.cons (rAt_ob hx34 (by simp)) (.cons (ownAt hx34) .nil))) ?_
          obtain ⟨x35, hx35, h⟩ := bind_some h
          refine x_rgt (rg0 (obs := [(List.take (List.map enc_api_Addr out_1).length (List.map enc_api_Addr out_1) ++ List.take 1 (List.drop 0 ([.agg [.str x24, .str x34, .str x25]] : List PV)) = (List.map enc_api_Addr x35)), (List.length (List.map enc_api_Addr x35) * 48 ≤ 140737488355328), (List.length (List.map enc_api_Addr x35) ≤ 9223372036854775807), ((List.map enc_api_Addr out_1).length ≤ List.length (List.map enc_api_Addr out_1)), (0 + 1 ≤ List.length ([.agg [.str x24, .str x34, .str x25]] : List PV))]) [hE, hE, hE, hE, hE, hE, hN (.app (List.map enc_api_Addr x35)), hE] (⟨[(0, pL (some 1) enc_api_Entry l), (5, .optr 0 0 0), (9, oL 1 PV.str x5), (10, oL 2 enc_api_Addr x35), (12, pS x24), (13, pS x25), (34, oL 3 PV.str x3), (35, pI (List.length x3 : Int)), (36, pI v20), (47, oL 1 PV.str x5), (48, pI (List.length x5 : Int)), (49, pI v30)], [(0, some (.p (some 3) [enc_api_Addr a])), (1, rL none PV.str x5), (2, rL (some 3) enc_api_Addr x35), (3, rL none PV.str x3)], 4⟩) (.cons (app_ob hx35 (.all _) (.rfl _)) (.cons (by rw [List.length_map]; exact (appL_ok hx35).2.1) (.cons (by rw [List.length_map]; exact (appL_ok hx35).2.2) (.cons (Nat.le_refl _) (.cons (by simp) .nil)))))) ?_
          refine x_bn ?_
          refine x_tn ?_
          refine x_rgt (rgn [hE, hE] (⟨[(0, pL (some 1) enc_api_Entry l), (5, .optr 0 0 0), (9, oL 1 PV.str x5), (10, oL 2 enc_api_Addr x35), (12, pS x24), (13, pS x25), (34, oL 3 PV.str x3), (35, pI (List.length x3 : Int)), (36, pI v20), (47, oL 1 PV.str x5), (48, pI (List.length x5 : Int)), (49, pI (IntKind.wrap .i64 (v30 + 1)))], [(0, some (.p (some 3) [enc_api_Addr a])), (1, rL none PV.str x5), (2, rL (some 3) enc_api_Addr x35), (3, rL none PV.str x3)], 4⟩)) ?_
          refine x_tn ?_
          exact ⟨_, (Option.some.inj h).symm, by kernel_rfl⟩
         ·replace h := ite_f h hc33
          refine kw0 (⟨[(0, pL (some 1) enc_api_Entry l), (5, .optr 0 0 0), (9, oL 1 PV.str x5), (10, oL 2 enc_api_Addr out_1), (34, oL 3 PV.str x3), (35, pI (List.length x3 : Int)), (36, pI v20)], [(0, some (.p (some 3) [enc_api_Addr a])), (1, rL none PV.str x5), (2, rL (some 3) enc_api_Addr out_1), (3, rL none PV.str x3)], 4⟩) ?_
          refine x_exit ?_
          refine x_te ?_
          refine x_te ?_
          replace h := done_leaf h hx32
          refine x_bh ?_
          refine x_bn ?_
          refine x_tn ?_
          refine x_rgt (rgn [hE, hE] (⟨[(0, pL (some 1) enc_api_Entry l), (5, .optr 0 0 0), (9, oL 1 PV.str x5), (10, oL 2 enc_api_Addr out_1), (34, oL 3 PV.str x3), (35, pI (List.length x3 : Int)), (36, pI (IntKind.wrap .i64 (v20 + 1)))], [(0, some (.p (some 3) [enc_api_Addr a])), (1, rL none PV.str x5), (2, rL (some 3) enc_api_Addr out_1), (3, rL none PV.str x3)], 4⟩)) ?_
          refine x_tn ?_
          exact ⟨_, (Option.some.inj h).symm, by kernel_rfl⟩
      ·replace h := ite_f h hc23
       refine kw0 (⟨[(10, oL 0 enc_api_Addr out)], [(0, rL (some 3) enc_api_Addr out)], 1⟩) ?_
       refine x_exit ?_
       refine x_te ?_
       refine x_te ?_
       replace h := done_map h hx22
       unfold dial_Translate_A37 at h
       refine x_bh ?_
       refine x_tn ?_
       refine x_seq ?_
       refine x_rg (rg0 (obs := [((((List.map enc_api_Addr out).length : Nat) : Int) = (List.length out : Int))]) [hE, hN (.len (List.length out : Int)), hE] (⟨[(10, oL 0 enc_api_Addr out), (64, pB (decide ((List.length out : Int) = 0)))], [(0, rL (some 3) enc_api_Addr out)], 1⟩) (.cons (by rw [List.length_map]) .nil)) ?_
       refine x_cond _ rfl (fun hc36 => ?_) (fun hc36 => ?_)
       ·replace h := ite_t h hc36
        refine x_rg (rgn [hE, hE] (⟨[(6, .pv (.nilsl)), (7, pI 39)], [], 0⟩)) ?_
        refine x_toret ?_
        refine x_tr ?_
        obtain rfl := Option.some.inj h
        exact ret0 (.tup [.nilsl, .int .i64 39]) (.tup (.cons (.nilUsl _) (.cons (.refl _) .nil))) (fun _ => tup_ns (.cons (usl_ns (sh := (some 3)) (fun _ => rfl)) (.cons rfl .nil)))
       ·replace h := ite_f h hc36
        refine kw0 (⟨[(10, oL 0 enc_api_Addr out)], [(0, rL (some 3) enc_api_Addr out)], 1⟩) ?_
        refine x_skip ?_
        refine x_tn ?_
        refine x_rg (rgn [hE, hE, hE] (⟨[(6, oL 0 enc_api_Addr out), (7, pI 0)], [(0, rL (some 3) enc_api_Addr out)], 1⟩)) ?_
        refine x_toret ?_
        obtain rfl := Option.some.inj h
        exact x_ret (.tup [.usl (some 3) (List.take (List.map enc_api_Addr out).length (List.map enc_api_Addr out)), .int .i64 0]) [0] [(List.map enc_api_Addr out).length ≤ List.length (List.map enc_api_Addr out)] (by kernel_rfl) (.cons (Nat.le_refl _) .nil) (by decide) (.tup (.cons (.of_eq (by rw [List.take_length])) (.cons (.refl _) .nil))) (fun _ => tup_ns (.cons (usl_ns (sh := (some 3)) (fun _ => rfl)) (.cons rfl .nil)))

theorem c14 {a : api_Addr} {r : (Str × Int)} (h : dial_Print a = some r) : CallOK Tryd.prog 14 [enc_api_Addr a] (.tup [.str r.1, .int .i64 r.2]) true := by
  apply ok14
  unfold dial_Print at h
  refine x_rg (rgn [hE, hE, hE] (⟨[(1, .optr 0 0 0)], [(0, some (.p (some 3) [enc_api_Addr a]))], 1⟩)) ?_
  refine x_seq ?_
  obtain ⟨x1, hx1, h⟩ := bind_some h
  refine x_rg (rg0 [hE, hN (.cal [] (.bool x1) true), hE] (⟨[(1, .optr 0 0 0), (7, pB (!x1))], [(0, some (.p (some 3) [enc_api_Addr a]))], 1⟩) (.cons (c32 hx1) .nil)) ?_
  refine x_cond _ rfl (fun hc2 => ?_) (fun hc2 => ?_)
  ·replace h := ite_t h hc2
   refine x_rg (rgn [hE, hE] (⟨[(2, pS []), (3, pI 36)], [], 0⟩)) ?_
   refine x_toret ?_
   refine x_tr ?_
   obtain rfl := Option.some.inj h
   exact ret0 (.tup [.str [], .int .i64 36]) (.tup (.cons (.refl _) (.cons (.refl _) .nil))) (fun _ => rfl)
  ·replace h := ite_f h hc2
   refine kw0 (⟨[(1, .optr 0 0 0)], [(0, some (.p (some 3) [enc_api_Addr a]))], 1⟩) ?_
   refine x_skip ?_
   refine x_tn ?_
   obtain ⟨x3, hx3, h⟩ := bind_some h
   obtain ⟨x4, hx4, h⟩ := bind_some h
   refine x_rg (rg0 [hE, hE, hN (.cat x3), hE, hE, hN (.cat x4), hE] (⟨[(1, .optr 0 0 0), (4, pS x4)], [(0, some (.p (some 3) [enc_api_Addr a]))], 1⟩) (.cons hx3 (.cons hx4 .nil))) ?_
   refine x_seq ?_
   refine x_rg (rgn [hE, hE, hE] (⟨[(1, .optr 0 0 0), (4, pS x4), (16, pB (!decide (a.Service = [])))], [(0, some (.p (some 3) [enc_api_Addr a]))], 1⟩)) ?_
   refine x_cond _ rfl (fun hc5 => ?_) (fun hc5 => ?_)
   ·replace h := ite_t h hc5
    obtain ⟨x6, hx6, h⟩ := bind_some h
    obtain ⟨x7, hx7, h⟩ := bind_some h
    refine x_rgt (rg0 [hE, hE, hE, hN (.cat x6), hN (.cat x7), hE] (⟨[(4, pS x7)], [], 0⟩) (.cons hx6 (.cons hx7 .nil))) ?_
    refine x_tn ?_
    refine x_rg (rgn [hE, hE, hE] (⟨[(2, pS x7), (3, pI 0)], [], 0⟩)) ?_
    refine x_toret ?_
    obtain rfl := Option.some.inj h
    exact ret0 (.tup [.str x7, .int .i64 0]) (.tup (.cons (.refl _) (.cons (.refl _) .nil))) (fun _ => rfl)
   ·replace h := ite_f h hc5
    refine kw0 (⟨[(4, pS x4)], [], 0⟩) ?_
    refine x_skip ?_
    refine x_tn ?_
    refine x_rg (rgn [hE, hE, hE] (⟨[(2, pS x4), (3, pI 0)], [], 0⟩)) ?_
    refine x_toret ?_
    obtain rfl := Option.some.inj h
    exact ret0 (.tup [.str x4, .int .i64 0]) (.tup (.cons (.refl _) (.cons (.refl _) .nil))) (fun _ => rfl)

end Go.Proofs.YtphblddgbbgdnaaDoor
