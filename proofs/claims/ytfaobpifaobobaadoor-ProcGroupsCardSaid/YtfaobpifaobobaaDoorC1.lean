/- The functions of the program compute what their plain forms compute; printed by a program of the claim's author. -/
import Derived.Test.YtfaobpifaobobaaDoorC
import Derived.Test.YtfaobpifaobobaaDoorS
import Derived.Test.YtfaobpifaobobaaDoorShelf
import Derived.Test.YtfaobpifaobobaaDoorVmB
import Derived.Test.YtfaobpifaobobaaDoorF
namespace Go.Proofs.YtfaobpifaobobaaDoor
open Go.Vm
set_option autoImplicit false
set_option linter.unusedVariables false
set_option linter.unusedSimpArgs false
set_option maxRecDepth 100000

theorem c66 {p : Str} {r : ((List Str) × Int)} (h : ref03_Split p = some r) : CallOK Tryd.prog 66 [.str p] (.tup [.usl none (List.map PV.str r.1), .int .i64 r.2]) true := by
 apply ok66
 unfold ref03_Split at h
 refine x_rg (rgn [hE, hE] (⟨[(0, pS p)], [], 0⟩)) ?_
 refine x_seq ?_
 refine x_rg (rgn [hE, hE, hE] (⟨[(0, pS p), (11, pB (decide (1024 < (List.length p : Int))))], [], 0⟩)) ?_
 refine x_cond _ rfl (fun hc1 => ?_) (fun hc1 => ?_)
 ·replace h := ite_t h hc1
  refine x_rg (rgn [hE, hE] (⟨[(2, .pv (.nilsl)), (3, pI 4)], [], 0⟩)) ?_
  refine x_toret (x_tr ?_)
  obtain rfl := Option.some.inj h
  exact ret0 (.tup [.nilsl, .int .i64 4]) (.tup (.cons (.nilUsl _) (.cons (.refl _) .nil))) (fun _ => tup_ns (.cons (usl_ns (sh := none) (fun _ => rfl)) (.cons rfl .nil)))
 replace h := ite_f h hc1
 refine kw0 (⟨[(0, pS p)], [], 0⟩) ?_
 refine x_skip (x_tn ?_)
 obtain ⟨x2, hx2, h⟩ := bind_some h
 refine x_rg (rg0 [hE, hN (.cal [] (.usl none (List.map PV.str x2)) true), hE] (⟨[(0, pS p), (4, oL 0 PV.str x2)], [(0, rL none PV.str x2)], 1⟩) (.cons (c71 hx2) .nil)) ?_
 refine x_seq ?_
 refine x_rg (rgn [hE] (⟨[(0, pS p), (4, oL 0 PV.str x2), (5, pI 0)], [(0, rL none PV.str x2)], 1⟩)) ?_
 refine x_block ?_
 refine kw0 (⟨[(0, pS p), (4, oL 0 PV.str x2), (5, pI 0)], [(0, rL none PV.str x2)], 1⟩) ?_
 refine x_loop (σ := Int) h (fun s => ⟨[(0, pS p), (4, oL 0 PV.str x2), (5, pI s)], [(0, rL none PV.str x2)], 1⟩) (by kernel_rfl) ?_ ?_
 ·rintro i
  kernel_rfl
 rintro i x15 h hx15
 replace h : ref03_Split_L15 p x2 i = some x15 := h
 unfold ref03_Split_L15 at h
 refine x_seq ?_
 refine x_rg (rg0 [hE, hE, hN (.len (List.length x2 : Int)), hE] (⟨[(0, pS p), (4, oL 0 PV.str x2), (5, pI i), (17, pB (decide (i < (List.length x2 : Int))))], [(0, rL none PV.str x2)], 1⟩) (.cons (lenM PV.str x2) .nil)) ?_
 refine x_cond _ rfl (fun hc16 => ?_) (fun hc16 => ?_)
 ·replace h := ite_t h hc16
  refine kw0 (⟨[(0, pS p), (4, oL 0 PV.str x2), (5, pI i)], [(0, rL none PV.str x2)], 1⟩) ?_
  refine x_skip (x_tn (x_seq (x_block ?_)))
  obtain ⟨x17, hx17, h⟩ := bind_some h
  obtain ⟨t25, ht, h⟩ := bind_some h
  refine x_rgB (fun b_ => (⟨[(0, pS p), (4, oL 0 PV.str x2), (5, pI i), (46, pB b_)], [(0, rL none PV.str x2)], 1⟩ : VSt)) t25 ?_ ?_
  ·rcases Bool.eq_false_or_eq_true (!decide (x17 = [])) with hg18 | hg18
   ·replace ht := ite_t ht hg18
    obtain ⟨x19, hx19, ht⟩ := bind_some ht
    rcases Bool.eq_false_or_eq_true (!decide (x19 = [46])) with hg20 | hg20
    ·replace ht := ite_t ht hg20
     obtain ⟨x21, hx21, ht⟩ := bind_some ht
     rcases Bool.eq_false_or_eq_true (!decide (x21 = [46, 46])) with hg22 | hg22
     ·replace ht := ite_t ht hg22
      obtain ⟨x23, hx23, ht⟩ := bind_some ht
      obtain ⟨x24, hx24, ht⟩ := bind_some ht
      have e := Option.some.inj ht
      subst e
      exact rb [hE, hE, hN .rAt, hN (.ld (.str x17)), hE, hE, hY, hY, (.y, .rAt), (.y, (.ld (.str x19))), hY, hN (.pk true), hE, hY, hY, (.y, .rAt), (.y, (.ld (.str x21))), hY, hN (.pk true), hE, hY, hY, (.y, .rAt), (.y, (.ld (.str x23))), (.y, (.cal [] (.bool x24) true)), hY, hN (.pk true)] (!x24) (.cons (rAtM (f := PV.str) hx17) (.cons (ownAt (f := PV.str) hx17) (hk3 hg18 (.cons (rAtM (f := PV.str) hx19) (.cons hg18 (.cons (ownAt (f := PV.str) hx19) (hk2 hg18 (hk3 hg20 (.cons (rAtM (f := PV.str) hx21) (.cons hg20 (.cons (ownAt (f := PV.str) hx21) (hk2 hg20 (hk3 hg22 (.cons (rAtM (f := PV.str) hx23) (.cons hg22 (.cons (ownAt (f := PV.str) hx23) (.cons hg22 (.cons (c56 hx24) (hk2 hg22 .nil))))))))))))))))))) rfl
     replace ht := ite_f ht hg22
     have e := Option.some.inj ht
     subst e
     exact rb [hE, hE, hN .rAt, hN (.ld (.str x17)), hE, hE, hY, hY, (.y, .rAt), (.y, (.ld (.str x19))), hY, hN (.pk true), hE, hY, hY, (.y, .rAt), (.y, (.ld (.str x21))), hY, hN (.pk true), hE, hS, hS, hS, hS, hS, hS, hN (.pk false)] false (.cons (rAtM (f := PV.str) hx17) (.cons (ownAt (f := PV.str) hx17) (hk3 hg18 (.cons (rAtM (f := PV.str) hx19) (.cons hg18 (.cons (ownAt (f := PV.str) hx19) (hk2 hg18 (hk3 hg20 (.cons (rAtM (f := PV.str) hx21) (.cons hg20 (.cons (ownAt (f := PV.str) hx21) (hk2 hg20 (.cons hg22 (hk6 hg22 .nil)))))))))))))) rfl
    replace ht := ite_f ht hg20
    have e := Option.some.inj ht
    subst e
    exact rb [hE, hE, hN .rAt, hN (.ld (.str x17)), hE, hE, hY, hY, (.y, .rAt), (.y, (.ld (.str x19))), hY, hN (.pk true), hE, hS, hS, hS, hS, hS, hN (.pk false), hE, hS, hS, hS, hS, hS, hS, hE] false (.cons (rAtM (f := PV.str) hx17) (.cons (ownAt (f := PV.str) hx17) (hk3 hg18 (.cons (rAtM (f := PV.str) hx19) (.cons hg18 (.cons (ownAt (f := PV.str) hx19) (hk2 hg18 (hk6 hg20 (hk6 ff .nil))))))))) rfl
   replace ht := ite_f ht hg18
   have e := Option.some.inj ht
   subst e
   exact rb [hE, hE, hN .rAt, hN (.ld (.str x17)), hE, hE, hS, hS, hS, hS, hS, hN (.pk false), hE, hS, hS, hS, hS, hS, hE, hE, hS, hS, hS, hS, hS, hS, hE] false (.cons (rAtM (f := PV.str) hx17) (.cons (ownAt (f := PV.str) hx17) (hk6 hg18 (hk3 ff (hk8 ff .nil))))) rfl
  clear ht
  refine x_cond _ rfl (fun hc26 => ?_) (fun hc26 => ?_)
  ·replace h := ite_t h hc26
   refine x_rg (rgn [hE, hE] (⟨[(2, .pv (.nilsl)), (3, pI 6)], [], 0⟩)) ?_
   refine x_toret (x_br (x_tr (x_tr ?_)))
   replace h := done_leaf h hx15
   refine x_br (x_tr ?_)
   obtain rfl := Option.some.inj h
   exact ret0 (.tup [.nilsl, .int .i64 6]) (.tup (.cons (.nilUsl _) (.cons (.refl _) .nil))) (fun _ => tup_ns (.cons (usl_ns (sh := none) (fun _ => rfl)) (.cons rfl .nil)))
  replace h := ite_f h hc26
  refine kw0 (⟨[(0, pS p), (4, oL 0 PV.str x2), (5, pI i)], [(0, rL none PV.str x2)], 1⟩) ?_
  refine x_skip (x_bn (x_tn ?_))
  refine x_rgt (rgn [hE, hE, hE] (⟨[(0, pS p), (4, oL 0 PV.str x2), (5, pI (IntKind.wrap .i64 (i + 1)))], [(0, rL none PV.str x2)], 1⟩)) ?_
  refine x_tn ?_
  exact ⟨_, (Option.some.inj h).symm, by kernel_rfl⟩
 replace h := ite_f h hc16
 refine kw0 (⟨[(0, pS p), (4, oL 0 PV.str x2)], [(0, rL none PV.str x2)], 1⟩) ?_
 refine x_exit ?_
 refine x_te (x_te ?_)
 replace h := done_map h hx15
 refine x_bh ?_
 refine x_tn ?_
 refine x_rg (st2 := { tm := [(0, .pv (.str p)), (4, .osl 0 0 (List.map PV.str x2).length), (6, .osl 1 0 (List.map PV.str ([] : List Str)).length)], hp := [(0, some (.p none (List.map PV.str x2))), (1, some (.p none (List.map PV.str ([] : List Str))))], nx := 2 }) (rg [hE] ({ tm := [(0, .pv (.str p)), (4, .osl 0 0 (List.map PV.str x2).length), (6, .pv (.nilsl))], hp := [(0, some (.p none (List.map PV.str x2)))], nx := 1 }) .nil ((Sub.keep (ks := [0, 4, 6]) (st := ownSt 6 none ({ tm := [(0, .pv (.str p)), (4, .osl 0 0 (List.map PV.str x2).length), (6, .pv (.nilsl))], hp := [(0, some (.p none (List.map PV.str x2)))], nx := 1 })) (st' := { tm := [(0, .pv (.str p)), (4, .osl 0 0 (List.map PV.str x2).length), (6, .osl 1 0 (List.map PV.str ([] : List Str)).length)], hp := [(0, some (.p none (List.map PV.str x2))), (1, some (.p none (List.map PV.str ([] : List Str))))], nx := 2 }) (by kernel_rfl)).trans (own_sound 6 none ({ tm := [(0, .pv (.str p)), (4, .osl 0 0 (List.map PV.str x2).length), (6, .pv (.nilsl))], hp := [(0, some (.p none (List.map PV.str x2)))], nx := 1 })))) ?_
 refine x_seq ?_
 refine x_rg (rgn [hE] (⟨[(0, pS p), (4, oL 0 PV.str x2), (6, oL 1 PV.str ([] : List Str)), (7, pI 0)], [(0, rL none PV.str x2), (1, rL none PV.str ([] : List Str))], 2⟩)) ?_
 refine x_block ?_
 refine kw0 (⟨[(0, pS p), (4, oL 0 PV.str x2), (6, oL 1 PV.str ([] : List Str)), (7, pI 0)], [(0, rL none PV.str x2), (1, rL none PV.str ([] : List Str))], 2⟩) ?_
 refine x_loop (σ := (Int × (List Str))) h (fun s => ⟨[(0, pS p), (4, oL 0 PV.str x2), (6, oL 1 PV.str s.2), (7, pI s.1)], [(0, rL none PV.str x2), (1, rL none PV.str s.2)], 2⟩) (by kernel_rfl) ?_ ?_
 ·rintro ⟨i_1, out⟩
  kernel_rfl
 rintro ⟨i_1, out⟩ x49 h hx49
 replace h : ref03_Split_L49 p x2 i_1 out = some x49 := h
 unfold ref03_Split_L49 at h
 refine x_seq ?_
 refine x_rg (rg0 [hE, hE, hN (.len (List.length x2 : Int)), hE] (⟨[(0, pS p), (4, oL 0 PV.str x2), (6, oL 1 PV.str out), (7, pI i_1), (50, pB (decide (i_1 < (List.length x2 : Int))))], [(0, rL none PV.str x2), (1, rL none PV.str out)], 2⟩) (.cons (lenM PV.str x2) .nil)) ?_
 refine x_cond _ rfl (fun hc50 => ?_) (fun hc50 => ?_)
 ·replace h := ite_t h hc50
  refine kw0 (⟨[(0, pS p), (4, oL 0 PV.str x2), (6, oL 1 PV.str out), (7, pI i_1)], [(0, rL none PV.str x2), (1, rL none PV.str out)], 2⟩) ?_
  refine x_skip (x_tn (x_seq (x_block ?_)))
  refine x_rg (rg0 [hE, hN (.len (List.length out : Int)), hE] (⟨[(0, pS p), (4, oL 0 PV.str x2), (6, oL 1 PV.str out), (7, pI i_1), (8, pI (List.length out : Int))], [(0, rL none PV.str x2), (1, rL none PV.str out)], 2⟩) (.cons (lenM PV.str out) .nil)) ?_
  refine x_block ?_
  obtain ⟨x51, hx51, h⟩ := bind_some h
  obtain ⟨t54, ht, h⟩ := bind_some h
  refine x_rgB (fun b_ => (⟨[(0, pS p), (4, oL 0 PV.str x2), (6, oL 1 PV.str out), (7, pI i_1), (8, pI (List.length out : Int)), (62, pB b_)], [(0, rL none PV.str x2), (1, rL none PV.str out)], 2⟩ : VSt)) t54 ?_ ?_
  ·rcases Bool.eq_false_or_eq_true (decide (x51 = [])) with hg52 | hg52
   ·replace ht := ite_t ht hg52
    have e := Option.some.inj ht
    subst e
    exact rb [hE, hE, hN .rAt, hN (.ld (.str x51)), hE, hE, hS, hS, hS, hS, hS, hN (.pk true), hE] true (.cons (rAtM (f := PV.str) hx51) (.cons (ownAt (f := PV.str) hx51) (hk6 hg52 .nil))) rfl
   replace ht := ite_f ht hg52
   obtain ⟨x53, hx53, ht⟩ := bind_some ht
   have e := Option.some.inj ht
   subst e
   exact rb [hE, hE, hN .rAt, hN (.ld (.str x51)), hE, hE, hY, hY, (.y, .rAt), (.y, (.ld (.str x53))), hY, hN (.pk false), hE] (decide (x53 = [46])) (.cons (rAtM (f := PV.str) hx51) (.cons (ownAt (f := PV.str) hx51) (hk3 hg52 (.cons (rAtM (f := PV.str) hx53) (.cons hg52 (.cons (ownAt (f := PV.str) hx53) (hk2 hg52 .nil))))))) rfl
  clear ht
  refine x_cond _ rfl (fun hc55 => ?_) (fun hc55 => ?_)
  ·replace h := ite_t h hc55
   refine kw0 (⟨[(0, pS p), (4, oL 0 PV.str x2), (6, oL 1 PV.str out), (7, pI i_1)], [(0, rL none PV.str x2), (1, rL none PV.str out)], 2⟩) ?_
   refine x_skip (x_bn (x_bn (x_tn ?_)))
   refine x_rgt (rgn [hE, hE, hE] (⟨[(0, pS p), (4, oL 0 PV.str x2), (6, oL 1 PV.str out), (7, pI (IntKind.wrap .i64 (i_1 + 1)))], [(0, rL none PV.str x2), (1, rL none PV.str out)], 2⟩)) ?_
   refine x_tn ?_
   exact ⟨_, (Option.some.inj h).symm, by kernel_rfl⟩
  replace h := ite_f h hc55
  obtain ⟨x56, hx56, h⟩ := bind_some h
  obtain ⟨t60, ht, h⟩ := bind_some h
  refine x_rgB (fun b_ => (⟨[(0, pS p), (4, oL 0 PV.str x2), (6, oL 1 PV.str out), (7, pI i_1), (8, pI (List.length out : Int)), (75, pB b_)], [(0, rL none PV.str x2), (1, rL none PV.str out)], 2⟩ : VSt)) t60 ?_ ?_
  ·rcases Bool.eq_false_or_eq_true (decide (x56 = [46, 46])) with hg57 | hg57
   ·replace ht := ite_t ht hg57
    rcases Bool.eq_false_or_eq_true (decide (0 < (List.length out : Int))) with hg58 | hg58
    ·replace ht := ite_t ht hg58
     obtain ⟨x59, hx59, ht⟩ := bind_some ht
     have e := Option.some.inj ht
     subst e
     exact rb [hE, hE, hN .rAt, hN (.ld (.str x56)), hE, hE, hY, hY, hN (.pk true), hE, hY, hY, hY, (.y, .rAt), (.y, (.ld (.str x59))), hY, hN (.pk true), hE] (!decide (x59 = [46, 46])) (.cons (rAtM (f := PV.str) hx56) (.cons (ownAt (f := PV.str) hx56) (hk3 hg57 (hk4 hg58 (.cons (rAtM (f := PV.str) hx59) (.cons hg58 (.cons (ownAt (f := PV.str) hx59) (hk2 hg58 .nil)))))))) rfl
    replace ht := ite_f ht hg58
    have e := Option.some.inj ht
    subst e
    exact rb [hE, hE, hN .rAt, hN (.ld (.str x56)), hE, hE, hY, hY, hN (.pk true), hE, hS, hS, hS, hS, hS, hS, hN (.pk false), hE] false (.cons (rAtM (f := PV.str) hx56) (.cons (ownAt (f := PV.str) hx56) (hk3 hg57 (.cons hg58 (hk6 hg58 .nil))))) rfl
   replace ht := ite_f ht hg57
   have e := Option.some.inj ht
   subst e
   exact rb [hE, hE, hN .rAt, hN (.ld (.str x56)), hE, hE, hS, hS, hN (.pk false), hE, hS, hS, hS, hS, hS, hS, hE, hE] false (.cons (rAtM (f := PV.str) hx56) (.cons (ownAt (f := PV.str) hx56) (hk3 hg57 (hk6 ff .nil)))) rfl
  clear ht
  refine x_cond _ rfl (fun hc61 => ?_) (fun hc61 => ?_)
  ·replace h := ite_t h hc61
   obtain ⟨x62, hx62, h⟩ := bind_some h
   refine x_rgt (st2 := { tm := [(0, .pv (.str p)), (4, .osl 0 0 (List.map PV.str x2).length), (6, .osl 1 0 (List.map PV.str x62).length), (7, .pv (.int .i64 i_1))], hp := [(0, some (.p none (List.map PV.str x2))), (1, some (.p none (List.map PV.str x62)))], nx := 2 }) (rg [hE, hE, hE, hN .cutR, hE] ({ tm := [(0, .pv (.str p)), (4, .osl 0 0 (List.map PV.str x2).length), (6, .osl 1 (0 + Int.toNat 0) (Int.toNat (IntKind.wrap .i64 ((List.length out : Int) - 1)) - Int.toNat 0)), (7, .pv (.int .i64 i_1))], hp := [(0, some (.p none (List.map PV.str x2))), (1, some (.p none (List.map PV.str out)))], nx := 2 }) (.cons (show 0 ≤ (0 : Int) ∧ (0 : Int) ≤ (IntKind.wrap .i64 ((List.length out : Int) - 1)) ∧ (IntKind.wrap .i64 ((List.length out : Int) - 1)) ≤ (((List.map PV.str out).length : Nat) : Int) from (cutR_ob hx62 (by simp))) .nil) (((Sub.of_eq (show ({ tm := [(0, .pv (.str p)), (4, .osl 0 0 (List.map PV.str x2).length), (6, .osl 1 0 (List.map PV.str x62).length), (7, .pv (.int .i64 i_1))], hp := [(0, some (.p none (List.map PV.str x2))), (1, some (.p none (List.map PV.str x62)))], nx := 2 } : VSt) = trimSt 1 (Int.toNat (IntKind.wrap .i64 ((List.length out : Int) - 1)) - Int.toNat 0) ({ tm := [(0, .pv (.str p)), (4, .osl 0 0 (List.map PV.str x2).length), (6, .osl 1 (0 + Int.toNat 0) (Int.toNat (IntKind.wrap .i64 ((List.length out : Int) - 1)) - Int.toNat 0)), (7, .pv (.int .i64 i_1))], hp := [(0, some (.p none (List.map PV.str x2))), (1, some (.p none (List.map PV.str out)))], nx := 2 }) from (show ({ tm := [(0, .pv (.str p)), (4, .osl 0 0 (List.map PV.str x2).length), (6, .osl 1 0 (List.map PV.str x62).length), (7, .pv (.int .i64 i_1))], hp := [(0, some (.p none (List.map PV.str x2))), (1, some (.p none (List.map PV.str x62)))], nx := 2 } : VSt) = { tm := [(0, .pv (.str p)), (4, .osl 0 0 (List.map PV.str x2).length), (6, .osl 1 (0 + Int.toNat 0) (Int.toNat (IntKind.wrap .i64 ((List.length out : Int) - 1)) - Int.toNat 0)), (7, .pv (.int .i64 i_1))], hp := [(0, some (.p none (List.map PV.str x2))), (1, some (.p none (List.take (Int.toNat (IntKind.wrap .i64 ((List.length out : Int) - 1)) - Int.toNat 0) (List.map PV.str out))))], nx := 2 } from (by rw [(cutR_f hx62).2, (cutR_f hx62).1]; try rfl)).trans (by kernel_rfl))).trans (Sub.trim 1 (Int.toNat (IntKind.wrap .i64 ((List.length out : Int) - 1)) - Int.toNat 0) _)))) ?_
   refine x_bn (x_bn (x_tn ?_))
   refine x_rgt (rgn [hE, hE, hE] (⟨[(0, pS p), (4, oL 0 PV.str x2), (6, oL 1 PV.str x62), (7, pI (IntKind.wrap .i64 (i_1 + 1)))], [(0, rL none PV.str x2), (1, rL none PV.str x62)], 2⟩)) ?_
   refine x_tn ?_
   exact ⟨_, (Option.some.inj h).symm, by kernel_rfl⟩
  replace h := ite_f h hc61
  obtain ⟨x63, hx63, h⟩ := bind_some h
  obtain ⟨t66, ht, h⟩ := bind_some h
  refine x_rgB (fun b_ => (⟨[(0, pS p), (4, oL 0 PV.str x2), (6, oL 1 PV.str out), (7, pI i_1), (97, pB b_)], [(0, rL none PV.str x2), (1, rL none PV.str out)], 2⟩ : VSt)) t66 ?_ ?_
  ·rcases Bool.eq_false_or_eq_true (decide (x63 = [46, 46])) with hg64 | hg64
   ·replace ht := ite_t ht hg64
    obtain ⟨x65, hx65, ht⟩ := bind_some ht
    have e := Option.some.inj ht
    subst e
    exact rb [hE, hE, hN .rAt, hN (.ld (.str x63)), hE, hE, hY, (.y, (.cal [] (.bool x65) true)), hN (.pk true), hE] x65 (.cons (rAtM (f := PV.str) hx63) (.cons (ownAt (f := PV.str) hx63) (hk2 hg64 (.cons (c59 hx65) (.cons hg64 .nil))))) rfl
   replace ht := ite_f ht hg64
   have e := Option.some.inj ht
   subst e
   exact rb [hE, hE, hN .rAt, hN (.ld (.str x63)), hE, hE, hS, hS, hN (.pk false), hE] false (.cons (rAtM (f := PV.str) hx63) (.cons (ownAt (f := PV.str) hx63) (hk3 hg64 .nil))) rfl
  clear ht
  refine x_cond _ rfl (fun hc67 => ?_) (fun hc67 => ?_)
  ·replace h := ite_t h hc67
   refine kw0 (⟨[(0, pS p), (4, oL 0 PV.str x2), (6, oL 1 PV.str out), (7, pI i_1)], [(0, rL none PV.str x2), (1, rL none PV.str out)], 2⟩) ?_
   refine x_skip (x_bn (x_bn (x_tn ?_)))
   refine x_rgt (rgn [hE, hE, hE] (⟨[(0, pS p), (4, oL 0 PV.str x2), (6, oL 1 PV.str out), (7, pI (IntKind.wrap .i64 (i_1 + 1)))], [(0, rL none PV.str x2), (1, rL none PV.str out)], 2⟩)) ?_
   refine x_tn ?_
   exact ⟨_, (Option.some.inj h).symm, by kernel_rfl⟩
  replace h := ite_f h hc67
  obtain ⟨x68, hx68, h⟩ := bind_some h
  obtain ⟨x69, hx69, h⟩ := bind_some h
  refine x_rgt (rg0 [hE, hE, hE, hN .rAt, hN (.ld (.str x68)), hE, hN (.app (List.map PV.str x69)), hE] (⟨[(0, pS p), (4, oL 0 PV.str x2), (6, oL 1 PV.str x69), (7, pI i_1)], [(0, rL none PV.str x2), (1, rL none PV.str x69)], 2⟩) (.cons (rAtM (f := PV.str) hx68) (.cons (ownAt (f := PV.str) hx68) (.cons (show List.take (List.map PV.str out).length (List.map PV.str out) ++ List.take 1 (List.drop 0 ([.str x68] : List PV)) = (List.map PV.str x69) from (app_ob hx69 (.all _) (.rfl _))) (.cons (show List.length (List.map PV.str x69) * 16 ≤ 140737488355328 from (by rw [List.length_map]; exact (appL_ok hx69).2.1)) (.cons (show List.length (List.map PV.str x69) ≤ 9223372036854775807 from (by rw [List.length_map]; exact (appL_ok hx69).2.2)) (.cons (le1 (List.map PV.str out)) (.cons (show 0 + 1 ≤ List.length ([.str x68] : List PV) from (by simp)) .nil)))))))) ?_
  refine x_bn (x_bn (x_tn ?_))
  refine x_rgt (rgn [hE, hE, hE] (⟨[(0, pS p), (4, oL 0 PV.str x2), (6, oL 1 PV.str x69), (7, pI (IntKind.wrap .i64 (i_1 + 1)))], [(0, rL none PV.str x2), (1, rL none PV.str x69)], 2⟩)) ?_
  refine x_tn ?_
  exact ⟨_, (Option.some.inj h).symm, by kernel_rfl⟩
 replace h := ite_f h hc50
 refine kw0 (⟨[(6, oL 0 PV.str out)], [(0, rL none PV.str out)], 1⟩) ?_
 refine x_exit ?_
 refine x_te (x_te ?_)
 replace h := done_map h hx49
 unfold ref03_Split_A71 at h
 refine x_bh ?_
 refine x_tn (x_seq ?_)
 refine x_rg (rg0 [hE, hN (.len (List.length out : Int)), hE] (⟨[(6, oL 0 PV.str out), (109, pB (decide (32 < (List.length out : Int))))], [(0, rL none PV.str out)], 1⟩) (.cons (lenM PV.str out) .nil)) ?_
 refine x_cond _ rfl (fun hc70 => ?_) (fun hc70 => ?_)
 ·replace h := ite_t h hc70
  refine x_rg (rgn [hE, hE] (⟨[(2, .pv (.nilsl)), (3, pI 4)], [], 0⟩)) ?_
  refine x_toret (x_tr ?_)
  obtain rfl := Option.some.inj h
  exact ret0 (.tup [.nilsl, .int .i64 4]) (.tup (.cons (.nilUsl _) (.cons (.refl _) .nil))) (fun _ => tup_ns (.cons (usl_ns (sh := none) (fun _ => rfl)) (.cons rfl .nil)))
 replace h := ite_f h hc70
 refine kw0 (⟨[(6, oL 0 PV.str out)], [(0, rL none PV.str out)], 1⟩) ?_
 refine x_skip (x_tn ?_)
 refine x_rg (rgn [hE, hE, hE] (⟨[(2, oL 0 PV.str out), (3, pI 0)], [(0, rL none PV.str out)], 1⟩)) ?_
 refine x_toret ?_
 obtain rfl := Option.some.inj h
 exact x_ret (.tup [.usl none (List.take (List.map PV.str out).length (List.map PV.str out)), .int .i64 0]) [0] [(List.map PV.str out).length ≤ List.length (List.map PV.str out)] (by kernel_rfl) (.cons (Nat.le_refl _) .nil) (by decide) (.tup (.cons (.of_eq (by rw [List.take_length])) (.cons (.refl _) .nil))) (fun _ => tup_ns (.cons (usl_ns (sh := none) (fun _ => rfl)) (.cons rfl .nil)))

theorem c67 {rooted : Bool} {l : (List Str)} {r : Str} (h : ref03_Build rooted l = some r) : CallOK Tryd.prog 67 [.bool rooted, .sl none (List.map PV.str l)] (.str r) true := by
 apply ok67
 unfold ref03_Build at h
 refine x_rg (rgn [hE] (⟨[(0, pB rooted), (1, pL none PV.str l)], [], 0⟩)) ?_
 refine x_rg (rgn [hE] (⟨[(0, pB rooted), (1, pL none PV.str l), (5, pS [])], [], 0⟩)) ?_
 refine x_seq ?_
 refine x_rg (rgn [hE] (⟨[(0, pB rooted), (1, pL none PV.str l), (5, pS []), (6, pI 0)], [], 0⟩)) ?_
 refine x_block ?_
 refine kw0 (⟨[(0, pB rooted), (1, pL none PV.str l), (5, pS []), (6, pI 0)], [], 0⟩) ?_
 refine x_loop (σ := (Str × Int)) h (fun s => ⟨[(0, pB rooted), (1, pL none PV.str l), (5, pS s.1), (6, pI s.2)], [], 0⟩) (by kernel_rfl) ?_ ?_
 ·rintro ⟨s_, i⟩
  kernel_rfl
 rintro ⟨s_, i⟩ x6 h hx6
 replace h : ref03_Build_L6 rooted l s_ i = some x6 := h
 unfold ref03_Build_L6 at h
 refine x_seq ?_
 refine x_rg (rg0 [hE, hE, hN (.len (List.length l : Int)), hE] (⟨[(0, pB rooted), (1, pL none PV.str l), (5, pS s_), (6, pI i), (10, pB (decide (i < (List.length l : Int))))], [], 0⟩) (.cons (lenM PV.str l) .nil)) ?_
 refine x_cond _ rfl (fun hc7 => ?_) (fun hc7 => ?_)
 ·replace h := ite_t h hc7
  refine kw0 (⟨[(0, pB rooted), (1, pL none PV.str l), (5, pS s_), (6, pI i)], [], 0⟩) ?_
  refine x_skip (x_tn (x_seq (x_block ?_)))
  refine x_join (τ := Str) (fun t => ref03_Build_K8 l i t = some x6) (fun t => { tm := [(0, .pv (.bool rooted)), (1, .pv (.sl none (List.map PV.str l))), (5, .pv (.str t)), (6, .pv (.int .i64 i))], hp := [], nx := 0 }) ?_ ?_
  ·rintro p9 h
   replace h : ref03_Build_K8 l i p9 = some x6 := h
   unfold ref03_Build_K8 at h
   obtain ⟨x10, hx10, h⟩ := bind_some h
   obtain ⟨x11, hx11, h⟩ := bind_some h
   refine x_rgt (rg0 [hE, hE, hE, hN (.pAt (.str x10)), hE, hN (.cat x11), hE] (⟨[(0, pB rooted), (1, pL none PV.str l), (5, pS x11), (6, pI i)], [], 0⟩) (.cons (lsAt_map (f := PV.str) hx10) (.cons hx11 .nil))) ?_
   refine x_bn (x_tn ?_)
   refine x_rgt (rgn [hE, hE, hE] (⟨[(0, pB rooted), (1, pL none PV.str l), (5, pS x11), (6, pI (IntKind.wrap .i64 (i + 1)))], [], 0⟩)) ?_
   refine x_tn ?_
   exact ⟨_, (Option.some.inj h).symm, by kernel_rfl⟩
  refine x_rg (rgn [hE, hE] (⟨[(0, pB rooted), (1, pL none PV.str l), (5, pS s_), (6, pI i), (14, pB (decide (0 < i)))], [], 0⟩)) ?_
  refine x_cond _ rfl (fun hc12 => ?_) (fun hc12 => ?_)
  ·replace h := ite_t h hc12
   obtain ⟨x13, hx13, h⟩ := bind_some h
   refine x_rgt (rg0 [hE, hN (.cat x13), hE] (⟨[(0, pB rooted), (1, pL none PV.str l), (5, pS x13), (6, pI i)], [], 0⟩) (.cons hx13 .nil)) ?_
   refine x_tn ?_
   exact ⟨x13, h, by kernel_rfl⟩
  replace h := ite_f h hc12
  refine kw0 (⟨[(0, pB rooted), (1, pL none PV.str l), (5, pS s_), (6, pI i)], [], 0⟩) ?_
  refine x_skip (x_tn ?_)
  exact ⟨s_, h, by kernel_rfl⟩
 replace h := ite_f h hc7
 refine kw0 (⟨[(0, pB rooted), (5, pS s_)], [], 0⟩) ?_
 refine x_exit ?_
 refine x_te (x_te ?_)
 replace h := done_map h hx6
 unfold ref03_Build_A17 at h
 refine x_bh ?_
 refine x_tn (x_seq ?_)
 refine x_rg (rgn [hE] (⟨[(5, pS s_), (23, pB rooted)], [], 0⟩)) ?_
 refine x_cond _ rfl (fun hc14 => ?_) (fun hc14 => ?_)
 ·replace h := ite_t h hc14
  obtain ⟨x15, hx15, h⟩ := bind_some h
  refine x_rg (rg0 [hE, hN (.cat x15), hE] (⟨[(4, pS x15)], [], 0⟩) (.cons hx15 .nil)) ?_
  refine x_toret (x_tr ?_)
  obtain rfl := Option.some.inj h
  exact ret0 (.str x15) (.refl _) (fun _ => rfl)
 replace h := ite_f h hc14
 refine kw0 (⟨[(5, pS s_)], [], 0⟩) ?_
 refine x_skip (x_tn (x_seq ?_))
 refine x_rg (rgn [hE, hE] (⟨[(5, pS s_), (27, pB (decide (s_ = [])))], [], 0⟩)) ?_
 refine x_cond _ rfl (fun hc16 => ?_) (fun hc16 => ?_)
 ·replace h := ite_t h hc16
  refine x_rg (rgn [hE] (⟨[(4, pS [46])], [], 0⟩)) ?_
  refine x_toret (x_tr ?_)
  obtain rfl := Option.some.inj h
  exact ret0 (.str [46]) (.refl _) (fun _ => rfl)
 replace h := ite_f h hc16
 refine kw0 (⟨[(5, pS s_)], [], 0⟩) ?_
 refine x_skip (x_tn ?_)
 refine x_rg (rgn [hE, hE] (⟨[(4, pS s_)], [], 0⟩)) ?_
 refine x_toret ?_
 obtain rfl := Option.some.inj h
 exact ret0 (.str s_) (.refl _) (fun _ => rfl)

theorem c58 {p : Str} {r : (Str × Int)} (h : ref03_Clean p = some r) : CallOK Tryd.prog 58 [.str p] (.tup [.str r.1, .int .i64 r.2]) true := by
 apply ok58
 unfold ref03_Clean at h
 refine x_rg (rgn [hE, hE] (⟨[(0, pS p)], [], 0⟩)) ?_
 obtain ⟨x1, hx1, h⟩ := bind_some h
 refine x_rg (rg0 [hE, hN (.cal [] (.tup [.usl none (List.map PV.str x1.1), .int .i64 x1.2]) true), hE, hE, hE, hE, hE] (⟨[(0, pS p), (4, oL 0 PV.str x1.1), (5, pI x1.2)], [(0, rL none PV.str x1.1)], 1⟩) (.cons (c66 hx1) .nil)) ?_
 refine x_seq ?_
 refine x_rg (rgn [hE, hE] (⟨[(0, pS p), (4, oL 0 PV.str x1.1), (5, pI x1.2), (12, pB (!decide (x1.2 = 0)))], [(0, rL none PV.str x1.1)], 1⟩)) ?_
 refine x_cond _ rfl (fun hc2 => ?_) (fun hc2 => ?_)
 ·replace h := ite_t h hc2
  refine x_rg (rgn [hE, hE, hE] (⟨[(2, pS []), (3, pI x1.2)], [], 0⟩)) ?_
  refine x_toret (x_tr ?_)
  obtain rfl := Option.some.inj h
  exact ret0 (.tup [.str [], .int .i64 x1.2]) (.tup (.cons (.refl _) (.cons (.refl _) .nil))) (fun _ => rfl)
 replace h := ite_f h hc2
 refine kw0 (⟨[(0, pS p), (4, oL 0 PV.str x1.1)], [(0, rL none PV.str x1.1)], 1⟩) ?_
 refine x_skip (x_tn ?_)
 obtain ⟨x3, hx3, h⟩ := bind_some h
 obtain ⟨x4, hx4, h⟩ := bind_some h
 refine x_rg (rg0 [hE, hN (.cal [] (.bool x3) true), hE, hN (.call [] [.bool x3, .sl none (List.map PV.str x1.1)] (.str x4) true), hE, hE] (⟨[(2, pS x4), (3, pI 0)], [], 0⟩) (.cons (c59 hx3) (.cons (show LesA [.bool x3, .sl none (List.take (List.map PV.str x1.1).length (List.drop 0 (List.map PV.str x1.1)))] [.bool x3, .sl none (List.map PV.str x1.1)] from (.cons (.refl _) (.cons (.of_eq (by rw [List.drop_zero, List.take_length])) .nil))) (.cons (c67 hx4) (.cons (le0 (List.map PV.str x1.1)) .nil))))) ?_
 refine x_toret ?_
 obtain rfl := Option.some.inj h
 exact ret0 (.tup [.str x4, .int .i64 0]) (.tup (.cons (.refl _) (.cons (.refl _) .nil))) (fun _ => rfl)

theorem c30 {p : api_Procs} {x_ : api_Proc} {r : Bool} (h : ref30_fields p x_ = some r) : CallOK Tryd.prog 30 [enc_api_Procs p, enc_api_Proc x_] (.bool r) true := by
 apply ok30
 unfold ref30_fields at h
 refine x_rg (rgn [hE, hE, hE] (⟨[(2, .optr 0 0 0), (3, .optr 1 0 0)], [(0, some (.p (some 3) [enc_api_Procs p])), (1, some (.p (some 13) [enc_api_Proc x_]))], 2⟩)) ?_
 refine x_seq ?_
 refine x_rgB (fun b_ => (⟨[(2, .optr 0 0 0), (3, .optr 1 0 0), (21, pB b_)], [(0, some (.p (some 3) [enc_api_Procs p])), (1, some (.p (some 13) [enc_api_Proc x_]))], 2⟩ : VSt)) ((!decide (x_.State = 1)) && ((!decide (x_.State = 2)) && (!decide (x_.State = 3)))) ?_ ?_
 ·rcases Bool.eq_false_or_eq_true (!decide (x_.State = 1)) with hg1 | hg1
  ·rcases Bool.eq_false_or_eq_true (!decide (x_.State = 2)) with hg2 | hg2
   ·exact rb [hE, hE, hE, hE, hY, hY, hY, hN (.pk true), hE, hY, hY, hY, hN (.pk true)] (!decide (x_.State = 3)) (hk4 hg1 (hk4 hg2 .nil)) (by simp only [hg1, hg2, bs, reduceIte])
   exact rb [hE, hE, hE, hE, hY, hY, hY, hN (.pk true), hE, hS, hS, hS, hN (.pk false)] false (hk4 hg1 (hk4 hg2 .nil)) (by simp only [hg1, hg2, bs, reduceIte])
  exact rb [hE, hE, hE, hE, hS, hS, hS, hN (.pk false), hE, hS, hS, hS, hE] false (hk4 hg1 (hk3 ff .nil)) (by simp only [hg1, bs, reduceIte])
 refine x_cond _ rfl (fun hc4 => ?_) (fun hc4 => ?_)
 ·replace h := ite_t h hc4
  refine x_rg (rgn [hE] (⟨[(4, pB false)], [], 0⟩)) ?_
  refine x_toret (x_tr ?_)
  obtain rfl := Option.some.inj h
  exact ret0 (.bool false) (.refl _) (fun _ => rfl)
 replace h := ite_f h hc4
 refine kw0 (⟨[(2, .optr 0 0 0), (3, .optr 1 0 0)], [(0, some (.p (some 3) [enc_api_Procs p])), (1, some (.p (some 13) [enc_api_Proc x_]))], 2⟩) ?_
 refine x_skip (x_tn (x_seq ?_))
 obtain ⟨x5, hx5, h⟩ := bind_some h
 obtain ⟨t22, ht, h⟩ := bind_some h
 refine x_rgB (fun b_ => (⟨[(2, .optr 0 0 0), (3, .optr 1 0 0), (62, pB b_)], [(0, some (.p (some 3) [enc_api_Procs p])), (1, some (.p (some 13) [enc_api_Proc x_]))], 2⟩ : VSt)) t22 ?_ ?_
 ·rcases Bool.eq_false_or_eq_true (!x5) with hg6 | hg6
  ·replace ht := ite_t ht hg6
   have e := Option.some.inj ht
   subst e
   exact rb [hE, hE, hN (.cal [] (.bool x5) true), hE, hE, hS, hS, hS, hS, (.u, .e), (.u, .e), (.u, .e), (.u, .e), hS, hN (.pk true), hE, hS, hS, hS, hS, hS, hE, hE, hS, hS, hS, hS, hS, hE, hE, hS, hS, hS, hS, hS, hE, hE, hS, hS, hS, hE] true (.cons (c24 hx5) (hk6 hg6 (hk2 tt (hk8 tt (hk8 tt .nil))))) rfl
  replace ht := ite_f ht hg6
  rcases Bool.eq_false_or_eq_true (!decide (x_.Name = [])) with hg7 | hg7
  ·replace ht := ite_t ht hg7
   obtain ⟨x8, hx8, ht⟩ := bind_some ht
   rcases Bool.eq_false_or_eq_true (!x8) with hg9 | hg9
   ·replace ht := ite_t ht hg9
    have e := Option.some.inj ht
    subst e
    exact rb [hE, hE, hN (.cal [] (.bool x5) true), hE, hE, hY, hY, hY, hY, hY, hY, (.y, (.cal [] (.bool x8) true)), hY, (.y, (.pk true)), hN (.pk false), hE, hS, hS, hS, hS, hS, hN (.pk true), hE, hS, hS, hS, hS, hS, hE, hE, hS, hS, hS, hS, hS, hE, hE, hS, hS, hS, hE] true (.cons (c24 hx5) (hk4 hg6 (hk3 hg7 (.cons (c56 hx8) (.cons hg7 (.cons hg6 (.cons hg7 (.cons hg6 (hk6 hg9 (hk5 tt (hk8 tt .nil))))))))))) rfl
   replace ht := ite_f ht hg9
   obtain ⟨x10, hx10, ht⟩ := bind_some ht
   rcases Bool.eq_false_or_eq_true (!x10) with hg11 | hg11
   ·replace ht := ite_t ht hg11
    have e := Option.some.inj ht
    subst e
    exact rb [hE, hE, hN (.cal [] (.bool x5) true), hE, hE, hY, hY, hY, hY, hY, hY, (.y, (.cal [] (.bool x8) true)), hY, (.y, (.pk true)), hN (.pk false), hE, hY, hY, hY, (.y, (.cal [] (.bool x10) true)), hY, hN (.pk false), hE, hS, hS, hS, hS, hS, hN (.pk true), hE, hS, hS, hS, hS, hS, hE, hE, hS, hS, hS, hE] true (.cons (c24 hx5) (hk4 hg6 (hk3 hg7 (.cons (c56 hx8) (.cons hg7 (.cons hg6 (.cons hg7 (.cons hg6 (hk4 hg9 (.cons (c57 hx10) (hk2 hg9 (hk6 hg11 (hk8 tt .nil))))))))))))) rfl
   replace ht := ite_f ht hg11
   obtain ⟨x12, hx12, ht⟩ := bind_some ht
   rcases Bool.eq_false_or_eq_true (!x12) with hg13 | hg13
   ·replace ht := ite_t ht hg13
    have e := Option.some.inj ht
    subst e
    exact rb [hE, hE, hN (.cal [] (.bool x5) true), hE, hE, hY, hY, hY, hY, hY, hY, (.y, (.cal [] (.bool x8) true)), hY, (.y, (.pk true)), hN (.pk false), hE, hY, hY, hY, (.y, (.cal [] (.bool x10) true)), hY, hN (.pk false), hE, hY, hY, hY, (.y, (.cal [] (.bool x12) true)), hY, hN (.pk false), hE, hS, hS, hS, hS, hS, hN (.pk true), hE, hS, hS, hS, hE] true (.cons (c24 hx5) (hk4 hg6 (hk3 hg7 (.cons (c56 hx8) (.cons hg7 (.cons hg6 (.cons hg7 (.cons hg6 (hk4 hg9 (.cons (c57 hx10) (hk2 hg9 (hk4 hg11 (.cons (c57 hx12) (hk2 hg11 (hk6 hg13 (hk3 tt .nil)))))))))))))))) rfl
   replace ht := ite_f ht hg13
   obtain ⟨x14, hx14, ht⟩ := bind_some ht
   rcases Bool.eq_false_or_eq_true (!x14) with hg15 | hg15
   ·replace ht := ite_t ht hg15
    have e := Option.some.inj ht
    subst e
    exact rb [hE, hE, hN (.cal [] (.bool x5) true), hE, hE, hY, hY, hY, hY, hY, hY, (.y, (.cal [] (.bool x8) true)), hY, (.y, (.pk true)), hN (.pk false), hE, hY, hY, hY, (.y, (.cal [] (.bool x10) true)), hY, hN (.pk false), hE, hY, hY, hY, (.y, (.cal [] (.bool x12) true)), hY, hN (.pk false), hE, hY, hY, hY, (.y, (.cal [] (.bool x14) true)), hY, hN (.pk false), hE, hS, hS, hS, hN (.pk true)] true (.cons (c24 hx5) (hk4 hg6 (hk3 hg7 (.cons (c56 hx8) (.cons hg7 (.cons hg6 (.cons hg7 (.cons hg6 (hk4 hg9 (.cons (c57 hx10) (hk2 hg9 (hk4 hg11 (.cons (c57 hx12) (hk2 hg11 (hk4 hg13 (.cons (c57 hx14) (hk2 hg13 (hk4 hg15 .nil)))))))))))))))))) rfl
   replace ht := ite_f ht hg15
   have e := Option.some.inj ht
   subst e
   exact rb [hE, hE, hN (.cal [] (.bool x5) true), hE, hE, hY, hY, hY, hY, hY, hY, (.y, (.cal [] (.bool x8) true)), hY, (.y, (.pk true)), hN (.pk false), hE, hY, hY, hY, (.y, (.cal [] (.bool x10) true)), hY, hN (.pk false), hE, hY, hY, hY, (.y, (.cal [] (.bool x12) true)), hY, hN (.pk false), hE, hY, hY, hY, (.y, (.cal [] (.bool x14) true)), hY, hN (.pk false), hE, hY, hY, hY, hN (.pk false)] (!decide (x_.Status = [])) (.cons (c24 hx5) (hk4 hg6 (hk3 hg7 (.cons (c56 hx8) (.cons hg7 (.cons hg6 (.cons hg7 (.cons hg6 (hk4 hg9 (.cons (c57 hx10) (hk2 hg9 (hk4 hg11 (.cons (c57 hx12) (hk2 hg11 (hk4 hg13 (.cons (c57 hx14) (hk2 hg13 (hk4 hg15 .nil)))))))))))))))))) rfl
  replace ht := ite_f ht hg7
  obtain ⟨x16, hx16, ht⟩ := bind_some ht
  rcases Bool.eq_false_or_eq_true (!x16) with hg17 | hg17
  ·replace ht := ite_t ht hg17
   have e := Option.some.inj ht
   subst e
   exact rb [hE, hE, hN (.cal [] (.bool x5) true), hE, hE, hY, hY, hY, hY, hS, hS, hS, hS, (.y, (.pk false)), hN (.pk false), hE, hY, hY, hY, (.y, (.cal [] (.bool x16) true)), hY, hE, hE, hS, hS, hS, hS, hS, hN (.pk true), hE, hS, hS, hS, hS, hS, hE, hE, hS, hS, hS, hE] true (.cons (c24 hx5) (hk4 hg6 (hk4 hg7 (.cons hg6 (.cons hg7 (.cons hg6 (hk4 ff (.cons (c57 hx16) (.cons ff (hk6 hg17 (hk8 tt .nil))))))))))) rfl
  replace ht := ite_f ht hg17
  obtain ⟨x18, hx18, ht⟩ := bind_some ht
  rcases Bool.eq_false_or_eq_true (!x18) with hg19 | hg19
  ·replace ht := ite_t ht hg19
   have e := Option.some.inj ht
   subst e
   exact rb [hE, hE, hN (.cal [] (.bool x5) true), hE, hE, hY, hY, hY, hY, hS, hS, hS, hS, (.y, (.pk false)), hN (.pk false), hE, hY, hY, hY, (.y, (.cal [] (.bool x16) true)), hY, hE, hE, hY, hY, hY, (.y, (.cal [] (.bool x18) true)), hY, hN (.pk false), hE, hS, hS, hS, hS, hS, hN (.pk true), hE, hS, hS, hS, hE] true (.cons (c24 hx5) (hk4 hg6 (hk4 hg7 (.cons hg6 (.cons hg7 (.cons hg6 (hk4 ff (.cons (c57 hx16) (.cons ff (hk4 hg17 (.cons (c57 hx18) (hk2 hg17 (hk6 hg19 (hk3 tt .nil)))))))))))))) rfl
  replace ht := ite_f ht hg19
  obtain ⟨x20, hx20, ht⟩ := bind_some ht
  rcases Bool.eq_false_or_eq_true (!x20) with hg21 | hg21
  ·replace ht := ite_t ht hg21
   have e := Option.some.inj ht
   subst e
   exact rb [hE, hE, hN (.cal [] (.bool x5) true), hE, hE, hY, hY, hY, hY, hS, hS, hS, hS, (.y, (.pk false)), hN (.pk false), hE, hY, hY, hY, (.y, (.cal [] (.bool x16) true)), hY, hE, hE, hY, hY, hY, (.y, (.cal [] (.bool x18) true)), hY, hN (.pk false), hE, hY, hY, hY, (.y, (.cal [] (.bool x20) true)), hY, hN (.pk false), hE, hS, hS, hS, hN (.pk true)] true (.cons (c24 hx5) (hk4 hg6 (hk4 hg7 (.cons hg6 (.cons hg7 (.cons hg6 (hk4 ff (.cons (c57 hx16) (.cons ff (hk4 hg17 (.cons (c57 hx18) (hk2 hg17 (hk4 hg19 (.cons (c57 hx20) (hk2 hg19 (hk4 hg21 .nil)))))))))))))))) rfl
  replace ht := ite_f ht hg21
  have e := Option.some.inj ht
  subst e
  exact rb [hE, hE, hN (.cal [] (.bool x5) true), hE, hE, hY, hY, hY, hY, hS, hS, hS, hS, (.y, (.pk false)), hN (.pk false), hE, hY, hY, hY, (.y, (.cal [] (.bool x16) true)), hY, hE, hE, hY, hY, hY, (.y, (.cal [] (.bool x18) true)), hY, hN (.pk false), hE, hY, hY, hY, (.y, (.cal [] (.bool x20) true)), hY, hN (.pk false), hE, hY, hY, hY, hN (.pk false)] (!decide (x_.Status = [])) (.cons (c24 hx5) (hk4 hg6 (hk4 hg7 (.cons hg6 (.cons hg7 (.cons hg6 (hk4 ff (.cons (c57 hx16) (.cons ff (hk4 hg17 (.cons (c57 hx18) (hk2 hg17 (hk4 hg19 (.cons (c57 hx20) (hk2 hg19 (hk4 hg21 .nil)))))))))))))))) rfl
 clear ht
 refine x_cond _ rfl (fun hc23 => ?_) (fun hc23 => ?_)
 ·replace h := ite_t h hc23
  refine x_rg (rgn [hE] (⟨[(4, pB false)], [], 0⟩)) ?_
  refine x_toret (x_tr ?_)
  obtain rfl := Option.some.inj h
  exact ret0 (.bool false) (.refl _) (fun _ => rfl)
 replace h := ite_f h hc23
 refine kw0 (⟨[(2, .optr 0 0 0), (3, .optr 1 0 0)], [(0, some (.p (some 3) [enc_api_Procs p])), (1, some (.p (some 13) [enc_api_Proc x_]))], 2⟩) ?_
 refine x_skip (x_tn ?_)
 obtain ⟨x24, hx24, h⟩ := bind_some h
 refine x_rg (rg0 [hE, hE, hN (.cal [] (.tup [.str x24.1, .int .i64 x24.2]) true), hE, hE, hE, hE, hE] (⟨[(2, .optr 0 0 0), (3, .optr 1 0 0), (5, pS x24.1), (6, pI x24.2)], [(0, some (.p (some 3) [enc_api_Procs p])), (1, some (.p (some 13) [enc_api_Proc x_]))], 2⟩) (.cons (c58 hx24) .nil)) ?_
 refine x_seq ?_
 obtain ⟨t30, ht, h⟩ := bind_some h
 refine x_rgB (fun b_ => (⟨[(2, .optr 0 0 0), (3, .optr 1 0 0), (93, pB b_)], [(0, some (.p (some 3) [enc_api_Procs p])), (1, some (.p (some 13) [enc_api_Proc x_]))], 2⟩ : VSt)) t30 ?_ ?_
 ·rcases Bool.eq_false_or_eq_true (!decide (x24.2 = 0)) with hg25 | hg25
  ·replace ht := ite_t ht hg25
   have e := Option.some.inj ht
   subst e
   exact rb [hE, hE, hE, hS, hS, hS, hS, hN (.pk true), hE, hS, hS, hS, hE, hE, hS, hS, hS, hS, hE, hE, hS, hS, hS, hS, hE] true (hk5 hg25 (hk3 tt (hk8 tt .nil))) rfl
  replace ht := ite_f ht hg25
  rcases Bool.eq_false_or_eq_true (!decide (x24.1 = x_.Cwd)) with hg26 | hg26
  ·replace ht := ite_t ht hg26
   have e := Option.some.inj ht
   subst e
   exact rb [hE, hE, hE, hY, hY, hY, hY, hN (.pk false), hE, hS, hS, hS, hN (.pk true), hE, hS, hS, hS, hS, hE, hE, hS, hS, hS, hS, hE] true (hk5 hg25 (hk4 hg26 (hk8 tt .nil))) rfl
  replace ht := ite_f ht hg26
  obtain ⟨x27, hx27, ht⟩ := bind_some ht
  rcases Bool.eq_false_or_eq_true (!x27) with hg28 | hg28
  ·replace ht := ite_t ht hg28
   have e := Option.some.inj ht
   subst e
   exact rb [hE, hE, hE, hY, hY, hY, hY, hN (.pk false), hE, hY, (.y, (.cal [] (.bool x27) true)), hY, hN (.pk false), hE, hS, hS, hS, hS, hN (.pk true), hE, hS, hS, hS, hS, hE] true (hk5 hg25 (hk2 hg26 (.cons (c59 hx27) (hk2 hg26 (hk5 hg28 (hk4 tt .nil)))))) rfl
  replace ht := ite_f ht hg28
  rcases Bool.eq_false_or_eq_true (decide (8 < (List.length x_.Notes : Int))) with hg29 | hg29
  ·replace ht := ite_t ht hg29
   have e := Option.some.inj ht
   subst e
   exact rb [hE, hE, hE, hY, hY, hY, hY, hN (.pk false), hE, hY, (.y, (.cal [] (.bool x27) true)), hY, hN (.pk false), hE, hY, hY, (.y, (.len (List.length x_.Notes : Int))), hY, hN (.pk false), hE, hS, hS, hS, hS, hN (.pk true)] true (hk5 hg25 (hk2 hg26 (.cons (c59 hx27) (hk2 hg26 (hk3 hg28 (.cons (lenM PV.str x_.Notes) (hk2 hg28 (hk5 hg29 .nil)))))))) rfl
  replace ht := ite_f ht hg29
  have e := Option.some.inj ht
  subst e
  exact rb [hE, hE, hE, hY, hY, hY, hY, hN (.pk false), hE, hY, (.y, (.cal [] (.bool x27) true)), hY, hN (.pk false), hE, hY, hY, (.y, (.len (List.length x_.Notes : Int))), hY, hN (.pk false), hE, hY, hY, (.y, (.len (List.length x_.Waits : Int))), hY, hN (.pk false)] (decide (64 < (List.length x_.Waits : Int))) (hk5 hg25 (hk2 hg26 (.cons (c59 hx27) (hk2 hg26 (hk3 hg28 (.cons (lenM PV.str x_.Notes) (hk2 hg28 (hk3 hg29 (.cons (lenM enc_api_Wait x_.Waits) (hk2 hg29 .nil)))))))))) rfl
 clear ht
 refine x_cond _ rfl (fun hc31 => ?_) (fun hc31 => ?_)
 ·replace h := ite_t h hc31
  refine x_rg (rgn [hE] (⟨[(4, pB false)], [], 0⟩)) ?_
  refine x_toret (x_tr ?_)
  obtain rfl := Option.some.inj h
  exact ret0 (.bool false) (.refl _) (fun _ => rfl)
 replace h := ite_f h hc31
 refine kw0 (⟨[(2, .optr 0 0 0), (3, .optr 1 0 0)], [(0, some (.p (some 3) [enc_api_Procs p])), (1, some (.p (some 13) [enc_api_Proc x_]))], 2⟩) ?_
 refine x_skip (x_tn (x_seq ?_))
 refine x_rg (rgn [hE] (⟨[(2, .optr 0 0 0), (3, .optr 1 0 0), (7, pI 0)], [(0, some (.p (some 3) [enc_api_Procs p])), (1, some (.p (some 13) [enc_api_Proc x_]))], 2⟩)) ?_
 refine x_block ?_
 refine kw0 (⟨[(2, .optr 0 0 0), (3, .optr 1 0 0), (7, pI 0)], [(0, some (.p (some 3) [enc_api_Procs p])), (1, some (.p (some 13) [enc_api_Proc x_]))], 2⟩) ?_
 refine x_loop (σ := Int) h (fun s => ⟨[(2, .optr 0 0 0), (3, .optr 1 0 0), (7, pI s)], [(0, some (.p (some 3) [enc_api_Procs p])), (1, some (.p (some 13) [enc_api_Proc x_]))], 2⟩) (by kernel_rfl) ?_ ?_
 ·rintro i
  kernel_rfl
 rintro i x36 h hx36
 replace h : ref30_fields_L36 p x_ i = some x36 := h
 unfold ref30_fields_L36 at h
 refine x_seq ?_
 refine x_rg (rg0 [hE, hE, hE, hN (.len (List.length x_.Notes : Int)), hE] (⟨[(2, .optr 0 0 0), (3, .optr 1 0 0), (7, pI i), (98, pB (decide (i < (List.length x_.Notes : Int))))], [(0, some (.p (some 3) [enc_api_Procs p])), (1, some (.p (some 13) [enc_api_Proc x_]))], 2⟩) (.cons (lenM PV.str x_.Notes) .nil)) ?_
 refine x_cond _ rfl (fun hc37 => ?_) (fun hc37 => ?_)
 ·replace h := ite_t h hc37
  refine kw0 (⟨[(2, .optr 0 0 0), (3, .optr 1 0 0), (7, pI i)], [(0, some (.p (some 3) [enc_api_Procs p])), (1, some (.p (some 13) [enc_api_Proc x_]))], 2⟩) ?_
  refine x_skip (x_tn (x_seq (x_block ?_)))
  obtain ⟨x38, hx38, h⟩ := bind_some h
  refine x_rg (rg0 [hE, hE, hE, hN (.pAt (.str x38)), hE, hE, hE] (⟨[(2, .optr 0 0 0), (3, .optr 1 0 0), (7, pI i), (107, pB (decide (1024 < (List.length x38 : Int))))], [(0, some (.p (some 3) [enc_api_Procs p])), (1, some (.p (some 13) [enc_api_Proc x_]))], 2⟩) (.cons (lsAt_map (f := PV.str) hx38) .nil)) ?_
  refine x_cond _ rfl (fun hc39 => ?_) (fun hc39 => ?_)
  ·replace h := ite_t h hc39
   refine x_rg (rgn [hE] (⟨[(4, pB false)], [], 0⟩)) ?_
   refine x_toret (x_br (x_tr (x_tr ?_)))
   replace h := done_leaf h hx36
   refine x_br (x_tr ?_)
   obtain rfl := Option.some.inj h
   exact ret0 (.bool false) (.refl _) (fun _ => rfl)
  replace h := ite_f h hc39
  refine kw0 (⟨[(2, .optr 0 0 0), (3, .optr 1 0 0), (7, pI i)], [(0, some (.p (some 3) [enc_api_Procs p])), (1, some (.p (some 13) [enc_api_Proc x_]))], 2⟩) ?_
  refine x_skip (x_bn (x_tn ?_))
  refine x_rgt (rgn [hE, hE, hE] (⟨[(2, .optr 0 0 0), (3, .optr 1 0 0), (7, pI (IntKind.wrap .i64 (i + 1)))], [(0, some (.p (some 3) [enc_api_Procs p])), (1, some (.p (some 13) [enc_api_Proc x_]))], 2⟩)) ?_
  refine x_tn ?_
  exact ⟨_, (Option.some.inj h).symm, by kernel_rfl⟩
 replace h := ite_f h hc37
 refine kw0 (⟨[(2, .optr 0 0 0), (3, .optr 1 0 0)], [(0, some (.p (some 3) [enc_api_Procs p])), (1, some (.p (some 13) [enc_api_Proc x_]))], 2⟩) ?_
 refine x_exit ?_
 refine x_te (x_te ?_)
 replace h := done_map h hx36
 refine x_bh ?_
 refine x_tn (x_seq ?_)
 refine x_rg (rgn [hE] (⟨[(2, .optr 0 0 0), (3, .optr 1 0 0), (8, pI 0)], [(0, some (.p (some 3) [enc_api_Procs p])), (1, some (.p (some 13) [enc_api_Proc x_]))], 2⟩)) ?_
 refine x_block ?_
 refine kw0 (⟨[(2, .optr 0 0 0), (3, .optr 1 0 0), (8, pI 0)], [(0, some (.p (some 3) [enc_api_Procs p])), (1, some (.p (some 13) [enc_api_Proc x_]))], 2⟩) ?_
 refine x_loop (σ := Int) h (fun s => ⟨[(2, .optr 0 0 0), (3, .optr 1 0 0), (8, pI s)], [(0, some (.p (some 3) [enc_api_Procs p])), (1, some (.p (some 13) [enc_api_Proc x_]))], 2⟩) (by kernel_rfl) ?_ ?_
 ·rintro i_1
  kernel_rfl
 rintro i_1 x49 h hx49
 replace h : ref30_fields_L49 p x_ i_1 = some x49 := h
 unfold ref30_fields_L49 at h
 refine x_seq ?_
 refine x_rg (rg0 [hE, hE, hE, hN (.len (List.length x_.Waits : Int)), hE] (⟨[(2, .optr 0 0 0), (3, .optr 1 0 0), (8, pI i_1), (112, pB (decide (i_1 < (List.length x_.Waits : Int))))], [(0, some (.p (some 3) [enc_api_Procs p])), (1, some (.p (some 13) [enc_api_Proc x_]))], 2⟩) (.cons (lenM enc_api_Wait x_.Waits) .nil)) ?_
 refine x_cond _ rfl (fun hc50 => ?_) (fun hc50 => ?_)
 ·replace h := ite_t h hc50
  refine kw0 (⟨[(2, .optr 0 0 0), (3, .optr 1 0 0), (8, pI i_1)], [(0, some (.p (some 3) [enc_api_Procs p])), (1, some (.p (some 13) [enc_api_Proc x_]))], 2⟩) ?_
  refine x_skip (x_tn (x_seq (x_block ?_)))
  obtain ⟨x51, hx51, h⟩ := bind_some h
  obtain ⟨t56, ht, h⟩ := bind_some h
  refine x_rgB (fun b_ => (⟨[(2, .optr 0 0 0), (3, .optr 1 0 0), (8, pI i_1), (142, pB b_)], [(0, some (.p (some 3) [enc_api_Procs p])), (1, some (.p (some 13) [enc_api_Proc x_]))], 2⟩ : VSt)) t56 ?_ ?_
  ·rcases Bool.eq_false_or_eq_true (decide (x51.Id < 1)) with hg52 | hg52
   ·replace ht := ite_t ht hg52
    have e := Option.some.inj ht
    subst e
    exact rb [hE, hE, hE, hN (.pAt (enc_api_Wait x51)), hE, hE, hE, hE, hS, hS, hS, hS, hS, hS, hS, hS, hS, hN (.pk true), hE, hS, hS, hS, hS, hS, hS, hS, hS, hE] true (.cons (lsAt_map (f := enc_api_Wait) hx51) (hk2 hg52 (hk8 hg52 (hk8 tt .nil)))) rfl
   replace ht := ite_f ht hg52
   obtain ⟨x53, hx53, ht⟩ := bind_some ht
   rcases Bool.eq_false_or_eq_true (decide (p.Next ≤ x53.Id)) with hg54 | hg54
   ·replace ht := ite_t ht hg54
    have e := Option.some.inj ht
    subst e
    exact rb [hE, hE, hE, hN (.pAt (enc_api_Wait x51)), hE, hE, hE, hE, hY, hY, hY, (.y, (.pAt (enc_api_Wait x53))), hY, hY, hY, hY, hY, hN (.pk false), hE, hS, hS, hS, hS, hS, hS, hS, hS, hN (.pk true)] true (.cons (lsAt_map (f := enc_api_Wait) hx51) (hk4 hg52 (.cons (lsAt_map (f := enc_api_Wait) hx53) (hk6 hg52 (.cons hg54 (hk8 hg54 .nil)))))) rfl
   replace ht := ite_f ht hg54
   obtain ⟨x55, hx55, ht⟩ := bind_some ht
   have e := Option.some.inj ht
   subst e
   exact rb [hE, hE, hE, hN (.pAt (enc_api_Wait x51)), hE, hE, hE, hE, hY, hY, hY, (.y, (.pAt (enc_api_Wait x53))), hY, hY, hY, hY, hY, hN (.pk false), hE, hY, hY, hY, (.y, (.pAt (enc_api_Wait x55))), hY, hY, hY, hY, hN (.pk false)] (decide (1024 < (List.length x55.Status : Int))) (.cons (lsAt_map (f := enc_api_Wait) hx51) (hk4 hg52 (.cons (lsAt_map (f := enc_api_Wait) hx53) (hk6 hg52 (hk4 hg54 (.cons (lsAt_map (f := enc_api_Wait) hx55) (hk5 hg54 .nil))))))) rfl
  clear ht
  refine x_cond _ rfl (fun hc57 => ?_) (fun hc57 => ?_)
  ·replace h := ite_t h hc57
   refine x_rg (rgn [hE] (⟨[(4, pB false)], [], 0⟩)) ?_
   refine x_toret (x_br (x_tr (x_tr ?_)))
   replace h := done_leaf h hx49
   refine x_br (x_tr ?_)
   obtain rfl := Option.some.inj h
   exact ret0 (.bool false) (.refl _) (fun _ => rfl)
  replace h := ite_f h hc57
  refine kw0 (⟨[(2, .optr 0 0 0), (3, .optr 1 0 0), (8, pI i_1)], [(0, some (.p (some 3) [enc_api_Procs p])), (1, some (.p (some 13) [enc_api_Proc x_]))], 2⟩) ?_
  refine x_skip (x_bn (x_tn ?_))
  refine x_rgt (rgn [hE, hE, hE] (⟨[(2, .optr 0 0 0), (3, .optr 1 0 0), (8, pI (IntKind.wrap .i64 (i_1 + 1)))], [(0, some (.p (some 3) [enc_api_Procs p])), (1, some (.p (some 13) [enc_api_Proc x_]))], 2⟩)) ?_
  refine x_tn ?_
  exact ⟨_, (Option.some.inj h).symm, by kernel_rfl⟩
 replace h := ite_f h hc50
 refine kw0 (⟨[], [], 0⟩) ?_
 refine x_exit ?_
 refine x_te (x_te ?_)
 replace h := done_leaf h hx49
 refine x_bh ?_
 refine x_tn ?_
 refine x_rg (rgn [hE] (⟨[(4, pB true)], [], 0⟩)) ?_
 refine x_toret ?_
 obtain rfl := Option.some.inj h
 exact ret0 (.bool true) (.refl _) (fun _ => rfl)

theorem c16 {p : api_Procs} {r : Bool} (h : ref30_Right p = some r) : CallOK Tryd.prog 16 [enc_api_Procs p] (.bool r) true := by
 apply ok16
 unfold ref30_Right at h
 refine x_rg (rgn [hE, hE] (⟨[(1, .optr 0 0 0)], [(0, some (.p (some 3) [enc_api_Procs p]))], 1⟩)) ?_
 refine x_rg (rg0 [hE, hE, hN (.len (List.length p.L : Int)), hE] (⟨[(1, .optr 0 0 0), (3, pI (List.length p.L : Int))], [(0, some (.p (some 3) [enc_api_Procs p]))], 1⟩) (.cons (lenM enc_api_Proc p.L) .nil)) ?_
 refine x_seq ?_
 obtain ⟨t11, ht, h⟩ := bind_some h
 refine x_rgB (fun b_ => (⟨[(1, .optr 0 0 0), (3, pI (List.length p.L : Int)), (58, pB b_)], [(0, some (.p (some 3) [enc_api_Procs p]))], 1⟩ : VSt)) t11 ?_ ?_
 ·rcases Bool.eq_false_or_eq_true (decide ((List.length p.L : Int) < 1)) with hg1 | hg1
  ·replace ht := ite_t ht hg1
   have e := Option.some.inj ht
   subst e
   exact rb [hE, hE, hE, hS, hS, hN (.pk true), hE, hS, hS, hS, hS, hS, hS, hE, hE, hS, hS, hS, hS, hS, hS, hE, hE, hS, hS, hS, hS, hS, hS, hS, hS, hS, hS, hE, hE, hS, hS, hS, hE, hE, hS, hS, hS, hE, hE, hS, hS, hS, hE] true (hk3 hg1 (.cons tt (hk6 tt (hk8 tt (hk8 tt (hk8 tt .nil)))))) rfl
  replace ht := ite_f ht hg1
  rcases Bool.eq_false_or_eq_true (decide (64 < (List.length p.L : Int))) with hg2 | hg2
  ·replace ht := ite_t ht hg2
   have e := Option.some.inj ht
   subst e
   exact rb [hE, hE, hE, hY, hY, hN (.pk false), hE, hS, hS, hS, hS, hS, hS, hN (.pk true), hE, hS, hS, hS, hS, hS, hS, hE, hE, hS, hS, hS, hS, hS, hS, hS, hS, hS, hS, hE, hE, hS, hS, hS, hE, hE, hS, hS, hS, hE, hE, hS, hS, hS, hE] true (hk3 hg1 (.cons hg2 (hk6 hg2 (.cons tt (hk8 tt (hk8 tt (hk8 tt .nil))))))) rfl
  replace ht := ite_f ht hg2
  obtain ⟨x3, hx3, ht⟩ := bind_some ht
  rcases Bool.eq_false_or_eq_true (!decide (x3.Id = 1)) with hg4 | hg4
  ·replace ht := ite_t ht hg4
   have e := Option.some.inj ht
   subst e
   exact rb [hE, hE, hE, hY, hY, hN (.pk false), hE, hY, hY, (.y, (.pAt (enc_api_Proc x3))), hY, hY, hY, hN (.pk false), hE, hS, hS, hS, hS, hS, hS, hN (.pk true), hE, hS, hS, hS, hS, hS, hS, hS, hS, hS, hS, hE, hE, hS, hS, hS, hE, hE, hS, hS, hS, hE, hE, hS, hS, hS, hE] true (hk3 hg1 (hk3 hg2 (.cons (lsAt_map (f := enc_api_Proc) hx3) (hk4 hg2 (.cons hg4 (hk6 hg4 (hk3 tt (hk8 tt (hk8 tt .nil))))))))) rfl
  replace ht := ite_f ht hg4
  obtain ⟨x5, hx5, ht⟩ := bind_some ht
  rcases Bool.eq_false_or_eq_true (!decide (x5.Parent = 0)) with hg6 | hg6
  ·replace ht := ite_t ht hg6
   have e := Option.some.inj ht
   subst e
   exact rb [hE, hE, hE, hY, hY, hN (.pk false), hE, hY, hY, (.y, (.pAt (enc_api_Proc x3))), hY, hY, hY, hN (.pk false), hE, hY, hY, (.y, (.pAt (enc_api_Proc x5))), hY, hY, hY, hN (.pk false), hE, hS, hS, hS, hS, hS, hS, hS, hS, hS, hS, hN (.pk true), hE, hS, hS, hS, hE, hE, hS, hS, hS, hE, hE, hS, hS, hS, hE] true (hk3 hg1 (hk3 hg2 (.cons (lsAt_map (f := enc_api_Proc) hx3) (hk4 hg2 (hk3 hg4 (.cons (lsAt_map (f := enc_api_Proc) hx5) (hk4 hg4 (hk3 hg6 (hk8 hg6 (.cons tt (hk8 tt .nil))))))))))) rfl
  replace ht := ite_f ht hg6
  obtain ⟨x7, hx7, ht⟩ := bind_some ht
  rcases Bool.eq_false_or_eq_true (decide (p.Next ≤ x7.Id)) with hg8 | hg8
  ·replace ht := ite_t ht hg8
   have e := Option.some.inj ht
   subst e
   exact rb [hE, hE, hE, hY, hY, hN (.pk false), hE, hY, hY, (.y, (.pAt (enc_api_Proc x3))), hY, hY, hY, hN (.pk false), hE, hY, hY, (.y, (.pAt (enc_api_Proc x5))), hY, hY, hY, hN (.pk false), hE, hY, hY, hY, hY, hY, hY, (.y, (.pAt (enc_api_Proc x7))), hY, hY, hY, hN (.pk false), hE, hS, hS, hS, hN (.pk true), hE, hS, hS, hS, hE, hE, hS, hS, hS, hE] true (hk3 hg1 (hk3 hg2 (.cons (lsAt_map (f := enc_api_Proc) hx3) (hk4 hg2 (hk3 hg4 (.cons (lsAt_map (f := enc_api_Proc) hx5) (hk4 hg4 (.cons hg6 (hk6 hg6 (.cons (lsAt_map (f := enc_api_Proc) hx7) (hk4 hg6 (hk4 hg8 (hk6 tt .nil))))))))))))) rfl
  replace ht := ite_f ht hg8
  rcases Bool.eq_false_or_eq_true (decide (1048576 < p.Next)) with hg9 | hg9
  ·replace ht := ite_t ht hg9
   have e := Option.some.inj ht
   subst e
   exact rb [hE, hE, hE, hY, hY, hN (.pk false), hE, hY, hY, (.y, (.pAt (enc_api_Proc x3))), hY, hY, hY, hN (.pk false), hE, hY, hY, (.y, (.pAt (enc_api_Proc x5))), hY, hY, hY, hN (.pk false), hE, hY, hY, hY, hY, hY, hY, (.y, (.pAt (enc_api_Proc x7))), hY, hY, hY, hN (.pk false), hE, hY, hY, hY, hN (.pk false), hE, hS, hS, hS, hN (.pk true), hE, hS, hS, hS, hE] true (hk3 hg1 (hk3 hg2 (.cons (lsAt_map (f := enc_api_Proc) hx3) (hk4 hg2 (hk3 hg4 (.cons (lsAt_map (f := enc_api_Proc) hx5) (hk4 hg4 (.cons hg6 (hk6 hg6 (.cons (lsAt_map (f := enc_api_Proc) hx7) (hk4 hg6 (hk4 hg8 (hk4 hg9 (hk3 tt .nil)))))))))))))) rfl
  replace ht := ite_f ht hg9
  rcases Bool.eq_false_or_eq_true (decide (p.Group < 2)) with hg10 | hg10
  ·replace ht := ite_t ht hg10
   have e := Option.some.inj ht
   subst e
   exact rb [hE, hE, hE, hY, hY, hN (.pk false), hE, hY, hY, (.y, (.pAt (enc_api_Proc x3))), hY, hY, hY, hN (.pk false), hE, hY, hY, (.y, (.pAt (enc_api_Proc x5))), hY, hY, hY, hN (.pk false), hE, hY, hY, hY, hY, hY, hY, (.y, (.pAt (enc_api_Proc x7))), hY, hY, hY, hN (.pk false), hE, hY, hY, hY, hN (.pk false), hE, hY, hY, hY, hN (.pk false), hE, hS, hS, hS, hN (.pk true)] true (hk3 hg1 (hk3 hg2 (.cons (lsAt_map (f := enc_api_Proc) hx3) (hk4 hg2 (hk3 hg4 (.cons (lsAt_map (f := enc_api_Proc) hx5) (hk4 hg4 (.cons hg6 (hk6 hg6 (.cons (lsAt_map (f := enc_api_Proc) hx7) (hk4 hg6 (hk4 hg8 (hk4 hg9 (hk4 hg10 .nil)))))))))))))) rfl
  replace ht := ite_f ht hg10
  have e := Option.some.inj ht
  subst e
  exact rb [hE, hE, hE, hY, hY, hN (.pk false), hE, hY, hY, (.y, (.pAt (enc_api_Proc x3))), hY, hY, hY, hN (.pk false), hE, hY, hY, (.y, (.pAt (enc_api_Proc x5))), hY, hY, hY, hN (.pk false), hE, hY, hY, hY, hY, hY, hY, (.y, (.pAt (enc_api_Proc x7))), hY, hY, hY, hN (.pk false), hE, hY, hY, hY, hN (.pk false), hE, hY, hY, hY, hN (.pk false), hE, hY, hY, hY, hN (.pk false)] (decide (1099511627777 < p.Group)) (hk3 hg1 (hk3 hg2 (.cons (lsAt_map (f := enc_api_Proc) hx3) (hk4 hg2 (hk3 hg4 (.cons (lsAt_map (f := enc_api_Proc) hx5) (hk4 hg4 (.cons hg6 (hk6 hg6 (.cons (lsAt_map (f := enc_api_Proc) hx7) (hk4 hg6 (hk4 hg8 (hk4 hg9 (hk4 hg10 .nil)))))))))))))) rfl
 clear ht
 refine x_cond _ rfl (fun hc12 => ?_) (fun hc12 => ?_)
 ·replace h := ite_t h hc12
  refine x_rg (rgn [hE] (⟨[(2, pB false)], [], 0⟩)) ?_
  refine x_toret (x_tr ?_)
  obtain rfl := Option.some.inj h
  exact ret0 (.bool false) (.refl _) (fun _ => rfl)
 replace h := ite_f h hc12
 refine kw0 (⟨[(1, .optr 0 0 0), (3, pI (List.length p.L : Int))], [(0, some (.p (some 3) [enc_api_Procs p]))], 1⟩) ?_
 refine x_skip (x_tn (x_seq ?_))
 refine x_rg (rgn [hE] (⟨[(1, .optr 0 0 0), (3, pI (List.length p.L : Int)), (4, pI 0)], [(0, some (.p (some 3) [enc_api_Procs p]))], 1⟩)) ?_
 refine x_block ?_
 refine kw0 (⟨[(1, .optr 0 0 0), (3, pI (List.length p.L : Int)), (4, pI 0)], [(0, some (.p (some 3) [enc_api_Procs p]))], 1⟩) ?_
 refine x_loop (σ := Int) h (fun s => ⟨[(1, .optr 0 0 0), (3, pI (List.length p.L : Int)), (4, pI s)], [(0, some (.p (some 3) [enc_api_Procs p]))], 1⟩) (by kernel_rfl) ?_ ?_
 ·rintro i
  kernel_rfl
 rintro i x19 h hx19
 replace h : ref30_Right_L19 p i = some x19 := h
 unfold ref30_Right_L19 at h
 refine x_seq ?_
 refine x_rg (rgn [hE, hE, hE] (⟨[(1, .optr 0 0 0), (3, pI (List.length p.L : Int)), (4, pI i), (61, pB (decide (i < (List.length p.L : Int))))], [(0, some (.p (some 3) [enc_api_Procs p]))], 1⟩)) ?_
 refine x_cond _ rfl (fun hc20 => ?_) (fun hc20 => ?_)
 ·replace h := ite_t h hc20
  refine kw0 (⟨[(1, .optr 0 0 0), (3, pI (List.length p.L : Int)), (4, pI i)], [(0, some (.p (some 3) [enc_api_Procs p]))], 1⟩) ?_
  refine x_skip (x_tn (x_seq (x_block (x_seq ?_))))
  obtain ⟨x21, hx21, h⟩ := bind_some h
  obtain ⟨x22, hx22, h⟩ := bind_some h
  refine x_rg (rg0 [hE, hE, hE, hE, hN (.pAt (enc_api_Proc x21)), hE, hN (.cal [] (.bool x22) true), hE] (⟨[(1, .optr 0 0 0), (3, pI (List.length p.L : Int)), (4, pI i), (71, pB (!x22))], [(0, some (.p (some 3) [enc_api_Procs p]))], 1⟩) (.cons (lsAt_map (f := enc_api_Proc) hx21) (.cons (c30 hx22) .nil))) ?_
  refine x_cond _ rfl (fun hc23 => ?_) (fun hc23 => ?_)
  ·replace h := ite_t h hc23
   refine x_rg (rgn [hE] (⟨[(2, pB false)], [], 0⟩)) ?_
   refine x_toret (x_tr (x_br (x_tr (x_tr ?_))))
   replace h := done_leaf h hx19
   refine x_br (x_tr ?_)
   obtain rfl := Option.some.inj h
   exact ret0 (.bool false) (.refl _) (fun _ => rfl)
  replace h := ite_f h hc23
  refine kw0 (⟨[(1, .optr 0 0 0), (3, pI (List.length p.L : Int)), (4, pI i)], [(0, some (.p (some 3) [enc_api_Procs p]))], 1⟩) ?_
  refine x_skip (x_tn ?_)
  refine x_rg (rgn [hE, hE, hE] (⟨[(1, .optr 0 0 0), (3, pI (List.length p.L : Int)), (4, pI i), (5, pB (decide (i = 0)))], [(0, some (.p (some 3) [enc_api_Procs p]))], 1⟩)) ?_
  refine x_seq ?_
  refine x_rg (rgn [hE] (⟨[(1, .optr 0 0 0), (3, pI (List.length p.L : Int)), (4, pI i), (5, pB (decide (i = 0))), (6, pI 0)], [(0, some (.p (some 3) [enc_api_Procs p]))], 1⟩)) ?_
  refine x_block ?_
  refine kw0 (⟨[(1, .optr 0 0 0), (3, pI (List.length p.L : Int)), (4, pI i), (5, pB (decide (i = 0))), (6, pI 0)], [(0, some (.p (some 3) [enc_api_Procs p]))], 1⟩) ?_
  refine x_loop (σ := (Bool × Int)) h (fun s => ⟨[(1, .optr 0 0 0), (3, pI (List.length p.L : Int)), (4, pI i), (5, pB s.1), (6, pI s.2)], [(0, some (.p (some 3) [enc_api_Procs p]))], 1⟩) (by kernel_rfl) ?_ ?_
  ·rintro ⟨found, k⟩
   kernel_rfl
  rintro ⟨found, k⟩ x31 h hx31
  replace h : ref30_Right_L31 p i found k = some x31 := h
  unfold ref30_Right_L31 at h
  refine x_seq ?_
  refine x_rg (rgn [hE, hE, hE] (⟨[(1, .optr 0 0 0), (3, pI (List.length p.L : Int)), (4, pI i), (5, pB found), (6, pI k), (76, pB (decide (k < i)))], [(0, some (.p (some 3) [enc_api_Procs p]))], 1⟩)) ?_
  refine x_cond _ rfl (fun hc32 => ?_) (fun hc32 => ?_)
  ·replace h := ite_t h hc32
   refine kw0 (⟨[(1, .optr 0 0 0), (3, pI (List.length p.L : Int)), (4, pI i), (5, pB found), (6, pI k)], [(0, some (.p (some 3) [enc_api_Procs p]))], 1⟩) ?_
   refine x_skip (x_tn (x_seq (x_block ?_)))
   obtain ⟨t36, ht, h⟩ := bind_some h
   refine x_rgtB (fun b_ => (⟨[(1, .optr 0 0 0), (3, pI (List.length p.L : Int)), (4, pI i), (5, pB b_), (6, pI k)], [(0, some (.p (some 3) [enc_api_Procs p]))], 1⟩ : VSt)) t36 ?_ ?_
   ·rcases Bool.eq_false_or_eq_true found with hg33 | hg33
    ·replace ht := ite_t ht hg33
     have e := Option.some.inj ht
     subst e
     exact rb [hE, hE, hS, hS, hS, hS, hS, hS, hS, hS, hS, hS, hS, hS, hS, hN (.pk true), hE] true (hk6 hg33 (hk8 hg33 .nil)) rfl
    replace ht := ite_f ht hg33
    obtain ⟨x34, hx34, ht⟩ := bind_some ht
    obtain ⟨x35, hx35, ht⟩ := bind_some ht
    have e := Option.some.inj ht
    subst e
    exact rb [hE, hE, hY, hY, hY, (.y, (.pAt (enc_api_Proc x34))), hY, hY, hY, hY, hY, (.y, (.pAt (enc_api_Proc x35))), hY, hY, hY, hN (.pk false), hE] (decide (x34.Id = x35.Parent)) (hk4 hg33 (.cons (lsAt_map (f := enc_api_Proc) hx34) (hk6 hg33 (.cons (lsAt_map (f := enc_api_Proc) hx35) (hk4 hg33 .nil))))) rfl
   clear ht
   refine x_bn (x_tn ?_)
   refine x_rgt (rgn [hE, hE, hE] (⟨[(1, .optr 0 0 0), (3, pI (List.length p.L : Int)), (4, pI i), (5, pB t36), (6, pI (IntKind.wrap .i64 (k + 1)))], [(0, some (.p (some 3) [enc_api_Procs p]))], 1⟩)) ?_
   refine x_tn ?_
   exact ⟨_, (Option.some.inj h).symm, by kernel_rfl⟩
  replace h := ite_f h hc32
  refine kw0 (⟨[(1, .optr 0 0 0), (3, pI (List.length p.L : Int)), (4, pI i), (5, pB found)], [(0, some (.p (some 3) [enc_api_Procs p]))], 1⟩) ?_
  refine x_exit ?_
  refine x_te (x_te ?_)
  replace h := done_map h hx31
  unfold ref30_Right_A43 at h
  refine x_bh ?_
  refine x_tn ?_
  obtain ⟨t41, ht, h⟩ := bind_some h
  refine x_rgB (fun b_ => (⟨[(1, .optr 0 0 0), (3, pI (List.length p.L : Int)), (4, pI i), (116, pB b_)], [(0, some (.p (some 3) [enc_api_Procs p]))], 1⟩ : VSt)) t41 ?_ ?_
  ·rcases Bool.eq_false_or_eq_true (!found) with hg37 | hg37
   ·replace ht := ite_t ht hg37
    have e := Option.some.inj ht
    subst e
    exact rb [hE, hE, hE, hS, hS, hS, (.u, .e), (.u, .e), (.u, .e), (.u, .e), (.u, .e), (.u, .e), (.u, .e), (.u, .e), (.u, .e), (.u, .e), (.u, .e), (.u, .e), (.u, .e), (.u, .e), hS, hN (.pk true)] true (hk5 hg37 .nil) rfl
   replace ht := ite_f ht hg37
   rcases Bool.eq_false_or_eq_true (decide (0 < i)) with hg38 | hg38
   ·replace ht := ite_t ht hg38
    obtain ⟨x39, hx39, ht⟩ := bind_some ht
    obtain ⟨x40, hx40, ht⟩ := bind_some ht
    have e := Option.some.inj ht
    subst e
    exact rb [hE, hE, hE, hY, hY, hY, hY, hY, hY, (.y, (.pAt (enc_api_Proc x39))), hY, hY, hY, hY, hY, hY, (.y, (.pAt (enc_api_Proc x40))), hY, hY, hY, (.y, (.pk true)), hN (.pk false)] (decide (x39.Id ≤ x40.Id)) (hk3 hg37 (hk4 hg38 (.cons (lsAt_map (f := enc_api_Proc) hx39) (.cons hg38 (hk6 hg38 (.cons (lsAt_map (f := enc_api_Proc) hx40) (hk3 hg38 (.cons hg37 (.cons hg38 (.cons hg37 .nil)))))))))) rfl
   replace ht := ite_f ht hg38
   have e := Option.some.inj ht
   subst e
   exact rb [hE, hE, hE, hY, hY, hY, hS, hS, hS, hS, hS, hS, hS, hS, hS, hS, hS, hS, hS, hS, (.y, (.pk false)), hN (.pk false)] false (hk3 hg37 (hk6 hg38 (hk8 hg38 (.cons hg37 (.cons hg38 (.cons hg37 .nil)))))) rfl
  clear ht
  refine x_cond _ rfl (fun hc42 => ?_) (fun hc42 => ?_)
  ·replace h := ite_t h hc42
   refine x_rg (rgn [hE] (⟨[(2, pB false)], [], 0⟩)) ?_
   refine x_toret (x_br (x_tr (x_tr ?_)))
   replace h := done_leaf h hx19
   refine x_br (x_tr ?_)
   obtain rfl := Option.some.inj h
   exact ret0 (.bool false) (.refl _) (fun _ => rfl)
  replace h := ite_f h hc42
  refine kw0 (⟨[(1, .optr 0 0 0), (3, pI (List.length p.L : Int)), (4, pI i)], [(0, some (.p (some 3) [enc_api_Procs p]))], 1⟩) ?_
  refine x_skip (x_bn (x_tn ?_))
  refine x_rgt (rgn [hE, hE, hE] (⟨[(1, .optr 0 0 0), (3, pI (List.length p.L : Int)), (4, pI (IntKind.wrap .i64 (i + 1)))], [(0, some (.p (some 3) [enc_api_Procs p]))], 1⟩)) ?_
  refine x_tn ?_
  exact ⟨_, (Option.some.inj h).symm, by kernel_rfl⟩
 replace h := ite_f h hc20
 refine kw0 (⟨[], [], 0⟩) ?_
 refine x_exit ?_
 refine x_te (x_te ?_)
 replace h := done_leaf h hx19
 refine x_bh ?_
 refine x_tn ?_
 refine x_rg (rgn [hE] (⟨[(2, pB true)], [], 0⟩)) ?_
 refine x_toret ?_
 obtain rfl := Option.some.inj h
 exact ret0 (.bool true) (.refl _) (fun _ => rfl)

theorem c6 {p : api_Procs} {id : Int} {flags : Int} {r : Bool} (h : law30_ProcGroups p id flags = some r) : CallOK Tryd.prog 6 [enc_api_Procs p, .int .i64 id, .int .i64 flags] (.bool r) true := by
 apply ok6
 unfold law30_ProcGroups at h
 refine x_rg (rgn [hE, hE] (⟨[(1, pI id), (2, pI flags), (3, .optr 0 0 0)], [(0, some (.p (some 3) [enc_api_Procs p]))], 1⟩)) ?_
 refine x_seq ?_
 obtain ⟨x1, hx1, h⟩ := bind_some h
 obtain ⟨t4, ht, h⟩ := bind_some h
 refine x_rgB (fun b_ => (⟨[(1, pI id), (2, pI flags), (3, .optr 0 0 0), (26, pB b_)], [(0, some (.p (some 3) [enc_api_Procs p]))], 1⟩ : VSt)) t4 ?_ ?_
 ·rcases Bool.eq_false_or_eq_true (!x1) with hg2 | hg2
  ·replace ht := ite_t ht hg2
   have e := Option.some.inj ht
   subst e
   exact rb [hE, hN (.cal [] (.bool x1) true), hE, hE, hS, hS, hS, hN (.pk true)] true (.cons (c12 hx1) (hk4 hg2 .nil)) rfl
  replace ht := ite_f ht hg2
  obtain ⟨x3, hx3, ht⟩ := bind_some ht
  have e := Option.some.inj ht
  subst e
  exact rb [hE, hN (.cal [] (.bool x1) true), hE, hE, hY, (.y, (.cal [] (.bool x3) true)), hY, hN (.pk false)] (!x3) (.cons (c12 hx1) (hk2 hg2 (.cons (c16 hx3) (hk2 hg2 .nil)))) rfl
 clear ht
 refine x_cond _ rfl (fun hc5 => ?_) (fun hc5 => ?_)
 ·replace h := ite_t h hc5
  obtain ⟨x6, hx6, h⟩ := bind_some h
  refine x_rg (rg0 [hN (.cal [] (.bool x6) true), hE] (⟨[(6, pB x6)], [], 0⟩) (.cons (c8 hx6) .nil)) ?_
  refine x_toret (x_tr ?_)
  obtain rfl := Option.some.inj h
  exact ret0 (.bool x6) (.refl _) (fun _ => rfl)
 replace h := ite_f h hc5
 refine kw0 (⟨[(1, pI id), (2, pI flags), (3, .optr 0 0 0)], [(0, some (.p (some 3) [enc_api_Procs p]))], 1⟩) ?_
 refine x_skip (x_tn ?_)
 obtain ⟨x7, hx7, h⟩ := bind_some h
 refine x_rg (rg0 [hE, hE, hE, hN (.cal [] (.tup [(gA1 x7.1), .int .i64 x7.2.1, .int .i64 x7.2.2]) false), hE, hE, hE, hE, hE, hE, hE, hE] (⟨[(1, pI id), (2, pI flags), (3, .optr 0 0 0), (7, .optr 1 0 0), (8, pI x7.2.1), (9, pI x7.2.2)], [(0, some (.p (some 3) [enc_api_Procs p])), (1, some (.h (some 3) [(gA7 x7.1 2)])), (2, rL (some 13) enc_api_Proc x7.1.L)], 3⟩) (.cons (c20 hx7) .nil)) ?_
 refine x_seq ?_
 refine x_rg (rgn [hE, hE] (⟨[(1, pI id), (2, pI flags), (3, .optr 0 0 0), (7, .optr 1 0 0), (8, pI x7.2.1), (37, pB (!decide (x7.2.2 = 0)))], [(0, some (.p (some 3) [enc_api_Procs p])), (1, some (.h (some 3) [(gA7 x7.1 2)])), (2, rL (some 13) enc_api_Proc x7.1.L)], 3⟩)) ?_
 refine x_cond _ rfl (fun hc8 => ?_) (fun hc8 => ?_)
 ·replace h := ite_t h hc8
  obtain ⟨t13, ht, h⟩ := bind_some h
  refine x_rgB (fun b_ => (⟨[(6, pB b_)], [], 0⟩ : VSt)) t13 ?_ ?_
  ·rcases Bool.eq_false_or_eq_true (decide (x7.2.1 = 0)) with hg9 | hg9
   ·replace ht := ite_t ht hg9
    obtain ⟨x10, hx10, ht⟩ := bind_some ht
    rcases Bool.eq_false_or_eq_true x10 with hg11 | hg11
    ·replace ht := ite_t ht hg11
     obtain ⟨x12, hx12, ht⟩ := bind_some ht
     have e := Option.some.inj ht
     subst e
     exact rb [hE, hE, hE, hY, hY, (.y, (.call [] [enc_api_Procs p, (gA8 x7.1)] (.bool x10) true)), hN (.pk true), hE, (.y, (.cal [] (.bool x12) true)), hN (.pk true), hE] x12 (hk3 hg9 (.cons (show LesA [enc_api_Procs p, (gA9 x7.1)] [enc_api_Procs p, (gA8 x7.1)] from (.cons (.refl _) (.cons (.agg (.cons (.refl _) (.cons (.refl _) (.cons (.of_eq (by rw [List.drop_zero, List.take_length])) .nil)))) .nil))) (.cons (c11 hx10) (.cons (le0 (List.map enc_api_Proc x7.1.L)) (.cons hg9 (.cons hg11 (.cons (c8 hx12) (.cons hg11 .nil)))))))) rfl
    replace ht := ite_f ht hg11
    have e := Option.some.inj ht
    subst e
    exact rb [hE, hE, hE, hY, hY, (.y, (.call [] [enc_api_Procs p, (gA8 x7.1)] (.bool x10) true)), hN (.pk true), hE, hS, hN (.pk false), hE] false (hk3 hg9 (.cons (show LesA [enc_api_Procs p, (gA9 x7.1)] [enc_api_Procs p, (gA8 x7.1)] from (.cons (.refl _) (.cons (.agg (.cons (.refl _) (.cons (.refl _) (.cons (.of_eq (by rw [List.drop_zero, List.take_length])) .nil)))) .nil))) (.cons (c11 hx10) (.cons (le0 (List.map enc_api_Proc x7.1.L)) (.cons hg9 (hk2 hg11 .nil)))))) rfl
   replace ht := ite_f ht hg9
   have e := Option.some.inj ht
   subst e
   exact rb [hE, hE, hE, hS, hS, hS, hN (.pk false), hE, hS, hE, hE] false (hk4 hg9 (.cons ff .nil)) rfl
  clear ht
  refine x_toret (x_tr ?_)
  obtain rfl := Option.some.inj h
  exact ret0 (.bool t13) (.refl _) (fun _ => rfl)
 replace h := ite_f h hc8
 refine kw0 (⟨[(1, pI id), (2, pI flags), (3, .optr 0 0 0), (7, .optr 1 0 0), (8, pI x7.2.1)], [(0, some (.p (some 3) [enc_api_Procs p])), (1, some (.h (some 3) [(gA7 x7.1 2)])), (2, rL (some 13) enc_api_Proc x7.1.L)], 3⟩) ?_
 refine x_skip (x_tn ?_)
 obtain ⟨x14, hx14, h⟩ := bind_some h
 refine x_rg (rg0 [hE, hE, hN (.cal [] (.tup [(gA3 x14.1), .bool x14.2]) true), hE, hE, hE, hE, hE, hE] (⟨[(2, pI flags), (3, .optr 0 0 0), (7, .optr 1 0 0), (8, pI x7.2.1), (10, .optr 3 0 0), (11, pB x14.2)], [(0, some (.p (some 3) [enc_api_Procs p])), (1, some (.h (some 3) [(gA7 x7.1 2)])), (2, rL (some 13) enc_api_Proc x7.1.L), (3, some (.h (some 13) [(gA12 x14.1 4 5)])), (4, rL none PV.str x14.1.Notes), (5, rL (some 2) enc_api_Wait x14.1.Waits)], 6⟩) (.cons (c13 hx14) .nil)) ?_
 obtain ⟨x15, hx15, h⟩ := bind_some h
 refine x_rg (rg0 [hE, hE, hN (.call [] [(gA8 x7.1), .int .i64 x7.2.1] (.tup [(gA3 x15.1), .bool x15.2]) true), hE, hE, hE, hE, hE, hE] (⟨[(2, pI flags), (3, .optr 0 0 0), (7, .optr 1 0 0), (8, pI x7.2.1), (10, .optr 3 0 0), (11, pB x14.2), (12, .optr 6 0 0), (13, pB x15.2)], [(0, some (.p (some 3) [enc_api_Procs p])), (1, some (.h (some 3) [(gA7 x7.1 2)])), (2, rL (some 13) enc_api_Proc x7.1.L), (3, some (.h (some 13) [(gA12 x14.1 4 5)])), (4, rL none PV.str x14.1.Notes), (5, rL (some 2) enc_api_Wait x14.1.Waits), (6, some (.h (some 13) [(gA12 x15.1 7 8)])), (7, rL none PV.str x15.1.Notes), (8, rL (some 2) enc_api_Wait x15.1.Waits)], 9⟩) (.cons (show LesA [(gA9 x7.1), .int .i64 x7.2.1] [(gA8 x7.1), .int .i64 x7.2.1] from (.cons (.agg (.cons (.refl _) (.cons (.refl _) (.cons (.of_eq (by rw [List.drop_zero, List.take_length])) .nil)))) (.cons (.refl _) .nil))) (.cons (c13 hx15) (.cons (le0 (List.map enc_api_Proc x7.1.L)) .nil)))) ?_
 refine x_seq ?_
 refine x_rgB (fun b_ => (⟨[(2, pI flags), (3, .optr 0 0 0), (7, .optr 1 0 0), (10, .optr 3 0 0), (12, .optr 6 0 0), (82, pB b_)], [(0, some (.p (some 3) [enc_api_Procs p])), (1, some (.h (some 3) [(gA7 x7.1 2)])), (2, rL (some 13) enc_api_Proc x7.1.L), (3, some (.h (some 13) [(gA12 x14.1 4 5)])), (4, rL none PV.str x14.1.Notes), (5, rL (some 2) enc_api_Wait x14.1.Waits), (6, some (.h (some 13) [(gA12 x15.1 7 8)])), (7, rL none PV.str x15.1.Notes), (8, rL (some 2) enc_api_Wait x15.1.Waits)], 9⟩ : VSt)) ((!x14.2) || ((!x15.2) || ((decide (flags < 0)) || ((decide (x7.1.Next ≤ p.Next)) || (decide (x7.2.1 < p.Next)))))) ?_ ?_
 ·rcases Bool.eq_false_or_eq_true (!x14.2) with hg16 | hg16
  ·exact rb [hE, hE, hE, hS, hS, hN (.pk true), hE, hS, hS, hE, hE, hS, hS, hS, hS, hS, hE, hE, hS, hS, hS, hS, hE] true (hk3 hg16 (hk3 tt (hk8 tt .nil))) (by simp only [hg16, bs, reduceIte])
  rcases Bool.eq_false_or_eq_true (!x15.2) with hg17 | hg17
  ·exact rb [hE, hE, hE, hY, hY, hN (.pk false), hE, hS, hS, hN (.pk true), hE, hS, hS, hS, hS, hS, hE, hE, hS, hS, hS, hS, hE] true (hk3 hg16 (hk3 hg17 (.cons tt (hk8 tt .nil)))) (by simp only [hg16, hg17, bs, reduceIte])
  rcases Bool.eq_false_or_eq_true (decide (flags < 0)) with hg18 | hg18
  ·exact rb [hE, hE, hE, hY, hY, hN (.pk false), hE, hY, hY, hN (.pk false), hE, hS, hS, hS, hS, hS, hN (.pk true), hE, hS, hS, hS, hS, hE] true (hk3 hg16 (hk3 hg17 (hk6 hg18 (hk4 tt .nil)))) (by simp only [hg16, hg17, hg18, bs, reduceIte])
  rcases Bool.eq_false_or_eq_true (decide (x7.1.Next ≤ p.Next)) with hg19 | hg19
  ·exact rb [hE, hE, hE, hY, hY, hN (.pk false), hE, hY, hY, hN (.pk false), hE, hY, hY, hY, hY, hY, hN (.pk false), hE, hS, hS, hS, hS, hN (.pk true)] true (hk3 hg16 (hk3 hg17 (hk6 hg18 (hk5 hg19 .nil)))) (by simp only [hg16, hg17, hg18, hg19, bs, reduceIte])
  exact rb [hE, hE, hE, hY, hY, hN (.pk false), hE, hY, hY, hN (.pk false), hE, hY, hY, hY, hY, hY, hN (.pk false), hE, hY, hY, hY, hY, hN (.pk false)] (decide (x7.2.1 < p.Next)) (hk3 hg16 (hk3 hg17 (hk6 hg18 (hk5 hg19 .nil)))) (by simp only [hg16, hg17, hg18, hg19, bs, reduceIte])
 refine x_cond _ rfl (fun hc21 => ?_) (fun hc21 => ?_)
 ·replace h := ite_t h hc21
  refine x_rg (rgn [hE] (⟨[(6, pB false)], [], 0⟩)) ?_
  refine x_toret (x_tr ?_)
  obtain rfl := Option.some.inj h
  exact ret0 (.bool false) (.refl _) (fun _ => rfl)
 replace h := ite_f h hc21
 refine kw0 (⟨[(2, pI flags), (3, .optr 0 0 0), (7, .optr 1 0 0), (10, .optr 3 0 0), (12, .optr 6 0 0)], [(0, some (.p (some 3) [enc_api_Procs p])), (1, some (.h (some 3) [(gA7 x7.1 2)])), (2, rL (some 13) enc_api_Proc x7.1.L), (3, some (.h (some 13) [(gA12 x14.1 4 5)])), (4, rL none PV.str x14.1.Notes), (5, rL (some 2) enc_api_Wait x14.1.Waits), (6, some (.h (some 13) [(gA12 x15.1 7 8)])), (7, rL none PV.str x15.1.Notes), (8, rL (some 2) enc_api_Wait x15.1.Waits)], 9⟩) ?_
 refine x_skip (x_tn ?_)
 refine x_rg (rgn [hE, hE, hE, hE, hE, hE, hE, hE, hE] (⟨[(2, pI flags), (3, .optr 0 0 0), (7, .optr 1 0 0), (12, .optr 3 0 0), (14, .optr 6 0 0)], [(0, some (.p (some 3) [enc_api_Procs p])), (1, some (.h (some 3) [(gA7 x7.1 2)])), (2, rL (some 13) enc_api_Proc x7.1.L), (3, some (.h (some 13) [(gA12 x15.1 4 5)])), (4, rL none PV.str x15.1.Notes), (5, rL (some 2) enc_api_Wait x15.1.Waits), (6, some (.p (some 3) [.agg [.int .i64 x14.1.Ns, .int .i64 x14.1.Env, .int .i64 x14.1.Fds]]))], 7⟩)) ?_
 refine x_rg (rgn [hE, hE, hE, hE, hE, hE, hE, hE, hE] (⟨[(2, pI flags), (3, .optr 0 0 0), (7, .optr 1 0 0), (14, .optr 3 0 0), (15, .optr 4 0 0)], [(0, some (.p (some 3) [enc_api_Procs p])), (1, some (.h (some 3) [(gA7 x7.1 2)])), (2, rL (some 13) enc_api_Proc x7.1.L), (3, some (.p (some 3) [.agg [.int .i64 x14.1.Ns, .int .i64 x14.1.Env, .int .i64 x14.1.Fds]])), (4, some (.p (some 3) [.agg [.int .i64 x15.1.Ns, .int .i64 x15.1.Env, .int .i64 x15.1.Fds]]))], 5⟩)) ?_
 refine x_rg (rgn [hE, hE, hE] (⟨[(2, pI flags), (3, .optr 0 0 0), (7, .optr 1 0 0), (14, .optr 3 0 0), (15, .optr 4 0 0), (16, .optr 5 0 0)], [(0, some (.p (some 3) [enc_api_Procs p])), (1, some (.h (some 3) [(gA7 x7.1 2)])), (2, rL (some 13) enc_api_Proc x7.1.L), (3, some (.p (some 3) [.agg [.int .i64 x14.1.Ns, .int .i64 x14.1.Env, .int .i64 x14.1.Fds]])), (4, some (.p (some 3) [.agg [.int .i64 x15.1.Ns, .int .i64 x15.1.Env, .int .i64 x15.1.Fds]])), (5, some (.p (some 3) [gA15]))], 6⟩)) ?_
 refine x_seq ?_
 refine x_rg (rgn [hE] (⟨[(2, pI flags), (3, .optr 0 0 0), (7, .optr 1 0 0), (14, .optr 3 0 0), (15, .optr 4 0 0), (16, .optr 5 0 0), (98, pI 0)], [(0, some (.p (some 3) [enc_api_Procs p])), (1, some (.h (some 3) [(gA7 x7.1 2)])), (2, rL (some 13) enc_api_Proc x7.1.L), (3, some (.p (some 3) [.agg [.int .i64 x14.1.Ns, .int .i64 x14.1.Env, .int .i64 x14.1.Fds]])), (4, some (.p (some 3) [.agg [.int .i64 x15.1.Ns, .int .i64 x15.1.Env, .int .i64 x15.1.Fds]])), (5, some (.p (some 3) [gA15]))], 6⟩)) ?_
 refine x_block ?_
 refine kw0 (⟨[(2, pI flags), (3, .optr 0 0 0), (7, .optr 1 0 0), (14, .optr 3 0 0), (15, .optr 4 0 0), (16, .optr 5 0 0), (98, pI 0)], [(0, some (.p (some 3) [enc_api_Procs p])), (1, some (.h (some 3) [(gA7 x7.1 2)])), (2, rL (some 13) enc_api_Proc x7.1.L), (3, some (.p (some 3) [.agg [.int .i64 x14.1.Ns, .int .i64 x14.1.Env, .int .i64 x14.1.Fds]])), (4, some (.p (some 3) [.agg [.int .i64 x15.1.Ns, .int .i64 x15.1.Env, .int .i64 x15.1.Fds]])), (5, some (.p (some 3) [gA15]))], 6⟩) ?_
 refine x_loop (σ := Int) h (fun s => ⟨[(2, pI flags), (3, .optr 0 0 0), (7, .optr 1 0 0), (14, .optr 3 0 0), (15, .optr 4 0 0), (16, .optr 5 0 0), (98, pI s)], [(0, some (.p (some 3) [enc_api_Procs p])), (1, some (.h (some 3) [(gA7 x7.1 2)])), (2, rL (some 13) enc_api_Proc x7.1.L), (3, some (.p (some 3) [.agg [.int .i64 x14.1.Ns, .int .i64 x14.1.Env, .int .i64 x14.1.Fds]])), (4, some (.p (some 3) [.agg [.int .i64 x15.1.Ns, .int .i64 x15.1.Env, .int .i64 x15.1.Fds]])), (5, some (.p (some 3) [gA15]))], 6⟩) (by kernel_rfl) ?_ ?_
 ·rintro v31
  kernel_rfl
 rintro v31 x32 h hx32
 replace h : law30_ProcGroups_L32 p flags x7 x14 x15 v31 = some x32 := h
 unfold law30_ProcGroups_L32 at h
 refine x_rg (rgn [hE] (⟨[(2, pI flags), (3, .optr 0 0 0), (7, .optr 1 0 0), (14, .optr 3 0 0), (15, .optr 4 0 0), (16, .optr 5 0 0), (98, pI v31), (99, pB (decide (v31 < 3)))], [(0, some (.p (some 3) [enc_api_Procs p])), (1, some (.h (some 3) [(gA7 x7.1 2)])), (2, rL (some 13) enc_api_Proc x7.1.L), (3, some (.p (some 3) [.agg [.int .i64 x14.1.Ns, .int .i64 x14.1.Env, .int .i64 x14.1.Fds]])), (4, some (.p (some 3) [.agg [.int .i64 x15.1.Ns, .int .i64 x15.1.Env, .int .i64 x15.1.Fds]])), (5, some (.p (some 3) [gA15]))], 6⟩)) ?_
 refine x_seq ?_
 refine x_cond _ rfl (fun hc33 => ?_) (fun hc33 => ?_)
 ·replace h := ite_t h hc33
  refine kw0 (⟨[(2, pI flags), (3, .optr 0 0 0), (7, .optr 1 0 0), (14, .optr 3 0 0), (15, .optr 4 0 0), (16, .optr 5 0 0), (98, pI v31)], [(0, some (.p (some 3) [enc_api_Procs p])), (1, some (.h (some 3) [(gA7 x7.1 2)])), (2, rL (some 13) enc_api_Proc x7.1.L), (3, some (.p (some 3) [.agg [.int .i64 x14.1.Ns, .int .i64 x14.1.Env, .int .i64 x14.1.Fds]])), (4, some (.p (some 3) [.agg [.int .i64 x15.1.Ns, .int .i64 x15.1.Env, .int .i64 x15.1.Fds]])), (5, some (.p (some 3) [gA15]))], 6⟩) ?_
  refine x_skip (x_tn (x_seq (x_block ?_)))
  refine x_rg (rgn [hE, hE] (⟨[(2, pI flags), (3, .optr 0 0 0), (7, .optr 1 0 0), (14, .optr 3 0 0), (15, .optr 4 0 0), (16, .optr 5 0 0), (17, pI v31), (98, pI v31)], [(0, some (.p (some 3) [enc_api_Procs p])), (1, some (.h (some 3) [(gA7 x7.1 2)])), (2, rL (some 13) enc_api_Proc x7.1.L), (3, some (.p (some 3) [.agg [.int .i64 x14.1.Ns, .int .i64 x14.1.Env, .int .i64 x14.1.Fds]])), (4, some (.p (some 3) [.agg [.int .i64 x15.1.Ns, .int .i64 x15.1.Env, .int .i64 x15.1.Fds]])), (5, some (.p (some 3) [gA15]))], 6⟩)) ?_
  refine x_seq ?_
  obtain ⟨t55, ht, h⟩ := bind_some h
  refine x_rgB (fun b_ => (⟨[(2, pI flags), (3, .optr 0 0 0), (7, .optr 1 0 0), (14, .optr 3 0 0), (15, .optr 4 0 0), (16, .optr 5 0 0), (17, pI v31), (98, pI v31), (139, pB b_)], [(0, some (.p (some 3) [enc_api_Procs p])), (1, some (.h (some 3) [(gA7 x7.1 2)])), (2, rL (some 13) enc_api_Proc x7.1.L), (3, some (.p (some 3) [.agg [.int .i64 x14.1.Ns, .int .i64 x14.1.Env, .int .i64 x14.1.Fds]])), (4, some (.p (some 3) [.agg [.int .i64 x15.1.Ns, .int .i64 x15.1.Env, .int .i64 x15.1.Fds]])), (5, some (.p (some 3) [gA15]))], 6⟩ : VSt)) t55 ?_ ?_
  ·rcases Bool.eq_false_or_eq_true (decide (v31 = (0 : Int))) with hg34 | hg34
   ·replace ht := ite_t ht hg34
    rcases Bool.eq_false_or_eq_true (decide ((IntKind.wrap .i64 ((BitVec.ofInt (IntKind.bits .i64) flags &&& (BitVec.ofInt (IntKind.bits .i64) 9)).toNat : Nat)) = 0)) with hg35 | hg35
    ·replace ht := ite_t ht hg35
     rcases Bool.eq_false_or_eq_true (!decide (x15.1.Ns = x14.1.Ns)) with hg36 | hg36
     ·replace ht := ite_t ht hg36
      have e := Option.some.inj ht
      subst e
      exact rb [hE, hE, hN (.ixc 0), hE, hE, hE, hE, hY, (.y, (.ixc 0)), hY, hY, (.y, (.ixc 0)), hY, hY, hN (.pk true), hE, hS, hS, hS, hS, hS, hS, hS, (.u, .e), (.u, .e), (.u, .e), (.u, .e), (.u, .e), (.u, .e), (.u, .e), (.u, .e), (.u, .e), (.u, .e), (.u, .e), (.u, .e), (.u, .e), (.u, .e), hS, hN (.pk true)] true (.cons (show v31 = (0 : Int) from (of_decide_eq_true hg34)) (hk2 hg35 (.cons (show v31 = (0 : Int) from (of_decide_eq_true hg34)) (hk3 hg35 (.cons (show v31 = (0 : Int) from (of_decide_eq_true hg34)) (hk3 hg35 (.cons hg36 (hk8 hg36 .nil)))))))) rfl
     replace ht := ite_f ht hg36
     rcases Bool.eq_false_or_eq_true (!decide ((IntKind.wrap .i64 ((BitVec.ofInt (IntKind.bits .i64) flags &&& (BitVec.ofInt (IntKind.bits .i64) 9)).toNat : Nat)) = 0)) with hg37 | hg37
     ·replace ht := ite_t ht hg37
      rcases Bool.eq_false_or_eq_true (decide (x15.1.Ns < p.Group)) with hg38 | hg38
      ·replace ht := ite_t ht hg38
       have e := Option.some.inj ht
       subst e
       exact rb [hE, hE, hN (.ixc 0), hE, hE, hE, hE, hY, (.y, (.ixc 0)), hY, hY, (.y, (.ixc 0)), hY, hY, hN (.pk true), hE, hY, hY, (.y, (.ixc 0)), hY, hY, hY, hY, hY, (.y, (.ixc 0)), hY, hY, hY, hY, hY, hS, hS, hS, hS, hS, hS, (.y, (.pk true)), (.y, (.pk true)), hN (.pk false)] true (.cons (show v31 = (0 : Int) from (of_decide_eq_true hg34)) (hk2 hg35 (.cons (show v31 = (0 : Int) from (of_decide_eq_true hg34)) (hk3 hg35 (.cons (show v31 = (0 : Int) from (of_decide_eq_true hg34)) (hk3 hg35 (hk3 hg36 (.cons (show v31 = (0 : Int) from (of_decide_eq_true hg34)) (hk4 hg36 (hk2 hg37 (.cons (show v31 = (0 : Int) from (of_decide_eq_true hg34)) (hk5 hg37 (hk6 hg38 (.cons hg37 (.cons hg38 (.cons hg36 (.cons hg37 (.cons hg36 .nil)))))))))))))))))) rfl
      replace ht := ite_f ht hg38
      have e := Option.some.inj ht
      subst e
      exact rb [hE, hE, hN (.ixc 0), hE, hE, hE, hE, hY, (.y, (.ixc 0)), hY, hY, (.y, (.ixc 0)), hY, hY, hN (.pk true), hE, hY, hY, (.y, (.ixc 0)), hY, hY, hY, hY, hY, (.y, (.ixc 0)), hY, hY, hY, hY, hY, hY, (.y, (.ixc 0)), hY, hY, hY, hY, (.y, (.pk false)), (.y, (.pk true)), hN (.pk false)] (decide (x7.1.Group ≤ x15.1.Ns)) (.cons (show v31 = (0 : Int) from (of_decide_eq_true hg34)) (hk2 hg35 (.cons (show v31 = (0 : Int) from (of_decide_eq_true hg34)) (hk3 hg35 (.cons (show v31 = (0 : Int) from (of_decide_eq_true hg34)) (hk3 hg35 (hk3 hg36 (.cons (show v31 = (0 : Int) from (of_decide_eq_true hg34)) (hk4 hg36 (hk2 hg37 (.cons (show v31 = (0 : Int) from (of_decide_eq_true hg34)) (hk5 hg37 (hk2 hg38 (.cons (show v31 = (0 : Int) from (of_decide_eq_true hg34)) (hk4 hg38 (.cons hg37 (.cons hg38 (.cons hg36 (.cons hg37 (.cons hg36 .nil)))))))))))))))))))) rfl
     replace ht := ite_f ht hg37
     have e := Option.some.inj ht
     subst e
     exact rb [hE, hE, hN (.ixc 0), hE, hE, hE, hE, hY, (.y, (.ixc 0)), hY, hY, (.y, (.ixc 0)), hY, hY, hN (.pk true), hE, hY, hY, (.y, (.ixc 0)), hY, hY, hY, hY, hS, hS, hS, hS, hS, hS, hS, (.u, .e), (.u, .e), (.u, .e), (.u, .e), (.u, .e), (.u, .e), hS, (.y, (.pk false)), hN (.pk false)] false (.cons (show v31 = (0 : Int) from (of_decide_eq_true hg34)) (hk2 hg35 (.cons (show v31 = (0 : Int) from (of_decide_eq_true hg34)) (hk3 hg35 (.cons (show v31 = (0 : Int) from (of_decide_eq_true hg34)) (hk3 hg35 (hk3 hg36 (.cons (show v31 = (0 : Int) from (of_decide_eq_true hg34)) (hk4 hg36 (hk8 hg37 (.cons hg36 (.cons hg37 (.cons hg36 .nil))))))))))))) rfl
    replace ht := ite_f ht hg35
    rcases Bool.eq_false_or_eq_true (!decide ((IntKind.wrap .i64 ((BitVec.ofInt (IntKind.bits .i64) flags &&& (BitVec.ofInt (IntKind.bits .i64) 9)).toNat : Nat)) = 0)) with hg39 | hg39
    ·replace ht := ite_t ht hg39
     rcases Bool.eq_false_or_eq_true (decide (x15.1.Ns < p.Group)) with hg40 | hg40
     ·replace ht := ite_t ht hg40
      have e := Option.some.inj ht
      subst e
      exact rb [hE, hE, hN (.ixc 0), hE, hE, hE, hE, hS, hS, hS, hS, hS, hS, hS, hN (.pk false), hE, hY, hY, (.y, (.ixc 0)), hY, hY, hY, hY, hY, (.y, (.ixc 0)), hY, hY, hY, hY, hY, hS, hS, hS, hS, hS, hS, (.y, (.pk true)), (.y, (.pk true)), hE] true (.cons (show v31 = (0 : Int) from (of_decide_eq_true hg34)) (hk8 hg35 (hk3 ff (.cons (show v31 = (0 : Int) from (of_decide_eq_true hg34)) (hk4 ff (hk2 hg39 (.cons (show v31 = (0 : Int) from (of_decide_eq_true hg34)) (hk5 hg39 (hk6 hg40 (.cons hg39 (.cons hg40 (.cons ff (.cons hg39 .nil))))))))))))) rfl
     replace ht := ite_f ht hg40
     have e := Option.some.inj ht
     subst e
     exact rb [hE, hE, hN (.ixc 0), hE, hE, hE, hE, hS, hS, hS, hS, hS, hS, hS, hN (.pk false), hE, hY, hY, (.y, (.ixc 0)), hY, hY, hY, hY, hY, (.y, (.ixc 0)), hY, hY, hY, hY, hY, hY, (.y, (.ixc 0)), hY, hY, hY, hY, (.y, (.pk false)), (.y, (.pk true)), hE] (decide (x7.1.Group ≤ x15.1.Ns)) (.cons (show v31 = (0 : Int) from (of_decide_eq_true hg34)) (hk8 hg35 (hk3 ff (.cons (show v31 = (0 : Int) from (of_decide_eq_true hg34)) (hk4 ff (hk2 hg39 (.cons (show v31 = (0 : Int) from (of_decide_eq_true hg34)) (hk5 hg39 (hk2 hg40 (.cons (show v31 = (0 : Int) from (of_decide_eq_true hg34)) (hk4 hg40 (.cons hg39 (.cons hg40 (.cons ff (.cons hg39 .nil))))))))))))))) rfl
    replace ht := ite_f ht hg39
    have e := Option.some.inj ht
    subst e
    exact rb [hE, hE, hN (.ixc 0), hE, hE, hE, hE, hS, hS, hS, hS, hS, hS, hS, hN (.pk false), hE, hY, hY, (.y, (.ixc 0)), hY, hY, hY, hY, hS, hS, hS, hS, hS, hS, hS, (.u, .e), (.u, .e), (.u, .e), (.u, .e), (.u, .e), (.u, .e), hS, (.y, (.pk false)), hE] false (.cons (show v31 = (0 : Int) from (of_decide_eq_true hg34)) (hk8 hg35 (hk3 ff (.cons (show v31 = (0 : Int) from (of_decide_eq_true hg34)) (hk4 ff (hk8 hg39 (.cons ff (.cons hg39 .nil)))))))) rfl
   replace ht := ite_f ht hg34
   rcases Bool.eq_false_or_eq_true (decide (v31 = (1 : Int))) with hg41 | hg41
   ·replace ht := ite_t ht hg41
    rcases Bool.eq_false_or_eq_true (decide ((IntKind.wrap .i64 ((BitVec.ofInt (IntKind.bits .i64) flags &&& (BitVec.ofInt (IntKind.bits .i64) 18)).toNat : Nat)) = 0)) with hg42 | hg42
    ·replace ht := ite_t ht hg42
     rcases Bool.eq_false_or_eq_true (!decide (x15.1.Env = x14.1.Env)) with hg43 | hg43
     ·replace ht := ite_t ht hg43
      have e := Option.some.inj ht
      subst e
      exact rb [hE, hE, hN (.ixc 1), hE, hE, hE, hE, hY, (.y, (.ixc 1)), hY, hY, (.y, (.ixc 1)), hY, hY, hN (.pk true), hE, hS, hS, hS, hS, hS, hS, hS, (.u, .e), (.u, .e), (.u, .e), (.u, .e), (.u, .e), (.u, .e), (.u, .e), (.u, .e), (.u, .e), (.u, .e), (.u, .e), (.u, .e), (.u, .e), (.u, .e), hS, hN (.pk true)] true (.cons (show v31 = (1 : Int) from (of_decide_eq_true hg41)) (hk2 hg42 (.cons (show v31 = (1 : Int) from (of_decide_eq_true hg41)) (hk3 hg42 (.cons (show v31 = (1 : Int) from (of_decide_eq_true hg41)) (hk3 hg42 (.cons hg43 (hk8 hg43 .nil)))))))) rfl
     replace ht := ite_f ht hg43
     rcases Bool.eq_false_or_eq_true (!decide ((IntKind.wrap .i64 ((BitVec.ofInt (IntKind.bits .i64) flags &&& (BitVec.ofInt (IntKind.bits .i64) 18)).toNat : Nat)) = 0)) with hg44 | hg44
     ·replace ht := ite_t ht hg44
      rcases Bool.eq_false_or_eq_true (decide (x15.1.Env < p.Group)) with hg45 | hg45
      ·replace ht := ite_t ht hg45
       have e := Option.some.inj ht
       subst e
       exact rb [hE, hE, hN (.ixc 1), hE, hE, hE, hE, hY, (.y, (.ixc 1)), hY, hY, (.y, (.ixc 1)), hY, hY, hN (.pk true), hE, hY, hY, (.y, (.ixc 1)), hY, hY, hY, hY, hY, (.y, (.ixc 1)), hY, hY, hY, hY, hY, hS, hS, hS, hS, hS, hS, (.y, (.pk true)), (.y, (.pk true)), hN (.pk false)] true (.cons (show v31 = (1 : Int) from (of_decide_eq_true hg41)) (hk2 hg42 (.cons (show v31 = (1 : Int) from (of_decide_eq_true hg41)) (hk3 hg42 (.cons (show v31 = (1 : Int) from (of_decide_eq_true hg41)) (hk3 hg42 (hk3 hg43 (.cons (show v31 = (1 : Int) from (of_decide_eq_true hg41)) (hk4 hg43 (hk2 hg44 (.cons (show v31 = (1 : Int) from (of_decide_eq_true hg41)) (hk5 hg44 (hk6 hg45 (.cons hg44 (.cons hg45 (.cons hg43 (.cons hg44 (.cons hg43 .nil)))))))))))))))))) rfl
      replace ht := ite_f ht hg45
      have e := Option.some.inj ht
      subst e
      exact rb [hE, hE, hN (.ixc 1), hE, hE, hE, hE, hY, (.y, (.ixc 1)), hY, hY, (.y, (.ixc 1)), hY, hY, hN (.pk true), hE, hY, hY, (.y, (.ixc 1)), hY, hY, hY, hY, hY, (.y, (.ixc 1)), hY, hY, hY, hY, hY, hY, (.y, (.ixc 1)), hY, hY, hY, hY, (.y, (.pk false)), (.y, (.pk true)), hN (.pk false)] (decide (x7.1.Group ≤ x15.1.Env)) (.cons (show v31 = (1 : Int) from (of_decide_eq_true hg41)) (hk2 hg42 (.cons (show v31 = (1 : Int) from (of_decide_eq_true hg41)) (hk3 hg42 (.cons (show v31 = (1 : Int) from (of_decide_eq_true hg41)) (hk3 hg42 (hk3 hg43 (.cons (show v31 = (1 : Int) from (of_decide_eq_true hg41)) (hk4 hg43 (hk2 hg44 (.cons (show v31 = (1 : Int) from (of_decide_eq_true hg41)) (hk5 hg44 (hk2 hg45 (.cons (show v31 = (1 : Int) from (of_decide_eq_true hg41)) (hk4 hg45 (.cons hg44 (.cons hg45 (.cons hg43 (.cons hg44 (.cons hg43 .nil)))))))))))))))))))) rfl
     replace ht := ite_f ht hg44
     have e := Option.some.inj ht
     subst e
     exact rb [hE, hE, hN (.ixc 1), hE, hE, hE, hE, hY, (.y, (.ixc 1)), hY, hY, (.y, (.ixc 1)), hY, hY, hN (.pk true), hE, hY, hY, (.y, (.ixc 1)), hY, hY, hY, hY, hS, hS, hS, hS, hS, hS, hS, (.u, .e), (.u, .e), (.u, .e), (.u, .e), (.u, .e), (.u, .e), hS, (.y, (.pk false)), hN (.pk false)] false (.cons (show v31 = (1 : Int) from (of_decide_eq_true hg41)) (hk2 hg42 (.cons (show v31 = (1 : Int) from (of_decide_eq_true hg41)) (hk3 hg42 (.cons (show v31 = (1 : Int) from (of_decide_eq_true hg41)) (hk3 hg42 (hk3 hg43 (.cons (show v31 = (1 : Int) from (of_decide_eq_true hg41)) (hk4 hg43 (hk8 hg44 (.cons hg43 (.cons hg44 (.cons hg43 .nil))))))))))))) rfl
    replace ht := ite_f ht hg42
    rcases Bool.eq_false_or_eq_true (!decide ((IntKind.wrap .i64 ((BitVec.ofInt (IntKind.bits .i64) flags &&& (BitVec.ofInt (IntKind.bits .i64) 18)).toNat : Nat)) = 0)) with hg46 | hg46
    ·replace ht := ite_t ht hg46
     rcases Bool.eq_false_or_eq_true (decide (x15.1.Env < p.Group)) with hg47 | hg47
     ·replace ht := ite_t ht hg47
      have e := Option.some.inj ht
      subst e
      exact rb [hE, hE, hN (.ixc 1), hE, hE, hE, hE, hS, hS, hS, hS, hS, hS, hS, hN (.pk false), hE, hY, hY, (.y, (.ixc 1)), hY, hY, hY, hY, hY, (.y, (.ixc 1)), hY, hY, hY, hY, hY, hS, hS, hS, hS, hS, hS, (.y, (.pk true)), (.y, (.pk true)), hE] true (.cons (show v31 = (1 : Int) from (of_decide_eq_true hg41)) (hk8 hg42 (hk3 ff (.cons (show v31 = (1 : Int) from (of_decide_eq_true hg41)) (hk4 ff (hk2 hg46 (.cons (show v31 = (1 : Int) from (of_decide_eq_true hg41)) (hk5 hg46 (hk6 hg47 (.cons hg46 (.cons hg47 (.cons ff (.cons hg46 .nil))))))))))))) rfl
     replace ht := ite_f ht hg47
     have e := Option.some.inj ht
     subst e
     exact rb [hE, hE, hN (.ixc 1), hE, hE, hE, hE, hS, hS, hS, hS, hS, hS, hS, hN (.pk false), hE, hY, hY, (.y, (.ixc 1)), hY, hY, hY, hY, hY, (.y, (.ixc 1)), hY, hY, hY, hY, hY, hY, (.y, (.ixc 1)), hY, hY, hY, hY, (.y, (.pk false)), (.y, (.pk true)), hE] (decide (x7.1.Group ≤ x15.1.Env)) (.cons (show v31 = (1 : Int) from (of_decide_eq_true hg41)) (hk8 hg42 (hk3 ff (.cons (show v31 = (1 : Int) from (of_decide_eq_true hg41)) (hk4 ff (hk2 hg46 (.cons (show v31 = (1 : Int) from (of_decide_eq_true hg41)) (hk5 hg46 (hk2 hg47 (.cons (show v31 = (1 : Int) from (of_decide_eq_true hg41)) (hk4 hg47 (.cons hg46 (.cons hg47 (.cons ff (.cons hg46 .nil))))))))))))))) rfl
    replace ht := ite_f ht hg46
    have e := Option.some.inj ht
    subst e
    exact rb [hE, hE, hN (.ixc 1), hE, hE, hE, hE, hS, hS, hS, hS, hS, hS, hS, hN (.pk false), hE, hY, hY, (.y, (.ixc 1)), hY, hY, hY, hY, hS, hS, hS, hS, hS, hS, hS, (.u, .e), (.u, .e), (.u, .e), (.u, .e), (.u, .e), (.u, .e), hS, (.y, (.pk false)), hE] false (.cons (show v31 = (1 : Int) from (of_decide_eq_true hg41)) (hk8 hg42 (hk3 ff (.cons (show v31 = (1 : Int) from (of_decide_eq_true hg41)) (hk4 ff (hk8 hg46 (.cons ff (.cons hg46 .nil)))))))) rfl
   replace ht := ite_f ht hg41
   rcases Bool.eq_false_or_eq_true (decide (v31 = (2 : Int))) with hg48 | hg48
   ·replace ht := ite_t ht hg48
    rcases Bool.eq_false_or_eq_true (decide ((IntKind.wrap .i64 ((BitVec.ofInt (IntKind.bits .i64) flags &&& (BitVec.ofInt (IntKind.bits .i64) 36)).toNat : Nat)) = 0)) with hg49 | hg49
    ·replace ht := ite_t ht hg49
     rcases Bool.eq_false_or_eq_true (!decide (x15.1.Fds = x14.1.Fds)) with hg50 | hg50
     ·replace ht := ite_t ht hg50
      have e := Option.some.inj ht
      subst e
      exact rb [hE, hE, hN (.ixc 2), hE, hE, hE, hE, hY, (.y, (.ixc 2)), hY, hY, (.y, (.ixc 2)), hY, hY, hN (.pk true), hE, hS, hS, hS, hS, hS, hS, hS, (.u, .e), (.u, .e), (.u, .e), (.u, .e), (.u, .e), (.u, .e), (.u, .e), (.u, .e), (.u, .e), (.u, .e), (.u, .e), (.u, .e), (.u, .e), (.u, .e), hS, hN (.pk true)] true (.cons (show v31 = (2 : Int) from (of_decide_eq_true hg48)) (hk2 hg49 (.cons (show v31 = (2 : Int) from (of_decide_eq_true hg48)) (hk3 hg49 (.cons (show v31 = (2 : Int) from (of_decide_eq_true hg48)) (hk3 hg49 (.cons hg50 (hk8 hg50 .nil)))))))) rfl
     replace ht := ite_f ht hg50
     rcases Bool.eq_false_or_eq_true (!decide ((IntKind.wrap .i64 ((BitVec.ofInt (IntKind.bits .i64) flags &&& (BitVec.ofInt (IntKind.bits .i64) 36)).toNat : Nat)) = 0)) with hg51 | hg51
     ·replace ht := ite_t ht hg51
      rcases Bool.eq_false_or_eq_true (decide (x15.1.Fds < p.Group)) with hg52 | hg52
      ·replace ht := ite_t ht hg52
       have e := Option.some.inj ht
       subst e
       exact rb [hE, hE, hN (.ixc 2), hE, hE, hE, hE, hY, (.y, (.ixc 2)), hY, hY, (.y, (.ixc 2)), hY, hY, hN (.pk true), hE, hY, hY, (.y, (.ixc 2)), hY, hY, hY, hY, hY, (.y, (.ixc 2)), hY, hY, hY, hY, hY, hS, hS, hS, hS, hS, hS, (.y, (.pk true)), (.y, (.pk true)), hN (.pk false)] true (.cons (show v31 = (2 : Int) from (of_decide_eq_true hg48)) (hk2 hg49 (.cons (show v31 = (2 : Int) from (of_decide_eq_true hg48)) (hk3 hg49 (.cons (show v31 = (2 : Int) from (of_decide_eq_true hg48)) (hk3 hg49 (hk3 hg50 (.cons (show v31 = (2 : Int) from (of_decide_eq_true hg48)) (hk4 hg50 (hk2 hg51 (.cons (show v31 = (2 : Int) from (of_decide_eq_true hg48)) (hk5 hg51 (hk6 hg52 (.cons hg51 (.cons hg52 (.cons hg50 (.cons hg51 (.cons hg50 .nil)))))))))))))))))) rfl
      replace ht := ite_f ht hg52
      have e := Option.some.inj ht
      subst e
      exact rb [hE, hE, hN (.ixc 2), hE, hE, hE, hE, hY, (.y, (.ixc 2)), hY, hY, (.y, (.ixc 2)), hY, hY, hN (.pk true), hE, hY, hY, (.y, (.ixc 2)), hY, hY, hY, hY, hY, (.y, (.ixc 2)), hY, hY, hY, hY, hY, hY, (.y, (.ixc 2)), hY, hY, hY, hY, (.y, (.pk false)), (.y, (.pk true)), hN (.pk false)] (decide (x7.1.Group ≤ x15.1.Fds)) (.cons (show v31 = (2 : Int) from (of_decide_eq_true hg48)) (hk2 hg49 (.cons (show v31 = (2 : Int) from (of_decide_eq_true hg48)) (hk3 hg49 (.cons (show v31 = (2 : Int) from (of_decide_eq_true hg48)) (hk3 hg49 (hk3 hg50 (.cons (show v31 = (2 : Int) from (of_decide_eq_true hg48)) (hk4 hg50 (hk2 hg51 (.cons (show v31 = (2 : Int) from (of_decide_eq_true hg48)) (hk5 hg51 (hk2 hg52 (.cons (show v31 = (2 : Int) from (of_decide_eq_true hg48)) (hk4 hg52 (.cons hg51 (.cons hg52 (.cons hg50 (.cons hg51 (.cons hg50 .nil)))))))))))))))))))) rfl
     replace ht := ite_f ht hg51
     have e := Option.some.inj ht
     subst e
     exact rb [hE, hE, hN (.ixc 2), hE, hE, hE, hE, hY, (.y, (.ixc 2)), hY, hY, (.y, (.ixc 2)), hY, hY, hN (.pk true), hE, hY, hY, (.y, (.ixc 2)), hY, hY, hY, hY, hS, hS, hS, hS, hS, hS, hS, (.u, .e), (.u, .e), (.u, .e), (.u, .e), (.u, .e), (.u, .e), hS, (.y, (.pk false)), hN (.pk false)] false (.cons (show v31 = (2 : Int) from (of_decide_eq_true hg48)) (hk2 hg49 (.cons (show v31 = (2 : Int) from (of_decide_eq_true hg48)) (hk3 hg49 (.cons (show v31 = (2 : Int) from (of_decide_eq_true hg48)) (hk3 hg49 (hk3 hg50 (.cons (show v31 = (2 : Int) from (of_decide_eq_true hg48)) (hk4 hg50 (hk8 hg51 (.cons hg50 (.cons hg51 (.cons hg50 .nil))))))))))))) rfl
    replace ht := ite_f ht hg49
    rcases Bool.eq_false_or_eq_true (!decide ((IntKind.wrap .i64 ((BitVec.ofInt (IntKind.bits .i64) flags &&& (BitVec.ofInt (IntKind.bits .i64) 36)).toNat : Nat)) = 0)) with hg53 | hg53
    ·replace ht := ite_t ht hg53
     rcases Bool.eq_false_or_eq_true (decide (x15.1.Fds < p.Group)) with hg54 | hg54
     ·replace ht := ite_t ht hg54
      have e := Option.some.inj ht
      subst e
      exact rb [hE, hE, hN (.ixc 2), hE, hE, hE, hE, hS, hS, hS, hS, hS, hS, hS, hN (.pk false), hE, hY, hY, (.y, (.ixc 2)), hY, hY, hY, hY, hY, (.y, (.ixc 2)), hY, hY, hY, hY, hY, hS, hS, hS, hS, hS, hS, (.y, (.pk true)), (.y, (.pk true)), hE] true (.cons (show v31 = (2 : Int) from (of_decide_eq_true hg48)) (hk8 hg49 (hk3 ff (.cons (show v31 = (2 : Int) from (of_decide_eq_true hg48)) (hk4 ff (hk2 hg53 (.cons (show v31 = (2 : Int) from (of_decide_eq_true hg48)) (hk5 hg53 (hk6 hg54 (.cons hg53 (.cons hg54 (.cons ff (.cons hg53 .nil))))))))))))) rfl
     replace ht := ite_f ht hg54
     have e := Option.some.inj ht
     subst e
     exact rb [hE, hE, hN (.ixc 2), hE, hE, hE, hE, hS, hS, hS, hS, hS, hS, hS, hN (.pk false), hE, hY, hY, (.y, (.ixc 2)), hY, hY, hY, hY, hY, (.y, (.ixc 2)), hY, hY, hY, hY, hY, hY, (.y, (.ixc 2)), hY, hY, hY, hY, (.y, (.pk false)), (.y, (.pk true)), hE] (decide (x7.1.Group ≤ x15.1.Fds)) (.cons (show v31 = (2 : Int) from (of_decide_eq_true hg48)) (hk8 hg49 (hk3 ff (.cons (show v31 = (2 : Int) from (of_decide_eq_true hg48)) (hk4 ff (hk2 hg53 (.cons (show v31 = (2 : Int) from (of_decide_eq_true hg48)) (hk5 hg53 (hk2 hg54 (.cons (show v31 = (2 : Int) from (of_decide_eq_true hg48)) (hk4 hg54 (.cons hg53 (.cons hg54 (.cons ff (.cons hg53 .nil))))))))))))))) rfl
    replace ht := ite_f ht hg53
    have e := Option.some.inj ht
    subst e
    exact rb [hE, hE, hN (.ixc 2), hE, hE, hE, hE, hS, hS, hS, hS, hS, hS, hS, hN (.pk false), hE, hY, hY, (.y, (.ixc 2)), hY, hY, hY, hY, hS, hS, hS, hS, hS, hS, hS, (.u, .e), (.u, .e), (.u, .e), (.u, .e), (.u, .e), (.u, .e), hS, (.y, (.pk false)), hE] false (.cons (show v31 = (2 : Int) from (of_decide_eq_true hg48)) (hk8 hg49 (hk3 ff (.cons (show v31 = (2 : Int) from (of_decide_eq_true hg48)) (hk4 ff (hk8 hg53 (.cons ff (.cons hg53 .nil)))))))) rfl
   replace ht := ite_f ht hg48
   cases ht
  clear ht
  refine x_cond _ rfl (fun hc56 => ?_) (fun hc56 => ?_)
  ·replace h := ite_t h hc56
   refine x_rg (rgn [hE] (⟨[(6, pB false)], [], 0⟩)) ?_
   refine x_toret (x_tr (x_br (x_tr (x_tr ?_))))
   replace h := done_leaf h hx32
   refine x_br (x_tr ?_)
   obtain rfl := Option.some.inj h
   exact ret0 (.bool false) (.refl _) (fun _ => rfl)
  replace h := ite_f h hc56
  refine kw0 (⟨[(2, pI flags), (3, .optr 0 0 0), (7, .optr 1 0 0), (14, .optr 3 0 0), (15, .optr 4 0 0), (16, .optr 5 0 0), (17, pI v31), (98, pI v31)], [(0, some (.p (some 3) [enc_api_Procs p])), (1, some (.h (some 3) [(gA7 x7.1 2)])), (2, rL (some 13) enc_api_Proc x7.1.L), (3, some (.p (some 3) [.agg [.int .i64 x14.1.Ns, .int .i64 x14.1.Env, .int .i64 x14.1.Fds]])), (4, some (.p (some 3) [.agg [.int .i64 x15.1.Ns, .int .i64 x15.1.Env, .int .i64 x15.1.Fds]])), (5, some (.p (some 3) [gA15]))], 6⟩) ?_
  refine x_skip (x_tn ?_)
  refine x_rg (rgn [hE, hE] (⟨[(2, pI flags), (3, .optr 0 0 0), (7, .optr 1 0 0), (14, .optr 3 0 0), (15, .optr 4 0 0), (16, .optr 5 0 0), (17, pI v31), (98, pI v31), (140, pI v31), (141, pI 0)], [(0, some (.p (some 3) [enc_api_Procs p])), (1, some (.h (some 3) [(gA7 x7.1 2)])), (2, rL (some 13) enc_api_Proc x7.1.L), (3, some (.p (some 3) [.agg [.int .i64 x14.1.Ns, .int .i64 x14.1.Env, .int .i64 x14.1.Fds]])), (4, some (.p (some 3) [.agg [.int .i64 x15.1.Ns, .int .i64 x15.1.Env, .int .i64 x15.1.Fds]])), (5, some (.p (some 3) [gA15]))], 6⟩)) ?_
  refine x_block ?_
  refine kw0 (⟨[(2, pI flags), (3, .optr 0 0 0), (7, .optr 1 0 0), (14, .optr 3 0 0), (15, .optr 4 0 0), (16, .optr 5 0 0), (17, pI v31), (98, pI v31), (140, pI v31), (141, pI 0)], [(0, some (.p (some 3) [enc_api_Procs p])), (1, some (.h (some 3) [(gA7 x7.1 2)])), (2, rL (some 13) enc_api_Proc x7.1.L), (3, some (.p (some 3) [.agg [.int .i64 x14.1.Ns, .int .i64 x14.1.Env, .int .i64 x14.1.Fds]])), (4, some (.p (some 3) [.agg [.int .i64 x15.1.Ns, .int .i64 x15.1.Env, .int .i64 x15.1.Fds]])), (5, some (.p (some 3) [gA15]))], 6⟩) ?_
  refine x_loop (σ := Int) h (fun s => ⟨[(2, pI flags), (3, .optr 0 0 0), (7, .optr 1 0 0), (14, .optr 3 0 0), (15, .optr 4 0 0), (16, .optr 5 0 0), (17, pI v31), (98, pI v31), (140, pI v31), (141, pI s)], [(0, some (.p (some 3) [enc_api_Procs p])), (1, some (.h (some 3) [(gA7 x7.1 2)])), (2, rL (some 13) enc_api_Proc x7.1.L), (3, some (.p (some 3) [.agg [.int .i64 x14.1.Ns, .int .i64 x14.1.Env, .int .i64 x14.1.Fds]])), (4, some (.p (some 3) [.agg [.int .i64 x15.1.Ns, .int .i64 x15.1.Env, .int .i64 x15.1.Fds]])), (5, some (.p (some 3) [gA15]))], 6⟩) (by kernel_rfl) ?_ ?_
  ·rintro v66
   kernel_rfl
  rintro v66 x67 h hx67
  replace h : law30_ProcGroups_L67 p x15 v31 v66 = some x67 := h
  unfold law30_ProcGroups_L67 at h
  refine x_rg (rgn [hE] (⟨[(2, pI flags), (3, .optr 0 0 0), (7, .optr 1 0 0), (14, .optr 3 0 0), (15, .optr 4 0 0), (16, .optr 5 0 0), (17, pI v31), (98, pI v31), (140, pI v31), (141, pI v66), (142, pB (decide (v66 < v31)))], [(0, some (.p (some 3) [enc_api_Procs p])), (1, some (.h (some 3) [(gA7 x7.1 2)])), (2, rL (some 13) enc_api_Proc x7.1.L), (3, some (.p (some 3) [.agg [.int .i64 x14.1.Ns, .int .i64 x14.1.Env, .int .i64 x14.1.Fds]])), (4, some (.p (some 3) [.agg [.int .i64 x15.1.Ns, .int .i64 x15.1.Env, .int .i64 x15.1.Fds]])), (5, some (.p (some 3) [gA15]))], 6⟩)) ?_
  refine x_seq ?_
  refine x_cond _ rfl (fun hc68 => ?_) (fun hc68 => ?_)
  ·replace h := ite_t h hc68
   refine kw0 (⟨[(2, pI flags), (3, .optr 0 0 0), (7, .optr 1 0 0), (14, .optr 3 0 0), (15, .optr 4 0 0), (16, .optr 5 0 0), (17, pI v31), (98, pI v31), (140, pI v31), (141, pI v66)], [(0, some (.p (some 3) [enc_api_Procs p])), (1, some (.h (some 3) [(gA7 x7.1 2)])), (2, rL (some 13) enc_api_Proc x7.1.L), (3, some (.p (some 3) [.agg [.int .i64 x14.1.Ns, .int .i64 x14.1.Env, .int .i64 x14.1.Fds]])), (4, some (.p (some 3) [.agg [.int .i64 x15.1.Ns, .int .i64 x15.1.Env, .int .i64 x15.1.Fds]])), (5, some (.p (some 3) [gA15]))], 6⟩) ?_
   refine x_skip (x_tn (x_seq (x_block ?_)))
   refine x_rg (rgn [hE, hE] (⟨[(2, pI flags), (3, .optr 0 0 0), (7, .optr 1 0 0), (14, .optr 3 0 0), (15, .optr 4 0 0), (16, .optr 5 0 0), (17, pI v31), (18, pI v66), (98, pI v31), (140, pI v31), (141, pI v66)], [(0, some (.p (some 3) [enc_api_Procs p])), (1, some (.h (some 3) [(gA7 x7.1 2)])), (2, rL (some 13) enc_api_Proc x7.1.L), (3, some (.p (some 3) [.agg [.int .i64 x14.1.Ns, .int .i64 x14.1.Env, .int .i64 x14.1.Fds]])), (4, some (.p (some 3) [.agg [.int .i64 x15.1.Ns, .int .i64 x15.1.Env, .int .i64 x15.1.Fds]])), (5, some (.p (some 3) [gA15]))], 6⟩)) ?_
   obtain ⟨t84, ht, h⟩ := bind_some h
   refine x_rgB (fun b_ => (⟨[(2, pI flags), (3, .optr 0 0 0), (7, .optr 1 0 0), (14, .optr 3 0 0), (15, .optr 4 0 0), (16, .optr 5 0 0), (17, pI v31), (98, pI v31), (140, pI v31), (141, pI v66), (158, pB b_)], [(0, some (.p (some 3) [enc_api_Procs p])), (1, some (.h (some 3) [(gA7 x7.1 2)])), (2, rL (some 13) enc_api_Proc x7.1.L), (3, some (.p (some 3) [.agg [.int .i64 x14.1.Ns, .int .i64 x14.1.Env, .int .i64 x14.1.Fds]])), (4, some (.p (some 3) [.agg [.int .i64 x15.1.Ns, .int .i64 x15.1.Env, .int .i64 x15.1.Fds]])), (5, some (.p (some 3) [gA15]))], 6⟩ : VSt)) t84 ?_ ?_
   ·rcases Bool.eq_false_or_eq_true (decide (v31 = (0 : Int))) with hg69 | hg69
    ·replace ht := ite_t ht hg69
     rcases Bool.eq_false_or_eq_true (decide (p.Group ≤ x15.1.Ns)) with hg70 | hg70
     ·replace ht := ite_t ht hg70
      rcases Bool.eq_false_or_eq_true (decide (v66 = (0 : Int))) with hg71 | hg71
      ·replace ht := ite_t ht hg71
       have e := Option.some.inj ht
       subst e
       exact rb [hE, hN (.ixc 0), hE, hE, hE, hE, hE, hY, (.y, (.ixc 0)), hY, hY, (.y, (.ixc 0)), hY, hY, hN (.pk true)] (decide (x15.1.Ns = x15.1.Ns)) (.cons (show v31 = (0 : Int) from (of_decide_eq_true hg69)) (hk2 hg70 (.cons (show v31 = (0 : Int) from (of_decide_eq_true hg69)) (hk3 hg70 (.cons (show v66 = (0 : Int) from (of_decide_eq_true hg71)) (hk3 hg70 .nil)))))) rfl
      replace ht := ite_f ht hg71
      rcases Bool.eq_false_or_eq_true (decide (v66 = (1 : Int))) with hg72 | hg72
      ·replace ht := ite_t ht hg72
       have e := Option.some.inj ht
       subst e
       exact rb [hE, hN (.ixc 0), hE, hE, hE, hE, hE, hY, (.y, (.ixc 0)), hY, hY, (.y, (.ixc 1)), hY, hY, hN (.pk true)] (decide (x15.1.Ns = x15.1.Env)) (.cons (show v31 = (0 : Int) from (of_decide_eq_true hg69)) (hk2 hg70 (.cons (show v31 = (0 : Int) from (of_decide_eq_true hg69)) (hk3 hg70 (.cons (show v66 = (1 : Int) from (of_decide_eq_true hg72)) (hk3 hg70 .nil)))))) rfl
      replace ht := ite_f ht hg72
      rcases Bool.eq_false_or_eq_true (decide (v66 = (2 : Int))) with hg73 | hg73
      ·replace ht := ite_t ht hg73
       have e := Option.some.inj ht
       subst e
       exact rb [hE, hN (.ixc 0), hE, hE, hE, hE, hE, hY, (.y, (.ixc 0)), hY, hY, (.y, (.ixc 2)), hY, hY, hN (.pk true)] (decide (x15.1.Ns = x15.1.Fds)) (.cons (show v31 = (0 : Int) from (of_decide_eq_true hg69)) (hk2 hg70 (.cons (show v31 = (0 : Int) from (of_decide_eq_true hg69)) (hk3 hg70 (.cons (show v66 = (2 : Int) from (of_decide_eq_true hg73)) (hk3 hg70 .nil)))))) rfl
      replace ht := ite_f ht hg73
      cases ht
     replace ht := ite_f ht hg70
     have e := Option.some.inj ht
     subst e
     exact rb [hE, hN (.ixc 0), hE, hE, hE, hE, hE, hS, hS, hS, hS, hS, hS, hS, hN (.pk false)] false (.cons (show v31 = (0 : Int) from (of_decide_eq_true hg69)) (hk8 hg70 .nil)) rfl
    replace ht := ite_f ht hg69
    rcases Bool.eq_false_or_eq_true (decide (v31 = (1 : Int))) with hg74 | hg74
    ·replace ht := ite_t ht hg74
     rcases Bool.eq_false_or_eq_true (decide (p.Group ≤ x15.1.Env)) with hg75 | hg75
     ·replace ht := ite_t ht hg75
      rcases Bool.eq_false_or_eq_true (decide (v66 = (0 : Int))) with hg76 | hg76
      ·replace ht := ite_t ht hg76
       have e := Option.some.inj ht
       subst e
       exact rb [hE, hN (.ixc 1), hE, hE, hE, hE, hE, hY, (.y, (.ixc 1)), hY, hY, (.y, (.ixc 0)), hY, hY, hN (.pk true)] (decide (x15.1.Env = x15.1.Ns)) (.cons (show v31 = (1 : Int) from (of_decide_eq_true hg74)) (hk2 hg75 (.cons (show v31 = (1 : Int) from (of_decide_eq_true hg74)) (hk3 hg75 (.cons (show v66 = (0 : Int) from (of_decide_eq_true hg76)) (hk3 hg75 .nil)))))) rfl
      replace ht := ite_f ht hg76
      rcases Bool.eq_false_or_eq_true (decide (v66 = (1 : Int))) with hg77 | hg77
      ·replace ht := ite_t ht hg77
       have e := Option.some.inj ht
       subst e
       exact rb [hE, hN (.ixc 1), hE, hE, hE, hE, hE, hY, (.y, (.ixc 1)), hY, hY, (.y, (.ixc 1)), hY, hY, hN (.pk true)] (decide (x15.1.Env = x15.1.Env)) (.cons (show v31 = (1 : Int) from (of_decide_eq_true hg74)) (hk2 hg75 (.cons (show v31 = (1 : Int) from (of_decide_eq_true hg74)) (hk3 hg75 (.cons (show v66 = (1 : Int) from (of_decide_eq_true hg77)) (hk3 hg75 .nil)))))) rfl
      replace ht := ite_f ht hg77
      rcases Bool.eq_false_or_eq_true (decide (v66 = (2 : Int))) with hg78 | hg78
      ·replace ht := ite_t ht hg78
       have e := Option.some.inj ht
       subst e
       exact rb [hE, hN (.ixc 1), hE, hE, hE, hE, hE, hY, (.y, (.ixc 1)), hY, hY, (.y, (.ixc 2)), hY, hY, hN (.pk true)] (decide (x15.1.Env = x15.1.Fds)) (.cons (show v31 = (1 : Int) from (of_decide_eq_true hg74)) (hk2 hg75 (.cons (show v31 = (1 : Int) from (of_decide_eq_true hg74)) (hk3 hg75 (.cons (show v66 = (2 : Int) from (of_decide_eq_true hg78)) (hk3 hg75 .nil)))))) rfl
      replace ht := ite_f ht hg78
      cases ht
     replace ht := ite_f ht hg75
     have e := Option.some.inj ht
     subst e
     exact rb [hE, hN (.ixc 1), hE, hE, hE, hE, hE, hS, hS, hS, hS, hS, hS, hS, hN (.pk false)] false (.cons (show v31 = (1 : Int) from (of_decide_eq_true hg74)) (hk8 hg75 .nil)) rfl
    replace ht := ite_f ht hg74
    rcases Bool.eq_false_or_eq_true (decide (v31 = (2 : Int))) with hg79 | hg79
    ·replace ht := ite_t ht hg79
     rcases Bool.eq_false_or_eq_true (decide (p.Group ≤ x15.1.Fds)) with hg80 | hg80
     ·replace ht := ite_t ht hg80
      rcases Bool.eq_false_or_eq_true (decide (v66 = (0 : Int))) with hg81 | hg81
      ·replace ht := ite_t ht hg81
       have e := Option.some.inj ht
       subst e
       exact rb [hE, hN (.ixc 2), hE, hE, hE, hE, hE, hY, (.y, (.ixc 2)), hY, hY, (.y, (.ixc 0)), hY, hY, hN (.pk true)] (decide (x15.1.Fds = x15.1.Ns)) (.cons (show v31 = (2 : Int) from (of_decide_eq_true hg79)) (hk2 hg80 (.cons (show v31 = (2 : Int) from (of_decide_eq_true hg79)) (hk3 hg80 (.cons (show v66 = (0 : Int) from (of_decide_eq_true hg81)) (hk3 hg80 .nil)))))) rfl
      replace ht := ite_f ht hg81
      rcases Bool.eq_false_or_eq_true (decide (v66 = (1 : Int))) with hg82 | hg82
      ·replace ht := ite_t ht hg82
       have e := Option.some.inj ht
       subst e
       exact rb [hE, hN (.ixc 2), hE, hE, hE, hE, hE, hY, (.y, (.ixc 2)), hY, hY, (.y, (.ixc 1)), hY, hY, hN (.pk true)] (decide (x15.1.Fds = x15.1.Env)) (.cons (show v31 = (2 : Int) from (of_decide_eq_true hg79)) (hk2 hg80 (.cons (show v31 = (2 : Int) from (of_decide_eq_true hg79)) (hk3 hg80 (.cons (show v66 = (1 : Int) from (of_decide_eq_true hg82)) (hk3 hg80 .nil)))))) rfl
      replace ht := ite_f ht hg82
      rcases Bool.eq_false_or_eq_true (decide (v66 = (2 : Int))) with hg83 | hg83
      ·replace ht := ite_t ht hg83
       have e := Option.some.inj ht
       subst e
       exact rb [hE, hN (.ixc 2), hE, hE, hE, hE, hE, hY, (.y, (.ixc 2)), hY, hY, (.y, (.ixc 2)), hY, hY, hN (.pk true)] (decide (x15.1.Fds = x15.1.Fds)) (.cons (show v31 = (2 : Int) from (of_decide_eq_true hg79)) (hk2 hg80 (.cons (show v31 = (2 : Int) from (of_decide_eq_true hg79)) (hk3 hg80 (.cons (show v66 = (2 : Int) from (of_decide_eq_true hg83)) (hk3 hg80 .nil)))))) rfl
      replace ht := ite_f ht hg83
      cases ht
     replace ht := ite_f ht hg80
     have e := Option.some.inj ht
     subst e
     exact rb [hE, hN (.ixc 2), hE, hE, hE, hE, hE, hS, hS, hS, hS, hS, hS, hS, hN (.pk false)] false (.cons (show v31 = (2 : Int) from (of_decide_eq_true hg79)) (hk8 hg80 .nil)) rfl
    replace ht := ite_f ht hg79
    cases ht
   clear ht
   refine x_cond _ rfl (fun hc85 => ?_) (fun hc85 => ?_)
   ·replace h := ite_t h hc85
    refine x_rg (rgn [hE] (⟨[(6, pB false)], [], 0⟩)) ?_
    refine x_toret (x_br (x_tr (x_tr ?_)))
    replace h := done_leaf h hx67
    refine x_br (x_br (x_tr (x_tr ?_)))
    replace h := done_leaf h hx32
    refine x_br (x_tr ?_)
    obtain rfl := Option.some.inj h
    exact ret0 (.bool false) (.refl _) (fun _ => rfl)
   replace h := ite_f h hc85
   refine kw0 (⟨[(2, pI flags), (3, .optr 0 0 0), (7, .optr 1 0 0), (14, .optr 3 0 0), (15, .optr 4 0 0), (16, .optr 5 0 0), (17, pI v31), (98, pI v31), (140, pI v31), (141, pI v66)], [(0, some (.p (some 3) [enc_api_Procs p])), (1, some (.h (some 3) [(gA7 x7.1 2)])), (2, rL (some 13) enc_api_Proc x7.1.L), (3, some (.p (some 3) [.agg [.int .i64 x14.1.Ns, .int .i64 x14.1.Env, .int .i64 x14.1.Fds]])), (4, some (.p (some 3) [.agg [.int .i64 x15.1.Ns, .int .i64 x15.1.Env, .int .i64 x15.1.Fds]])), (5, some (.p (some 3) [gA15]))], 6⟩) ?_
   refine x_skip (x_bn (x_tn ?_))
   refine x_rgt (rgn [hE, hE] (⟨[(2, pI flags), (3, .optr 0 0 0), (7, .optr 1 0 0), (14, .optr 3 0 0), (15, .optr 4 0 0), (16, .optr 5 0 0), (17, pI v31), (98, pI v31), (140, pI v31), (141, pI (IntKind.wrap .i64 (v66 + 1)))], [(0, some (.p (some 3) [enc_api_Procs p])), (1, some (.h (some 3) [(gA7 x7.1 2)])), (2, rL (some 13) enc_api_Proc x7.1.L), (3, some (.p (some 3) [.agg [.int .i64 x14.1.Ns, .int .i64 x14.1.Env, .int .i64 x14.1.Fds]])), (4, some (.p (some 3) [.agg [.int .i64 x15.1.Ns, .int .i64 x15.1.Env, .int .i64 x15.1.Fds]])), (5, some (.p (some 3) [gA15]))], 6⟩)) ?_
   refine x_tn ?_
   exact ⟨_, (Option.some.inj h).symm, by kernel_rfl⟩
  replace h := ite_f h hc68
  refine kw0 (⟨[(2, pI flags), (3, .optr 0 0 0), (7, .optr 1 0 0), (14, .optr 3 0 0), (15, .optr 4 0 0), (16, .optr 5 0 0), (98, pI v31)], [(0, some (.p (some 3) [enc_api_Procs p])), (1, some (.h (some 3) [(gA7 x7.1 2)])), (2, rL (some 13) enc_api_Proc x7.1.L), (3, some (.p (some 3) [.agg [.int .i64 x14.1.Ns, .int .i64 x14.1.Env, .int .i64 x14.1.Fds]])), (4, some (.p (some 3) [.agg [.int .i64 x15.1.Ns, .int .i64 x15.1.Env, .int .i64 x15.1.Fds]])), (5, some (.p (some 3) [gA15]))], 6⟩) ?_
  refine x_exit ?_
  refine x_te (x_te ?_)
  replace h := done_leaf h hx67
  refine x_bh ?_
  refine x_bn (x_tn ?_)
  refine x_rgt (rgn [hE, hE] (⟨[(2, pI flags), (3, .optr 0 0 0), (7, .optr 1 0 0), (14, .optr 3 0 0), (15, .optr 4 0 0), (16, .optr 5 0 0), (98, pI (IntKind.wrap .i64 (v31 + 1)))], [(0, some (.p (some 3) [enc_api_Procs p])), (1, some (.h (some 3) [(gA7 x7.1 2)])), (2, rL (some 13) enc_api_Proc x7.1.L), (3, some (.p (some 3) [.agg [.int .i64 x14.1.Ns, .int .i64 x14.1.Env, .int .i64 x14.1.Fds]])), (4, some (.p (some 3) [.agg [.int .i64 x15.1.Ns, .int .i64 x15.1.Env, .int .i64 x15.1.Fds]])), (5, some (.p (some 3) [gA15]))], 6⟩)) ?_
  refine x_tn ?_
  exact ⟨_, (Option.some.inj h).symm, by kernel_rfl⟩
 replace h := ite_f h hc33
 refine kw0 (⟨[], [], 0⟩) ?_
 refine x_exit ?_
 refine x_te (x_te ?_)
 replace h := done_map h hx32
 unfold law30_ProcGroups_A87 at h
 refine x_bh ?_
 refine x_tn ?_
 obtain ⟨x86, hx86, h⟩ := bind_some h
 refine x_rg (rg0 [hN (.cal [] (.bool x86) true), hE] (⟨[(6, pB x86)], [], 0⟩) (.cons (c8 hx86) .nil)) ?_
 refine x_toret ?_
 obtain rfl := Option.some.inj h
 exact ret0 (.bool x86) (.refl _) (fun _ => rfl)

end Go.Proofs.YtfaobpifaobobaaDoor
