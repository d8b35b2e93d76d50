import Derived.Test.YtgmlbldjdhonjaaDoorV
import Derived.Test.YtgmlbldjdhonjaaDoorS
import Derived.Test.YtgmlbldjdhonjaaDoorShelf
import Derived.Test.YtgmlbldjdhonjaaDoorVmB
import Derived.Test.YtgmlbldjdhonjaaDoorVmI
namespace Go.Proofs.YtgmlbldjdhonjaaDoor
open Go.Vm
set_option autoImplicit false
set_option linter.unusedVariables false
set_option linter.unusedSimpArgs false
set_option maxRecDepth 100000
abbrev gA1 (x_ : api_Procs) : PV := .agg [.int .i64 x_.Next,.int .i64 x_.Group,.usl (some 13) (List.map zE2 x_.L)]
abbrev gA2 : PV := .agg [.int .i64 0,.int .i64 0,.usl (some 13) []]
abbrev gA3 (x_ : api_Proc) : PV := .agg [.int .i64 x_.Id,.int .i64 x_.Parent,.int .i64 x_.State,.str x_.User,.str x_.Name,.int .i64 x_.Ns,.int .i64 x_.Env,.int .i64 x_.Fds,.str x_.Cwd,.usl none (List.map PV.str x_.Notes),.str x_.Status,.usl (some 2) (List.map zE1 x_.Waits),.bool x_.Alone]
abbrev gA4 : PV := .agg [.int .i64 0,.int .i64 0,.int .i64 0,.str [],.str [],.int .i64 0,.int .i64 0,.int .i64 0,.str [],.usl none [],.str [],.usl (some 2) [],.bool false]
abbrev gA5 (x_ : api_Proc) (k1 k2 : Nat) : HV := .agg [pI x_.Id,pI x_.Parent,pI x_.State,pS x_.User,pS x_.Name,pI x_.Ns,pI x_.Env,pI x_.Fds,pS x_.Cwd,oL k1 PV.str x_.Notes,pS x_.Status,oL k2 zE1 x_.Waits,pB x_.Alone]
abbrev gA6 (x_ : api_Proc) : PV := .agg [.int .i64 x_.Id,.int .i64 x_.Parent,.int .i64 x_.State,.str x_.User,.str x_.Name,.int .i64 x_.Ns,.int .i64 x_.Env,.int .i64 x_.Fds,.str x_.Cwd,.usl none (List.take (List.map PV.str x_.Notes).length (List.map PV.str x_.Notes)),.str x_.Status,.usl (some 2) (List.take (List.map zE1 x_.Waits).length (List.map zE1 x_.Waits)),.bool x_.Alone]
abbrev gA7 (x_ : api_Proc) : PV := .agg [.int .i64 x_.Id,.int .i64 x_.Parent,.int .i64 x_.State,.str x_.User,.str x_.Name,.int .i64 x_.Ns,.int .i64 x_.Env,.int .i64 x_.Fds,.str x_.Cwd,.sl none (List.map PV.str x_.Notes),.str x_.Status,.sl (some 2) (List.map zE1 x_.Waits),.bool x_.Alone]
abbrev gA8 (x_ : api_Procs) : PV := .agg [.int .i64 x_.Next,.int .i64 x_.Group,.dsl (some 13) (List.map zE2 x_.L) [9,11]]
abbrev gA9 (x_ : api_Procs) (k1 : Nat) : HV := .agg [pI x_.Next,pI x_.Group,oL k1 zE2 x_.L]
abbrev gA10 (x_ : api_Procs) : PV := .agg [.int .i64 x_.Next,.int .i64 x_.Group,.sl (some 13) (List.map zE2 x_.L)]
abbrev gA11 (x_ : api_Procs) : PV := .agg [.int .i64 x_.Next,.int .i64 x_.Group,.sl (some 13) (List.take (List.map zE2 x_.L).length (List.drop 0 (List.map zE2 x_.L)))]
abbrev gA12 (x_ : api_Procs) : HV := .agg [.pv (.int .i64 x_.Next),.pv (.int .i64 x_.Group),.osl 2 0 (List.map zE2 x_.L).length]
abbrev gA13 (x_ : api_Procs) : PV := .agg [.int .i64 x_.Next,.int .i64 x_.Group,.usl (some 13) (List.take (List.map zE2 x_.L).length (List.map zE2 x_.L))]
abbrev gA14 (x_ : api_Procs) : HV := .agg [.pv (.int .i64 x_.Next),.pv (.int .i64 x_.Group),.osl 3 0 (List.map zE2 x_.L).length]
abbrev gA15 : PV := .agg [.int .i64 0,.int .i64 1,.int .i64 2,.str [97,110,110],.str [114,99],.int .i64 0,.int .i64 0,.int .i64 0,.str [],.sl none [],.str [],.sl (some 2) [],.bool false]
abbrev gA16 : PV := .agg [.int .i64 0,.int .i64 0,.int .i64 0,.str [],.str [],.int .i64 0,.int .i64 0,.int .i64 0,.str [],.sl none (List.map PV.str ([] : List Str)),.str [],.usl (some 2) [],.bool false]
abbrev gA17 : PV := .agg [.int .i64 0,.int .i64 0,.int .i64 0,.int .i64 0,.int .i64 0,.int .i64 0,.int .i64 0,.int .i64 0,.int .i64 0,.str [],.str [],.str [],.str []]
theorem c13 {x_ : api_Proc} {r : Bool} (h : law31_slight x_ = some r) : CallOK Tryd.prog 13 [zE2 x_] (.bool r) true := by
 apply ok13
 unfold law31_slight at h
 refine x_rg (rgn [hE,hE] (⟨[oP 1 0],[rP 0 13 (zE2 x_)],1⟩)) ?_
 refine x_seq ?_
 refine x_rgB (fun b_ => (⟨[oP 1 0,(38,pB b_)],[rP 0 13 (zE2 x_)],1⟩ : VSt)) ((decide (20 < (List.length x_.Notes : Int))) || ((decide (70 < (List.length x_.Waits : Int))) || ((decide (200 < (List.length x_.User : Int))) || ((decide (2000 < (List.length x_.Name : Int))) || ((decide (2000 < (List.length x_.Cwd : Int))) || (decide (2000 < (List.length x_.Status : Int)))))))) ?_ ?_
 ·rcases bq (decide (20 < (List.length x_.Notes : Int))) with hg1 | hg1
  ·exact rb [hE,hE,hN (.len (List.length x_.Notes : Int)),hE,hE,hS,hS,hS,hS,hN (.pk true),hE,hS,hS,hS,hS,hE,hE,hS,hS,hS,hS,hE,hE,hS,hS,hS,hS,hE,hE,hS,hS,hS,hS,hE] true (kc (lenM PV.str x_.Notes) (hk5 hg1 (hk8 tt (hk8 tt .nil)))) (by simp only [hg1,bs,reduceIte])
  rcases bq (decide (70 < (List.length x_.Waits : Int))) with hg2 | hg2
  ·exact rb [hE,hE,hN (.len (List.length x_.Notes : Int)),hE,hE,hY,hY,(.y,(.len (List.length x_.Waits : Int))),hY,hN (.pk false),hE,hS,hS,hS,hS,hN (.pk true),hE,hS,hS,hS,hS,hE,hE,hS,hS,hS,hS,hE,hE,hS,hS,hS,hS,hE] true (kc (lenM PV.str x_.Notes) (hk3 hg1 (kc (lenM zE1 x_.Waits) (hk2 hg1 (hk5 hg2 (hk4 tt (hk8 tt .nil))))))) (by simp only [hg1,hg2,bs,reduceIte])
  rcases bq (decide (200 < (List.length x_.User : Int))) with hg3 | hg3
  ·exact rb [hE,hE,hN (.len (List.length x_.Notes : Int)),hE,hE,hY,hY,(.y,(.len (List.length x_.Waits : Int))),hY,hN (.pk false),hE,hY,hY,hY,hY,hN (.pk false),hE,hS,hS,hS,hS,hN (.pk true),hE,hS,hS,hS,hS,hE,hE,hS,hS,hS,hS,hE] true (kc (lenM PV.str x_.Notes) (hk3 hg1 (kc (lenM zE1 x_.Waits) (hk2 hg1 (hk5 hg2 (hk5 hg3 (hk8 tt .nil))))))) (by simp only [hg1,hg2,hg3,bs,reduceIte])
  rcases bq (decide (2000 < (List.length x_.Name : Int))) with hg4 | hg4
  ·exact rb [hE,hE,hN (.len (List.length x_.Notes : Int)),hE,hE,hY,hY,(.y,(.len (List.length x_.Waits : Int))),hY,hN (.pk false),hE,hY,hY,hY,hY,hN (.pk false),hE,hY,hY,hY,hY,hN (.pk false),hE,hS,hS,hS,hS,hN (.pk true),hE,hS,hS,hS,hS,hE] true (kc (lenM PV.str x_.Notes) (hk3 hg1 (kc (lenM zE1 x_.Waits) (hk2 hg1 (hk5 hg2 (hk5 hg3 (hk5 hg4 (hk4 tt .nil)))))))) (by simp only [hg1,hg2,hg3,hg4,bs,reduceIte])
  rcases bq (decide (2000 < (List.length x_.Cwd : Int))) with hg5 | hg5
  ·exact rb [hE,hE,hN (.len (List.length x_.Notes : Int)),hE,hE,hY,hY,(.y,(.len (List.length x_.Waits : Int))),hY,hN (.pk false),hE,hY,hY,hY,hY,hN (.pk false),hE,hY,hY,hY,hY,hN (.pk false),hE,hY,hY,hY,hY,hN (.pk false),hE,hS,hS,hS,hS,hN (.pk true)] true (kc (lenM PV.str x_.Notes) (hk3 hg1 (kc (lenM zE1 x_.Waits) (hk2 hg1 (hk5 hg2 (hk5 hg3 (hk5 hg4 (hk5 hg5 .nil)))))))) (by simp only [hg1,hg2,hg3,hg4,hg5,bs,reduceIte])
  exact rb [hE,hE,hN (.len (List.length x_.Notes : Int)),hE,hE,hY,hY,(.y,(.len (List.length x_.Waits : Int))),hY,hN (.pk false),hE,hY,hY,hY,hY,hN (.pk false),hE,hY,hY,hY,hY,hN (.pk false),hE,hY,hY,hY,hY,hN (.pk false),hE,hY,hY,hY,hY,hN (.pk false)] (decide (2000 < (List.length x_.Status : Int))) (kc (lenM PV.str x_.Notes) (hk3 hg1 (kc (lenM zE1 x_.Waits) (hk2 hg1 (hk5 hg2 (hk5 hg3 (hk5 hg4 (hk5 hg5 .nil)))))))) (by simp only [hg1,hg2,hg3,hg4,hg5,bs,reduceIte])
 refine x_if h rfl (fun hc7 h => ?_) (fun hc7 h => ?_)
 ·refine x_rg (rgn [hE] (⟨[(2,pB false)],[],0⟩)) ?_
  refine x_toret (x_tr ?_)
  obtain rfl := sj h
  exact ret0 (.bool false) (.refl _) (fun _ => rfl)
 refine x_kk (x_skip (x_tn (x_seq ?_)))
 refine x_rg (rg0 [hE,hE,hN (.len (List.length x_.Notes : Int)),hE] (⟨[oP 1 0,(41,pI (List.length x_.Notes : Int)),(42,pI 0)],[rP 0 13 (zE2 x_)],1⟩) (kc (lenM PV.str x_.Notes) .nil)) ?_
 refine x_block ?_
 refine kw0 (⟨[oP 1 0,(41,pI (List.length x_.Notes : Int)),(42,pI 0)],[rP 0 13 (zE2 x_)],1⟩) ?_
 refine x_loop (σ := Int) h (fun s => ⟨[oP 1 0,(41,pI (List.length x_.Notes : Int)),(42,pI s)],[rP 0 13 (zE2 x_)],1⟩) (by kernel_rfl) ?_ ?_
 ·rintro v11
  kernel_rfl
 rintro v11 x12 h hx12
 replace h : law31_slight_L12 x_ v11 = some x12 := h
 unfold law31_slight_L12 at h
 refine x_rg (rgn [hE] (⟨[oP 1 0,(41,pI (List.length x_.Notes : Int)),(42,pI v11),(43,pB (decide (v11 < (List.length x_.Notes : Int))))],[rP 0 13 (zE2 x_)],1⟩)) ?_
 refine x_seq ?_
 refine x_if h rfl (fun hc13 h => ?_) (fun hc13 h => ?_)
 ·refine x_kk (x_skip (x_tn (x_seq (x_block ?_))))
  refine x_rg (rgn [hE,hE] (⟨[oP 1 0,(3,pI v11),(41,pI (List.length x_.Notes : Int)),(42,pI v11)],[rP 0 13 (zE2 x_)],1⟩)) ?_
  obtain ⟨x14,hx14,h⟩ := bind_some h
  refine x_rg (rg0 [hE,hE,hE,hN (.pAt (.str x14)),hE,hE,hE] (⟨[oP 1 0,(41,pI (List.length x_.Notes : Int)),(42,pI v11),(51,pB (decide (2000 < (List.length x14 : Int))))],[rP 0 13 (zE2 x_)],1⟩) (kc (lsAt_map (f := PV.str) hx14) .nil)) ?_
  refine x_if h rfl (fun hc15 h => ?_) (fun hc15 h => ?_)
  ·refine x_rg (rgn [hE] (⟨[(2,pB false)],[],0⟩)) ?_
   refine x_toret (x_br (x_tr (x_tr ?_)))
   replace h := done_leaf h hx12
   refine x_br (x_tr ?_)
   obtain rfl := sj h
   exact ret0 (.bool false) (.refl _) (fun _ => rfl)
  refine x_kk (x_skip (x_bn (x_tn ?_)))
  refine x_rgt (rgn [hE,hE] (⟨[oP 1 0,(41,pI (List.length x_.Notes : Int)),(42,pI (IntKind.wrap .i64 (v11 + 1)))],[rP 0 13 (zE2 x_)],1⟩)) ?_
  refine x_tn ?_
  exact ⟨_,(sj h).symm,by kernel_rfl⟩
 refine kw0 (⟨[oP 1 0],[rP 0 13 (zE2 x_)],1⟩) ?_
 refine x_exit ?_
 refine x_te (x_te ?_)
 replace h := done_map h hx12
 refine x_bh ?_
 refine x_tn (x_seq ?_)
 refine x_rg (rg0 [hE,hE,hN (.len (List.length x_.Waits : Int)),hE] (⟨[oP 1 0,(55,pI (List.length x_.Waits : Int)),(56,pI 0)],[rP 0 13 (zE2 x_)],1⟩) (kc (lenM zE1 x_.Waits) .nil)) ?_
 refine x_block ?_
 refine kw0 (⟨[oP 1 0,(55,pI (List.length x_.Waits : Int)),(56,pI 0)],[rP 0 13 (zE2 x_)],1⟩) ?_
 refine x_loop (σ := Int) h (fun s => ⟨[oP 1 0,(55,pI (List.length x_.Waits : Int)),(56,pI s)],[rP 0 13 (zE2 x_)],1⟩) (by kernel_rfl) ?_ ?_
 ·rintro v19
  kernel_rfl
 rintro v19 x20 h hx20
 replace h : law31_slight_L20 x_ v19 = some x20 := h
 unfold law31_slight_L20 at h
 refine x_rg (rgn [hE] (⟨[oP 1 0,(55,pI (List.length x_.Waits : Int)),(56,pI v19),(57,pB (decide (v19 < (List.length x_.Waits : Int))))],[rP 0 13 (zE2 x_)],1⟩)) ?_
 refine x_seq ?_
 refine x_if h rfl (fun hc21 h => ?_) (fun hc21 h => ?_)
 ·refine x_kk (x_skip (x_tn (x_seq (x_block ?_))))
  refine x_rg (rgn [hE,hE] (⟨[oP 1 0,(4,pI v19),(55,pI (List.length x_.Waits : Int)),(56,pI v19)],[rP 0 13 (zE2 x_)],1⟩)) ?_
  obtain ⟨x22,hx22,h⟩ := bind_some h
  refine x_rg (rg0 [hE,hE,hE,hN (.pAt (zE1 x22)),hE,hE,hE,hE] (⟨[oP 1 0,(55,pI (List.length x_.Waits : Int)),(56,pI v19),(66,pB (decide (2000 < (List.length x22.Status : Int))))],[rP 0 13 (zE2 x_)],1⟩) (kc (lsAt_map (f := zE1) hx22) .nil)) ?_
  refine x_if h rfl (fun hc23 h => ?_) (fun hc23 h => ?_)
  ·refine x_rg (rgn [hE] (⟨[(2,pB false)],[],0⟩)) ?_
   refine x_toret (x_br (x_tr (x_tr ?_)))
   replace h := done_leaf h hx20
   refine x_br (x_tr ?_)
   obtain rfl := sj h
   exact ret0 (.bool false) (.refl _) (fun _ => rfl)
  refine x_kk (x_skip (x_bn (x_tn ?_)))
  refine x_rgt (rgn [hE,hE] (⟨[oP 1 0,(55,pI (List.length x_.Waits : Int)),(56,pI (IntKind.wrap .i64 (v19 + 1)))],[rP 0 13 (zE2 x_)],1⟩)) ?_
  refine x_tn ?_
  exact ⟨_,(sj h).symm,by kernel_rfl⟩
 refine kw0 (⟨[],[],0⟩) ?_
 refine x_exit ?_
 refine x_te (x_te ?_)
 replace h := done_leaf h hx20
 refine x_bh ?_
 refine x_tn ?_
 refine x_rg (rgn [hE] (⟨[(2,pB true)],[],0⟩)) ?_
 refine x_toret ?_
 obtain rfl := sj h
 exact ret0 (.bool true) (.refl _) (fun _ => rfl)
theorem c8 {p : api_Procs} {r : Bool} (h : law31_small p = some r) : CallOK Tryd.prog 8 [zE3 p] (.bool r) true := by
 apply ok8
 unfold law31_small at h
 refine x_rg (rgn [hE,hE] (⟨[oP 1 0],[rP 0 3 (zE3 p)],1⟩)) ?_
 refine x_seq ?_
 refine x_rg (rg0 [hE,hE,hN (.len (List.length p.L : Int)),hE] (⟨[oP 1 0,(7,pB (decide (70 < (List.length p.L : Int))))],[rP 0 3 (zE3 p)],1⟩) (kc (lenM zE2 p.L) .nil)) ?_
 refine x_if h rfl (fun hc1 h => ?_) (fun hc1 h => ?_)
 ·refine x_rg (rgn [hE] (⟨[(2,pB false)],[],0⟩)) ?_
  refine x_toret (x_tr ?_)
  obtain rfl := sj h
  exact ret0 (.bool false) (.refl _) (fun _ => rfl)
 refine x_kk (x_skip (x_tn (x_seq ?_)))
 refine x_rg (rg0 [hE,hE,hN (.len (List.length p.L : Int)),hE] (⟨[oP 1 0,(10,pI (List.length p.L : Int)),(11,pI 0)],[rP 0 3 (zE3 p)],1⟩) (kc (lenM zE2 p.L) .nil)) ?_
 refine x_block ?_
 refine kw0 (⟨[oP 1 0,(10,pI (List.length p.L : Int)),(11,pI 0)],[rP 0 3 (zE3 p)],1⟩) ?_
 refine x_loop (σ := Int) h (fun s => ⟨[oP 1 0,(10,pI (List.length p.L : Int)),(11,pI s)],[rP 0 3 (zE3 p)],1⟩) (by kernel_rfl) ?_ ?_
 ·rintro v6
  kernel_rfl
 rintro v6 x7 h hx7
 replace h : law31_small_L7 p v6 = some x7 := h
 unfold law31_small_L7 at h
 refine x_rg (rgn [hE] (⟨[oP 1 0,(10,pI (List.length p.L : Int)),(11,pI v6),(12,pB (decide (v6 < (List.length p.L : Int))))],[rP 0 3 (zE3 p)],1⟩)) ?_
 refine x_seq ?_
 refine x_if h rfl (fun hc8 h => ?_) (fun hc8 h => ?_)
 ·refine x_kk (x_skip (x_tn (x_seq (x_block ?_))))
  refine x_rg (rgn [hE,hE] (⟨[oP 1 0,(3,pI v6),(10,pI (List.length p.L : Int)),(11,pI v6)],[rP 0 3 (zE3 p)],1⟩)) ?_
  obtain ⟨x9,hx9,h⟩ := bind_some h
  obtain ⟨x10,hx10,h⟩ := bind_some h
  refine x_rg (rg0 [hE,hE,hE,hN (.pAt (zE2 x9)),hE,hN (.cal [] (.bool x10) true),hE] (⟨[oP 1 0,(10,pI (List.length p.L : Int)),(11,pI v6),(20,pB (!x10))],[rP 0 3 (zE3 p)],1⟩) (kc (lsAt_map (f := zE2) hx9) (kc (c13 hx10) .nil))) ?_
  refine x_if h rfl (fun hc11 h => ?_) (fun hc11 h => ?_)
  ·refine x_rg (rgn [hE] (⟨[(2,pB false)],[],0⟩)) ?_
   refine x_toret (x_br (x_tr (x_tr ?_)))
   replace h := done_leaf h hx7
   refine x_br (x_tr ?_)
   obtain rfl := sj h
   exact ret0 (.bool false) (.refl _) (fun _ => rfl)
  refine x_kk (x_skip (x_bn (x_tn ?_)))
  refine x_rgt (rgn [hE,hE] (⟨[oP 1 0,(10,pI (List.length p.L : Int)),(11,pI (IntKind.wrap .i64 (v6 + 1)))],[rP 0 3 (zE3 p)],1⟩)) ?_
  refine x_tn ?_
  exact ⟨_,(sj h).symm,by kernel_rfl⟩
 refine kw0 (⟨[],[],0⟩) ?_
 refine x_exit ?_
 refine x_te (x_te ?_)
 replace h := done_leaf h hx7
 refine x_bh ?_
 refine x_tn ?_
 refine x_rg (rgn [hE] (⟨[(2,pB true)],[],0⟩)) ?_
 refine x_toret ?_
 obtain rfl := sj h
 exact ret0 (.bool true) (.refl _) (fun _ => rfl)
theorem c49 {name : Str} {r : Bool} (h : ref05_Valid name = some r) : CallOK Tryd.prog 49 [.str name] (.bool r) true := by
 apply ok49
 unfold ref05_Valid at h
 refine x_rg (rgn [hE] (⟨[(0,pS name)],[],0⟩)) ?_
 refine x_seq ?_
 refine x_rgB (fun b_ => (⟨[(0,pS name),(13,pB b_)],[],0⟩ : VSt)) ((decide ((List.length name : Int) < 1)) || (decide (32 < (List.length name : Int)))) ?_ ?_
 ·rcases bq (decide ((List.length name : Int) < 1)) with hg1 | hg1
  ·exact rb [hE,hE,hE,hE,hS,hS,hS,hN (.pk true)] true (hk4 hg1 .nil) (by simp only [hg1,bs,reduceIte])
  exact rb [hE,hE,hE,hE,hY,hY,hY,hN (.pk false)] (decide (32 < (List.length name : Int))) (hk4 hg1 .nil) (by simp only [hg1,bs,reduceIte])
 refine x_if h rfl (fun hc3 h => ?_) (fun hc3 h => ?_)
 ·refine x_rg (rgn [hE] (⟨[(2,pB false)],[],0⟩)) ?_
  refine x_toret (x_tr ?_)
  obtain rfl := sj h
  exact ret0 (.bool false) (.refl _) (fun _ => rfl)
 refine x_kk (x_skip (x_tn (x_seq ?_)))
 refine x_rg (rgn [hE] (⟨[(0,pS name),(3,pI 0)],[],0⟩)) ?_
 refine x_block ?_
 refine kw0 (⟨[(0,pS name),(3,pI 0)],[],0⟩) ?_
 refine x_loop (σ := Int) h (fun s => ⟨[(0,pS name),(3,pI s)],[],0⟩) (by kernel_rfl) ?_ ?_
 ·rintro i
  kernel_rfl
 rintro i x12 h hx12
 replace h : ref05_Valid_L12 name i = some x12 := h
 unfold ref05_Valid_L12 at h
 refine x_seq ?_
 refine x_rg (rgn [hE,hE,hE,hE] (⟨[(0,pS name),(3,pI i),(17,pB (decide (i < (List.length name : Int))))],[],0⟩)) ?_
 refine x_if h rfl (fun hc13 h => ?_) (fun hc13 h => ?_)
 ·refine x_kk (x_skip (x_tn (x_seq (x_block ?_))))
  obtain ⟨c14,hc14,h⟩ := bind_some h
  refine x_rg (rg0 [hE,hE,hN (.sAt c14),hE] (⟨[(0,pS name),(3,pI i),(4,.pv (.int .u8 (c14.toNat : Int)))],[],0⟩) (kc hc14 .nil)) ?_
  refine x_rgB (fun b_ => (⟨[(0,pS name),(3,pI i),(4,.pv (.int .u8 (c14.toNat : Int))),(5,pB b_)],[],0⟩ : VSt)) ((decide (97 ≤ (c14.toNat : Int))) && (decide ((c14.toNat : Int) ≤ 122))) ?_ ?_
  ·rcases bq (decide (97 ≤ (c14.toNat : Int))) with hg15 | hg15
   ·exact rb [hE,hE,hE,hY,hY,hN (.pk true),hE] (decide ((c14.toNat : Int) ≤ 122)) (hk3 hg15 .nil) (by simp only [hg15,bs,reduceIte])
   exact rb [hE,hE,hE,hS,hS,hN (.pk false),hE] false (hk3 hg15 .nil) (by simp only [hg15,bs,reduceIte])
  refine x_rgB (fun b_ => (⟨[(0,pS name),(3,pI i),(51,pB b_)],[],0⟩ : VSt)) ((!((decide (97 ≤ (c14.toNat : Int))) && (decide ((c14.toNat : Int) ≤ 122)))) && ((decide (i = 0)) || (if (decide (48 ≤ (c14.toNat : Int))) then ((!(decide ((c14.toNat : Int) ≤ 57))) && ((!decide ((c14.toNat : Int) = 45)) && (!decide ((c14.toNat : Int) = 95)))) else ((!decide ((c14.toNat : Int) = 45)) && (!decide ((c14.toNat : Int) = 95)))))) ?_ ?_
  ·rcases bq (!((decide (97 ≤ (c14.toNat : Int))) && (decide ((c14.toNat : Int) ≤ 122)))) with hg17 | hg17
   ·rcases bq (decide (i = 0)) with hg18 | hg18
    ·exact rb [hE,hE,hE,hY,hY,hY,hS,hS,hS,(.u,.e),(.u,.e),hS,hS,hS,(.u,.e),(.u,.e),hS,hS,(.u,.e),(.u,.e),hS,(.y,(.pk true)),hN (.pk true)] true (hk3 hg17 (kc hg18 (hk8 hg18 (kc hg17 (kc hg18 (kc hg17 .nil)))))) (by simp only [hg17,hg18,bs,reduceIte])
    rcases bq (decide (48 ≤ (c14.toNat : Int))) with hg19 | hg19
    ·rcases bq (!(decide ((c14.toNat : Int) ≤ 57))) with hg20 | hg20
     ·rcases bq (!decide ((c14.toNat : Int) = 45)) with hg21 | hg21
      ·exact rb [hE,hE,hE,hY,hY,hY,hY,hY,hY,hY,hY,(.y,(.pk true)),hY,hY,hY,hY,(.y,(.pk true)),hY,hY,hY,(.y,(.pk true)),(.y,(.pk false)),hN (.pk true)] (!decide ((c14.toNat : Int) = 95)) (hk3 hg17 (hk3 hg18 (hk2 hg19 (kc hg18 (kc hg19 (hk2 hg18 (hk2 hg20 (kc hg18 (kc hg20 (kc hg18 (hk2 hg21 (kc hg18 (kc hg21 (kc hg17 (kc hg18 (kc hg17 .nil)))))))))))))))) (by simp only [hg17,hg18,hg19,hg20,hg21,bs,reduceIte])
      exact rb [hE,hE,hE,hY,hY,hY,hY,hY,hY,hY,hY,(.y,(.pk true)),hY,hY,hY,hY,(.y,(.pk true)),hY,hS,hS,(.y,(.pk false)),(.y,(.pk false)),hN (.pk true)] false (hk3 hg17 (hk3 hg18 (hk2 hg19 (kc hg18 (kc hg19 (hk2 hg18 (hk2 hg20 (kc hg18 (kc hg20 (kc hg18 (hk2 hg21 (kc hg18 (kc hg21 (kc hg17 (kc hg18 (kc hg17 .nil)))))))))))))))) (by simp only [hg17,hg18,hg19,hg20,hg21,bs,reduceIte])
     exact rb [hE,hE,hE,hY,hY,hY,hY,hY,hY,hY,hY,(.y,(.pk true)),hY,hY,hS,hS,(.y,(.pk false)),hY,hS,hS,hY,(.y,(.pk false)),hN (.pk true)] false (hk3 hg17 (hk3 hg18 (hk2 hg19 (kc hg18 (kc hg19 (hk2 hg18 (hk2 hg20 (kc hg18 (kc hg20 (kc hg18 (hk2 ff (kc hg18 (kc hg17 (kc hg18 (kc hg17 .nil))))))))))))))) (by simp only [hg17,hg18,hg19,hg20,bs,reduceIte])
    rcases bq (!decide ((c14.toNat : Int) = 45)) with hg22 | hg22
    ·exact rb [hE,hE,hE,hY,hY,hY,hY,hY,hY,hS,hS,(.y,(.pk false)),hY,hY,hY,hY,hY,hY,hY,hY,(.y,(.pk true)),(.y,(.pk false)),hN (.pk true)] (!decide ((c14.toNat : Int) = 95)) (hk3 hg17 (hk3 hg18 (hk2 hg19 (kc hg18 (kc hg19 (hk2 hg18 (hk2 tt (hk2 hg18 (hk2 hg22 (kc hg18 (kc hg22 (kc hg17 (kc hg18 (kc hg17 .nil)))))))))))))) (by simp only [hg17,hg18,hg19,hg22,bs,reduceIte])
    exact rb [hE,hE,hE,hY,hY,hY,hY,hY,hY,hS,hS,(.y,(.pk false)),hY,hY,hY,hY,hY,hY,hS,hS,(.y,(.pk false)),(.y,(.pk false)),hN (.pk true)] false (hk3 hg17 (hk3 hg18 (hk2 hg19 (kc hg18 (kc hg19 (hk2 hg18 (hk2 tt (hk2 hg18 (hk2 hg22 (kc hg18 (kc hg22 (kc hg17 (kc hg18 (kc hg17 .nil)))))))))))))) (by simp only [hg17,hg18,hg19,hg22,bs,reduceIte])
   exact rb [hE,hE,hE,hS,hS,hS,(.u,.e),(.u,.e),(.u,.e),(.u,.e),(.u,.e),(.u,.e),(.u,.e),(.u,.e),(.u,.e),(.u,.e),(.u,.e),(.u,.e),(.u,.e),(.u,.e),(.u,.e),hS,hN (.pk false)] false (hk5 hg17 .nil) (by simp only [hg17,bs,reduceIte])
  refine x_if h rfl (fun hc24 h => ?_) (fun hc24 h => ?_)
  ·refine x_rg (rgn [hE] (⟨[(2,pB false)],[],0⟩)) ?_
   refine x_toret (x_br (x_tr (x_tr ?_)))
   replace h := done_leaf h hx12
   refine x_br (x_tr ?_)
   obtain rfl := sj h
   exact ret0 (.bool false) (.refl _) (fun _ => rfl)
  refine x_kk (x_skip (x_bn (x_tn ?_)))
  refine x_rgt (rgn [hE,hE,hE] (⟨[(0,pS name),(3,pI (IntKind.wrap .i64 (i + 1)))],[],0⟩)) ?_
  refine x_tn ?_
  exact ⟨_,(sj h).symm,by kernel_rfl⟩
 refine kw0 (⟨[],[],0⟩) ?_
 refine x_exit ?_
 refine x_te (x_te ?_)
 replace h := done_leaf h hx12
 refine x_bh ?_
 refine x_tn ?_
 refine x_rg (rgn [hE] (⟨[(2,pB true)],[],0⟩)) ?_
 refine x_toret ?_
 obtain rfl := sj h
 exact ret0 (.bool true) (.refl _) (fun _ => rfl)
theorem c50 {name : Str} {r : Bool} (h : ref03_Valid name = some r) : CallOK Tryd.prog 50 [.str name] (.bool r) true := by
 apply ok50
 unfold ref03_Valid at h
 refine x_rg (rgn [hE] (⟨[(0,pS name)],[],0⟩)) ?_
 refine x_seq ?_
 refine x_rg (rgn [hE] (⟨[(0,pS name),(3,pI 0)],[],0⟩)) ?_
 refine x_block ?_
 refine kw0 (⟨[(0,pS name),(3,pI 0)],[],0⟩) ?_
 refine x_loop (σ := Int) h (fun s => ⟨[(0,pS name),(3,pI s)],[],0⟩) (by kernel_rfl) ?_ ?_
 ·rintro i
  kernel_rfl
 rintro i x10 h hx10
 replace h : ref03_Valid_L10 name i = some x10 := h
 unfold ref03_Valid_L10 at h
 refine x_seq ?_
 refine x_rg (rgn [hE,hE,hE,hE] (⟨[(0,pS name),(3,pI i),(7,pB (decide (i < (List.length name : Int))))],[],0⟩)) ?_
 refine x_if h rfl (fun hc11 h => ?_) (fun hc11 h => ?_)
 ·refine x_kk (x_skip (x_tn (x_seq (x_block ?_))))
  obtain ⟨c12,hc12,h⟩ := bind_some h
  obtain ⟨t17,ht,h⟩ := bind_some h
  refine x_rgB (fun b_ => (⟨[(0,pS name),(3,pI i),(25,pB b_)],[],0⟩ : VSt)) t17 ?_ ?_
  ·rcases bq (decide ((c12.toNat : Int) < 33)) with hg13 | hg13
   ·replace ht := ite_t ht hg13
    obtain rfl := sj ht
    exact rb [hE,hE,hN (.sAt c12),hE,hE,hS,hS,hS,hS,hN (.pk true),hE,hS,hS,hS,hS,hE] true (kc hc12 (hk5 hg13 (hk4 tt .nil))) rfl
   replace ht := ite_f ht hg13
   obtain ⟨c14,hc14,ht⟩ := bind_some ht
   rcases bq (decide (126 < (c14.toNat : Int))) with hg15 | hg15
   ·replace ht := ite_t ht hg15
    obtain rfl := sj ht
    exact rb [hE,hE,hN (.sAt c12),hE,hE,hY,hY,(.y,(.sAt c14)),hY,hN (.pk false),hE,hS,hS,hS,hS,hN (.pk true)] true (kc hc12 (hk3 hg13 (kc hc14 (hk2 hg13 (hk5 hg15 .nil))))) rfl
   replace ht := ite_f ht hg15
   obtain ⟨c16,hc16,ht⟩ := bind_some ht
   obtain rfl := sj ht
   exact rb [hE,hE,hN (.sAt c12),hE,hE,hY,hY,(.y,(.sAt c14)),hY,hN (.pk false),hE,hY,hY,(.y,(.sAt c16)),hY,hN (.pk false)] (decide ((c16.toNat : Int) = 47)) (kc hc12 (hk3 hg13 (kc hc14 (hk2 hg13 (hk3 hg15 (kc hc16 (hk2 hg15 .nil))))))) rfl
  clear ht
  refine x_if h rfl (fun hc18 h => ?_) (fun hc18 h => ?_)
  ·refine x_rg (rgn [hE] (⟨[(2,pB false)],[],0⟩)) ?_
   refine x_toret (x_br (x_tr (x_tr ?_)))
   replace h := done_leaf h hx10
   refine x_br (x_tr ?_)
   obtain rfl := sj h
   exact ret0 (.bool false) (.refl _) (fun _ => rfl)
  refine x_kk (x_skip (x_bn (x_tn ?_)))
  refine x_rgt (rgn [hE,hE,hE] (⟨[(0,pS name),(3,pI (IntKind.wrap .i64 (i + 1)))],[],0⟩)) ?_
  refine x_tn ?_
  exact ⟨_,(sj h).symm,by kernel_rfl⟩
 refine kw0 (⟨[(0,pS name)],[],0⟩) ?_
 refine x_exit ?_
 refine x_te (x_te ?_)
 replace h := done_leaf h hx10
 refine x_bh ?_
 refine x_tn ?_
 refine x_rgB (fun b_ => (⟨[(2,pB b_)],[],0⟩ : VSt)) ((decide (1 ≤ (List.length name : Int))) && ((decide ((List.length name : Int) ≤ 64)) && ((!decide (name = [46])) && (!decide (name = [46,46]))))) ?_ ?_
 ·rcases bq (decide (1 ≤ (List.length name : Int))) with hg19 | hg19
  ·rcases bq (decide ((List.length name : Int) ≤ 64)) with hg20 | hg20
   ·rcases bq (!decide (name = [46])) with hg21 | hg21
    ·exact rb [hE,hE,hE,hE,hY,hY,hY,hN (.pk true),hE,hY,hY,hN (.pk true),hE,hY,hY,hN (.pk true),hE] (!decide (name = [46,46])) (hk4 hg19 (hk3 hg20 (hk3 hg21 .nil))) (by simp only [hg19,hg20,hg21,bs,reduceIte])
    exact rb [hE,hE,hE,hE,hY,hY,hY,hN (.pk true),hE,hY,hY,hN (.pk true),hE,hS,hS,hN (.pk false),hE] false (hk4 hg19 (hk3 hg20 (hk3 hg21 .nil))) (by simp only [hg19,hg20,hg21,bs,reduceIte])
   exact rb [hE,hE,hE,hE,hY,hY,hY,hN (.pk true),hE,hS,hS,hN (.pk false),hE,hS,hS,hE,hE] false (hk4 hg19 (hk3 hg20 (hk2 ff .nil))) (by simp only [hg19,hg20,bs,reduceIte])
  exact rb [hE,hE,hE,hE,hS,hS,hS,hN (.pk false),hE,hS,hS,hE,hE,hS,hS,hE,hE] false (hk4 hg19 (hk4 ff .nil)) (by simp only [hg19,bs,reduceIte])
 refine x_toret ?_
 obtain rfl := sj h
 exact ret0 (.bool ((decide (1 ≤ (List.length name : Int))) && ((decide ((List.length name : Int) ≤ 64)) && ((!decide (name = [46])) && (!decide (name = [46,46])))))) (.refl _) (fun _ => rfl)
theorem c51 {p : api_Procs} {n : Int} {r : Bool} (h : ref30_group p n = some r) : CallOK Tryd.prog 51 [zE3 p,.int .i64 n] (.bool r) true := by
 apply ok51
 unfold ref30_group at h
 refine x_rg (rgn [hE,hE] (⟨[(1,pI n),oP 2 0],[rP 0 3 (zE3 p)],1⟩)) ?_
 refine x_rgB (fun b_ => (⟨[(4,pB b_)],[],0⟩ : VSt)) ((decide (1 ≤ n)) && (decide (n < p.Group))) ?_ ?_
 ·rcases bq (decide (1 ≤ n)) with hg1 | hg1
  ·exact rb [hE,hE,hE,hY,hY,hY,hY,hN (.pk true),hE] (decide (n < p.Group)) (hk5 hg1 .nil) (by simp only [hg1,bs,reduceIte])
  exact rb [hE,hE,hE,hS,hS,hS,hS,hN (.pk false),hE] false (hk5 hg1 .nil) (by simp only [hg1,bs,reduceIte])
 refine x_toret ?_
 obtain rfl := sj h
 exact ret0 (.bool ((decide (1 ≤ n)) && (decide (n < p.Group)))) (.refl _) (fun _ => rfl)
theorem c84 {p : Str} {r : (List Str)} (h : ref03_Parts p = some r) : CallOK Tryd.prog 84 [.str p] (.usl none (List.map PV.str r)) true := by
 apply ok84
 unfold ref03_Parts at h
 refine x_rg (rgn [hE] (⟨[(0,pS p)],[],0⟩)) ?_
 refine x_rg (st2 := { tm := [(0,.pv (.str p)),(3,.osl 0 0 (List.map PV.str ([] : List Str)).length)],hp := [(0,some (.p none (List.map PV.str ([] : List Str))))],nx := 1 }) (rg [hE] ({ tm := [(0,.pv (.str p)),(3,.pv (.nilsl))],hp := [],nx := 0 }) .nil ((Sub.keep (ks := [0,3]) (st := ownSt 3 none ({ tm := [(0,.pv (.str p)),(3,.pv (.nilsl))],hp := [],nx := 0 })) (st' := { tm := [(0,.pv (.str p)),(3,.osl 0 0 (List.map PV.str ([] : List Str)).length)],hp := [(0,some (.p none (List.map PV.str ([] : List Str))))],nx := 1 }) (by kernel_rfl)).trans (own_sound 3 none ({ tm := [(0,.pv (.str p)),(3,.pv (.nilsl))],hp := [],nx := 0 })))) ?_
 refine x_rg (rgn [hE] (⟨[(0,pS p),(3,oL 0 PV.str ([] : List Str)),(4,pI 0)],[(0,rL none PV.str ([] : List Str))],1⟩)) ?_
 refine x_seq ?_
 refine x_rg (rgn [hE] (⟨[(0,pS p),(3,oL 0 PV.str ([] : List Str)),(4,pI 0),(5,pI 0)],[(0,rL none PV.str ([] : List Str))],1⟩)) ?_
 refine x_block ?_
 refine kw0 (⟨[(0,pS p),(3,oL 0 PV.str ([] : List Str)),(4,pI 0),(5,pI 0)],[(0,rL none PV.str ([] : List Str))],1⟩) ?_
 refine x_loop (σ := (Int × Int × (List Str))) h (fun s => ⟨[(0,pS p),(3,oL 0 PV.str s.2.2),(4,pI s.1),(5,pI s.2.1)],[(0,rL none PV.str s.2.2)],1⟩) (by kernel_rfl) ?_ ?_
 ·rintro ⟨from_,i,out⟩
  kernel_rfl
 rintro ⟨from_,i,out⟩ x11 h hx11
 replace h : ref03_Parts_L11 p from_ i out = some x11 := h
 unfold ref03_Parts_L11 at h
 refine x_seq ?_
 refine x_rg (rgn [hE,hE,hE,hE] (⟨[(0,pS p),(3,oL 0 PV.str out),(4,pI from_),(5,pI i),(9,pB (decide (i ≤ (List.length p : Int))))],[(0,rL none PV.str out)],1⟩)) ?_
 refine x_if h rfl (fun hc12 h => ?_) (fun hc12 h => ?_)
 ·refine x_kk (x_skip (x_tn (x_seq (x_block ?_))))
  obtain ⟨t15,ht,h⟩ := bind_some h
  refine x_rgB (fun b_ => (⟨[(0,pS p),(3,oL 0 PV.str out),(4,pI from_),(5,pI i),(21,pB b_)],[(0,rL none PV.str out)],1⟩ : VSt)) t15 ?_ ?_
  ·rcases bq (decide (i = (List.length p : Int))) with hg13 | hg13
   ·replace ht := ite_t ht hg13
    obtain rfl := sj ht
    exact rb [hE,hE,hE,hE,hE,hS,hS,hS,hS,hN (.pk true)] true (hk5 hg13 .nil) rfl
   replace ht := ite_f ht hg13
   obtain ⟨c14,hc14,ht⟩ := bind_some ht
   obtain rfl := sj ht
   exact rb [hE,hE,hE,hE,hE,hY,hY,(.y,(.sAt c14)),hY,hN (.pk false)] (decide ((c14.toNat : Int) = 47)) (hk3 hg13 (kc hc14 (hk2 hg13 .nil))) rfl
  clear ht
  refine x_if h rfl (fun hc16 h => ?_) (fun hc16 h => ?_)
  ·obtain ⟨x17,hx17,h⟩ := bind_some h
   obtain ⟨x18,hx18,h⟩ := bind_some h
   refine x_rg (rg0 [hE,hE,hE,hE,hN (.cutS x17),hE,hN (.app (List.map PV.str x18)),hE] (⟨[(0,pS p),(3,oL 0 PV.str x18),(5,pI i)],[(0,rL none PV.str x18)],1⟩) (kc hx17 (kc (show List.take (List.map PV.str out).length (List.map PV.str out) ++ List.take 1 (List.drop 0 ([.str x17] : List PV)) = (List.map PV.str x18) from (app_ob hx18 (.all _) (.rfl _))) (kc (show List.length (List.map PV.str x18) * 16 ≤ 140737488355328 from (by rw [List.length_map]; exact (appL_ok hx18).2.1)) (kc (show List.length (List.map PV.str x18) ≤ 9223372036854775807 from (by rw [List.length_map]; exact (appL_ok hx18).2.2)) (kc (le1 (List.map PV.str out)) (kc (show 0 + 1 ≤ List.length ([.str x17] : List PV) from (by simp)) .nil))))))) ?_
   refine x_rgt (rgn [hE,hE,hE] (⟨[(0,pS p),(3,oL 0 PV.str x18),(4,pI (IntKind.wrap .i64 (i + 1))),(5,pI i)],[(0,rL none PV.str x18)],1⟩)) ?_
   refine x_bn (x_tn ?_)
   refine x_rgt (rgn [hE,hE,hE] (⟨[(0,pS p),(3,oL 0 PV.str x18),(4,pI (IntKind.wrap .i64 (i + 1))),(5,pI (IntKind.wrap .i64 (i + 1)))],[(0,rL none PV.str x18)],1⟩)) ?_
   refine x_tn ?_
   exact ⟨_,(sj h).symm,by kernel_rfl⟩
  refine x_kk (x_skip (x_bn (x_tn ?_)))
  refine x_rgt (rgn [hE,hE,hE] (⟨[(0,pS p),(3,oL 0 PV.str out),(4,pI from_),(5,pI (IntKind.wrap .i64 (i + 1)))],[(0,rL none PV.str out)],1⟩)) ?_
  refine x_tn ?_
  exact ⟨_,(sj h).symm,by kernel_rfl⟩
 refine kw0 (⟨[(3,oL 0 PV.str out)],[(0,rL none PV.str out)],1⟩) ?_
 refine x_exit ?_
 refine x_te (x_te ?_)
 replace h := done_leaf h hx11
 refine x_bh ?_
 refine x_tn ?_
 refine x_rg (rgn [hE,hE] (⟨[(2,oL 0 PV.str out)],[(0,rL none PV.str out)],1⟩)) ?_
 refine x_toret ?_
 obtain rfl := sj h
 exact x_ret (.usl none (List.take (List.map PV.str out).length (List.map PV.str out))) [0] [(List.map PV.str out).length ≤ List.length (List.map PV.str out)] (by kernel_rfl) (.cons (Nat.le_refl _) .nil) (by decide) (.of_eq (by rw [List.take_length])) (fun _ => (usl_ns (sh := none) (fun _ => rfl)))
theorem c53 {p : Str} {r : Bool} (h : ref03_Rooted p = some r) : CallOK Tryd.prog 53 [.str p] (.bool r) true := by
 apply ok53
 unfold ref03_Rooted at h
 refine x_rg (rgn [hE] (⟨[(0,pS p)],[],0⟩)) ?_
 obtain ⟨t3,ht,h⟩ := bind_some h
 refine x_rgB (fun b_ => (⟨[(2,pB b_)],[],0⟩ : VSt)) t3 ?_ ?_
 ·rcases bq (decide (0 < (List.length p : Int))) with hg1 | hg1
  ·replace ht := ite_t ht hg1
   obtain ⟨c2,hc2,ht⟩ := bind_some ht
   obtain rfl := sj ht
   exact rb [hE,hE,hE,hE,hY,(.y,(.sAt c2)),hY,hN (.pk true),hE] (decide ((c2.toNat : Int) = 47)) (hk2 hg1 (kc hc2 (hk2 hg1 .nil))) rfl
  replace ht := ite_f ht hg1
  obtain rfl := sj ht
  exact rb [hE,hE,hE,hE,hS,hS,hS,hN (.pk false),hE] false (hk4 hg1 .nil) rfl
 clear ht
 refine x_toret ?_
 obtain rfl := sj h
 exact ret0 (.bool t3) (.refl _) (fun _ => rfl)
theorem c74 {p : Str} {r : ((List Str) × Int)} (h : ref03_Split p = some r) : CallOK Tryd.prog 74 [.str p] (.tup [.usl none (List.map PV.str r.1),.int .i64 r.2]) true := by
 apply ok74
 unfold ref03_Split at h
 refine x_rg (rgn [hE,hE] (⟨[(0,pS p)],[],0⟩)) ?_
 refine x_seq ?_
 refine x_rg (rgn [hE,hE,hE] (⟨[(0,pS p),(11,pB (decide (1024 < (List.length p : Int))))],[],0⟩)) ?_
 refine x_if h rfl (fun hc1 h => ?_) (fun hc1 h => ?_)
 ·refine x_rg (rgn [hE,hE] (⟨[(2,.pv (.nilsl)),(3,pI 4)],[],0⟩)) ?_
  refine x_toret (x_tr ?_)
  obtain rfl := sj h
  exact ret0 (.tup [.nilsl,.int .i64 4]) (.tup (.cons (.nilUsl _) (.cons (.refl _) .nil))) (fun _ => tup_ns (.cons (usl_ns (sh := none) (fun _ => rfl)) (.cons rfl .nil)))
 refine x_kk (x_skip (x_tn ?_))
 obtain ⟨x2,hx2,h⟩ := bind_some h
 refine x_rg (rg0 [hE,hN (.cal [] (.usl none (List.map PV.str x2)) true),hE] (⟨[(0,pS p),(4,oL 0 PV.str x2)],[(0,rL none PV.str x2)],1⟩) (kc (c84 hx2) .nil)) ?_
 refine x_seq ?_
 refine x_rg (rgn [hE] (⟨[(0,pS p),(4,oL 0 PV.str x2),(5,pI 0)],[(0,rL none PV.str x2)],1⟩)) ?_
 refine x_block ?_
 refine kw0 (⟨[(0,pS p),(4,oL 0 PV.str x2),(5,pI 0)],[(0,rL none PV.str x2)],1⟩) ?_
 refine x_loop (σ := Int) h (fun s => ⟨[(0,pS p),(4,oL 0 PV.str x2),(5,pI s)],[(0,rL none PV.str x2)],1⟩) (by kernel_rfl) ?_ ?_
 ·rintro i
  kernel_rfl
 rintro i x15 h hx15
 replace h : ref03_Split_L15 p x2 i = some x15 := h
 unfold ref03_Split_L15 at h
 refine x_seq ?_
 refine x_rg (rg0 [hE,hE,hN (.len (List.length x2 : Int)),hE] (⟨[(0,pS p),(4,oL 0 PV.str x2),(5,pI i),(17,pB (decide (i < (List.length x2 : Int))))],[(0,rL none PV.str x2)],1⟩) (kc (lenM PV.str x2) .nil)) ?_
 refine x_if h rfl (fun hc16 h => ?_) (fun hc16 h => ?_)
 ·refine x_kk (x_skip (x_tn (x_seq (x_block ?_))))
  obtain ⟨x17,hx17,h⟩ := bind_some h
  obtain ⟨t25,ht,h⟩ := bind_some h
  refine x_rgB (fun b_ => (⟨[(0,pS p),(4,oL 0 PV.str x2),(5,pI i),(46,pB b_)],[(0,rL none PV.str x2)],1⟩ : VSt)) t25 ?_ ?_
  ·rcases bq (!decide (x17 = [])) with hg18 | hg18
   ·replace ht := ite_t ht hg18
    obtain ⟨x19,hx19,ht⟩ := bind_some ht
    rcases bq (!decide (x19 = [46])) with hg20 | hg20
    ·replace ht := ite_t ht hg20
     obtain ⟨x21,hx21,ht⟩ := bind_some ht
     rcases bq (!decide (x21 = [46,46])) with hg22 | hg22
     ·replace ht := ite_t ht hg22
      obtain ⟨x23,hx23,ht⟩ := bind_some ht
      obtain ⟨x24,hx24,ht⟩ := bind_some ht
      obtain rfl := sj ht
      exact rb [hE,hE,hN .rAt,hN (.ld (.str x17)),hE,hE,hY,hY,(.y,.rAt),(.y,(.ld (.str x19))),hY,hN (.pk true),hE,hY,hY,(.y,.rAt),(.y,(.ld (.str x21))),hY,hN (.pk true),hE,hY,hY,(.y,.rAt),(.y,(.ld (.str x23))),(.y,(.cal [] (.bool x24) true)),hY,hN (.pk true)] (!x24) (kc (rAtM (f := PV.str) hx17) (kc (ownAt (f := PV.str) hx17) (hk3 hg18 (kc (rAtM (f := PV.str) hx19) (kc hg18 (kc (ownAt (f := PV.str) hx19) (hk2 hg18 (hk3 hg20 (kc (rAtM (f := PV.str) hx21) (kc hg20 (kc (ownAt (f := PV.str) hx21) (hk2 hg20 (hk3 hg22 (kc (rAtM (f := PV.str) hx23) (kc hg22 (kc (ownAt (f := PV.str) hx23) (kc hg22 (kc (c50 hx24) (hk2 hg22 .nil))))))))))))))))))) rfl
     replace ht := ite_f ht hg22
     obtain rfl := sj ht
     exact rb [hE,hE,hN .rAt,hN (.ld (.str x17)),hE,hE,hY,hY,(.y,.rAt),(.y,(.ld (.str x19))),hY,hN (.pk true),hE,hY,hY,(.y,.rAt),(.y,(.ld (.str x21))),hY,hN (.pk true),hE,hS,hS,hS,hS,hS,hS,hN (.pk false)] false (kc (rAtM (f := PV.str) hx17) (kc (ownAt (f := PV.str) hx17) (hk3 hg18 (kc (rAtM (f := PV.str) hx19) (kc hg18 (kc (ownAt (f := PV.str) hx19) (hk2 hg18 (hk3 hg20 (kc (rAtM (f := PV.str) hx21) (kc hg20 (kc (ownAt (f := PV.str) hx21) (hk2 hg20 (kc hg22 (hk6 hg22 .nil)))))))))))))) rfl
    replace ht := ite_f ht hg20
    obtain rfl := sj ht
    exact rb [hE,hE,hN .rAt,hN (.ld (.str x17)),hE,hE,hY,hY,(.y,.rAt),(.y,(.ld (.str x19))),hY,hN (.pk true),hE,hS,hS,hS,hS,hS,hN (.pk false),hE,hS,hS,hS,hS,hS,hS,hE] false (kc (rAtM (f := PV.str) hx17) (kc (ownAt (f := PV.str) hx17) (hk3 hg18 (kc (rAtM (f := PV.str) hx19) (kc hg18 (kc (ownAt (f := PV.str) hx19) (hk2 hg18 (hk6 hg20 (hk6 ff .nil))))))))) rfl
   replace ht := ite_f ht hg18
   obtain rfl := sj ht
   exact rb [hE,hE,hN .rAt,hN (.ld (.str x17)),hE,hE,hS,hS,hS,hS,hS,hN (.pk false),hE,hS,hS,hS,hS,hS,hE,hE,hS,hS,hS,hS,hS,hS,hE] false (kc (rAtM (f := PV.str) hx17) (kc (ownAt (f := PV.str) hx17) (hk6 hg18 (hk3 ff (hk8 ff .nil))))) rfl
  clear ht
  refine x_if h rfl (fun hc26 h => ?_) (fun hc26 h => ?_)
  ·refine x_rg (rgn [hE,hE] (⟨[(2,.pv (.nilsl)),(3,pI 6)],[],0⟩)) ?_
   refine x_toret (x_br (x_tr (x_tr ?_)))
   replace h := done_leaf h hx15
   refine x_br (x_tr ?_)
   obtain rfl := sj h
   exact ret0 (.tup [.nilsl,.int .i64 6]) (.tup (.cons (.nilUsl _) (.cons (.refl _) .nil))) (fun _ => tup_ns (.cons (usl_ns (sh := none) (fun _ => rfl)) (.cons rfl .nil)))
  refine x_kk (x_skip (x_bn (x_tn ?_)))
  refine x_rgt (rgn [hE,hE,hE] (⟨[(0,pS p),(4,oL 0 PV.str x2),(5,pI (IntKind.wrap .i64 (i + 1)))],[(0,rL none PV.str x2)],1⟩)) ?_
  refine x_tn ?_
  exact ⟨_,(sj h).symm,by kernel_rfl⟩
 refine kw0 (⟨[(0,pS p),(4,oL 0 PV.str x2)],[(0,rL none PV.str x2)],1⟩) ?_
 refine x_exit ?_
 refine x_te (x_te ?_)
 replace h := done_map h hx15
 refine x_bh ?_
 refine x_tn ?_
 refine x_rg (st2 := { tm := [(0,.pv (.str p)),(4,.osl 0 0 (List.map PV.str x2).length),(6,.osl 1 0 (List.map PV.str ([] : List Str)).length)],hp := [(0,some (.p none (List.map PV.str x2))),(1,some (.p none (List.map PV.str ([] : List Str))))],nx := 2 }) (rg [hE] ({ tm := [(0,.pv (.str p)),(4,.osl 0 0 (List.map PV.str x2).length),(6,.pv (.nilsl))],hp := [(0,some (.p none (List.map PV.str x2)))],nx := 1 }) .nil ((Sub.keep (ks := [0,4,6]) (st := ownSt 6 none ({ tm := [(0,.pv (.str p)),(4,.osl 0 0 (List.map PV.str x2).length),(6,.pv (.nilsl))],hp := [(0,some (.p none (List.map PV.str x2)))],nx := 1 })) (st' := { tm := [(0,.pv (.str p)),(4,.osl 0 0 (List.map PV.str x2).length),(6,.osl 1 0 (List.map PV.str ([] : List Str)).length)],hp := [(0,some (.p none (List.map PV.str x2))),(1,some (.p none (List.map PV.str ([] : List Str))))],nx := 2 }) (by kernel_rfl)).trans (own_sound 6 none ({ tm := [(0,.pv (.str p)),(4,.osl 0 0 (List.map PV.str x2).length),(6,.pv (.nilsl))],hp := [(0,some (.p none (List.map PV.str x2)))],nx := 1 })))) ?_
 refine x_seq ?_
 refine x_rg (rgn [hE] (⟨[(0,pS p),(4,oL 0 PV.str x2),(6,oL 1 PV.str ([] : List Str)),(7,pI 0)],[(0,rL none PV.str x2),(1,rL none PV.str ([] : List Str))],2⟩)) ?_
 refine x_block ?_
 refine kw0 (⟨[(0,pS p),(4,oL 0 PV.str x2),(6,oL 1 PV.str ([] : List Str)),(7,pI 0)],[(0,rL none PV.str x2),(1,rL none PV.str ([] : List Str))],2⟩) ?_
 refine x_loop (σ := (Int × (List Str))) h (fun s => ⟨[(0,pS p),(4,oL 0 PV.str x2),(6,oL 1 PV.str s.2),(7,pI s.1)],[(0,rL none PV.str x2),(1,rL none PV.str s.2)],2⟩) (by kernel_rfl) ?_ ?_
 ·rintro ⟨i_1,out⟩
  kernel_rfl
 rintro ⟨i_1,out⟩ x49 h hx49
 replace h : ref03_Split_L49 p x2 i_1 out = some x49 := h
 unfold ref03_Split_L49 at h
 refine x_seq ?_
 refine x_rg (rg0 [hE,hE,hN (.len (List.length x2 : Int)),hE] (⟨[(0,pS p),(4,oL 0 PV.str x2),(6,oL 1 PV.str out),(7,pI i_1),(50,pB (decide (i_1 < (List.length x2 : Int))))],[(0,rL none PV.str x2),(1,rL none PV.str out)],2⟩) (kc (lenM PV.str x2) .nil)) ?_
 refine x_if h rfl (fun hc50 h => ?_) (fun hc50 h => ?_)
 ·refine x_kk (x_skip (x_tn (x_seq (x_block ?_))))
  refine x_rg (rg0 [hE,hN (.len (List.length out : Int)),hE] (⟨[(0,pS p),(4,oL 0 PV.str x2),(6,oL 1 PV.str out),(7,pI i_1),(8,pI (List.length out : Int))],[(0,rL none PV.str x2),(1,rL none PV.str out)],2⟩) (kc (lenM PV.str out) .nil)) ?_
  refine x_block ?_
  obtain ⟨x51,hx51,h⟩ := bind_some h
  obtain ⟨t54,ht,h⟩ := bind_some h
  refine x_rgB (fun b_ => (⟨[(0,pS p),(4,oL 0 PV.str x2),(6,oL 1 PV.str out),(7,pI i_1),(8,pI (List.length out : Int)),(62,pB b_)],[(0,rL none PV.str x2),(1,rL none PV.str out)],2⟩ : VSt)) t54 ?_ ?_
  ·rcases bq (decide (x51 = [])) with hg52 | hg52
   ·replace ht := ite_t ht hg52
    obtain rfl := sj ht
    exact rb [hE,hE,hN .rAt,hN (.ld (.str x51)),hE,hE,hS,hS,hS,hS,hS,hN (.pk true),hE] true (kc (rAtM (f := PV.str) hx51) (kc (ownAt (f := PV.str) hx51) (hk6 hg52 .nil))) rfl
   replace ht := ite_f ht hg52
   obtain ⟨x53,hx53,ht⟩ := bind_some ht
   obtain rfl := sj ht
   exact rb [hE,hE,hN .rAt,hN (.ld (.str x51)),hE,hE,hY,hY,(.y,.rAt),(.y,(.ld (.str x53))),hY,hN (.pk false),hE] (decide (x53 = [46])) (kc (rAtM (f := PV.str) hx51) (kc (ownAt (f := PV.str) hx51) (hk3 hg52 (kc (rAtM (f := PV.str) hx53) (kc hg52 (kc (ownAt (f := PV.str) hx53) (hk2 hg52 .nil))))))) rfl
  clear ht
  refine x_if h rfl (fun hc55 h => ?_) (fun hc55 h => ?_)
  ·refine x_kk (x_skip (x_bn (x_bn (x_tn ?_))))
   refine x_rgt (rgn [hE,hE,hE] (⟨[(0,pS p),(4,oL 0 PV.str x2),(6,oL 1 PV.str out),(7,pI (IntKind.wrap .i64 (i_1 + 1)))],[(0,rL none PV.str x2),(1,rL none PV.str out)],2⟩)) ?_
   refine x_tn ?_
   exact ⟨_,(sj h).symm,by kernel_rfl⟩
  obtain ⟨x56,hx56,h⟩ := bind_some h
  obtain ⟨t60,ht,h⟩ := bind_some h
  refine x_rgB (fun b_ => (⟨[(0,pS p),(4,oL 0 PV.str x2),(6,oL 1 PV.str out),(7,pI i_1),(8,pI (List.length out : Int)),(75,pB b_)],[(0,rL none PV.str x2),(1,rL none PV.str out)],2⟩ : VSt)) t60 ?_ ?_
  ·rcases bq (decide (x56 = [46,46])) with hg57 | hg57
   ·replace ht := ite_t ht hg57
    rcases bq (decide (0 < (List.length out : Int))) with hg58 | hg58
    ·replace ht := ite_t ht hg58
     obtain ⟨x59,hx59,ht⟩ := bind_some ht
     obtain rfl := sj ht
     exact rb [hE,hE,hN .rAt,hN (.ld (.str x56)),hE,hE,hY,hY,hN (.pk true),hE,hY,hY,hY,(.y,.rAt),(.y,(.ld (.str x59))),hY,hN (.pk true),hE] (!decide (x59 = [46,46])) (kc (rAtM (f := PV.str) hx56) (kc (ownAt (f := PV.str) hx56) (hk3 hg57 (hk4 hg58 (kc (rAtM (f := PV.str) hx59) (kc hg58 (kc (ownAt (f := PV.str) hx59) (hk2 hg58 .nil)))))))) rfl
    replace ht := ite_f ht hg58
    obtain rfl := sj ht
    exact rb [hE,hE,hN .rAt,hN (.ld (.str x56)),hE,hE,hY,hY,hN (.pk true),hE,hS,hS,hS,hS,hS,hS,hN (.pk false),hE] false (kc (rAtM (f := PV.str) hx56) (kc (ownAt (f := PV.str) hx56) (hk3 hg57 (kc hg58 (hk6 hg58 .nil))))) rfl
   replace ht := ite_f ht hg57
   obtain rfl := sj ht
   exact rb [hE,hE,hN .rAt,hN (.ld (.str x56)),hE,hE,hS,hS,hN (.pk false),hE,hS,hS,hS,hS,hS,hS,hE,hE] false (kc (rAtM (f := PV.str) hx56) (kc (ownAt (f := PV.str) hx56) (hk3 hg57 (hk6 ff .nil)))) rfl
  clear ht
  refine x_if h rfl (fun hc61 h => ?_) (fun hc61 h => ?_)
  ·obtain ⟨x62,hx62,h⟩ := bind_some h
   refine x_rgt (st2 := { tm := [(0,.pv (.str p)),(4,.osl 0 0 (List.map PV.str x2).length),(6,.osl 1 0 (List.map PV.str x62).length),(7,.pv (.int .i64 i_1))],hp := [(0,some (.p none (List.map PV.str x2))),(1,some (.p none (List.map PV.str x62)))],nx := 2 }) (rg [hE,hE,hE,hN .cutR,hE] ({ tm := [(0,.pv (.str p)),(4,.osl 0 0 (List.map PV.str x2).length),(6,.osl 1 (0 + Int.toNat 0) (Int.toNat (IntKind.wrap .i64 ((List.length out : Int) - 1)) - Int.toNat 0)),(7,.pv (.int .i64 i_1))],hp := [(0,some (.p none (List.map PV.str x2))),(1,some (.p none (List.map PV.str out)))],nx := 2 }) (kc (show 0 ≤ (0 : Int) ∧ (0 : Int) ≤ (IntKind.wrap .i64 ((List.length out : Int) - 1)) ∧ (IntKind.wrap .i64 ((List.length out : Int) - 1)) ≤ (((List.map PV.str out).length : Nat) : Int) from (cutR_ob hx62 (by simp))) .nil) (((Sub.of_eq (show ({ tm := [(0,.pv (.str p)),(4,.osl 0 0 (List.map PV.str x2).length),(6,.osl 1 0 (List.map PV.str x62).length),(7,.pv (.int .i64 i_1))],hp := [(0,some (.p none (List.map PV.str x2))),(1,some (.p none (List.map PV.str x62)))],nx := 2 } : VSt) = trimSt 1 (Int.toNat (IntKind.wrap .i64 ((List.length out : Int) - 1)) - Int.toNat 0) ({ tm := [(0,.pv (.str p)),(4,.osl 0 0 (List.map PV.str x2).length),(6,.osl 1 (0 + Int.toNat 0) (Int.toNat (IntKind.wrap .i64 ((List.length out : Int) - 1)) - Int.toNat 0)),(7,.pv (.int .i64 i_1))],hp := [(0,some (.p none (List.map PV.str x2))),(1,some (.p none (List.map PV.str out)))],nx := 2 }) from (show ({ tm := [(0,.pv (.str p)),(4,.osl 0 0 (List.map PV.str x2).length),(6,.osl 1 0 (List.map PV.str x62).length),(7,.pv (.int .i64 i_1))],hp := [(0,some (.p none (List.map PV.str x2))),(1,some (.p none (List.map PV.str x62)))],nx := 2 } : VSt) = { tm := [(0,.pv (.str p)),(4,.osl 0 0 (List.map PV.str x2).length),(6,.osl 1 (0 + Int.toNat 0) (Int.toNat (IntKind.wrap .i64 ((List.length out : Int) - 1)) - Int.toNat 0)),(7,.pv (.int .i64 i_1))],hp := [(0,some (.p none (List.map PV.str x2))),(1,some (.p none (List.take (Int.toNat (IntKind.wrap .i64 ((List.length out : Int) - 1)) - Int.toNat 0) (List.map PV.str out))))],nx := 2 } from (by rw [(cutR_f hx62).2,(cutR_f hx62).1]; try rfl)).trans (by kernel_rfl))).trans (Sub.trim 1 (Int.toNat (IntKind.wrap .i64 ((List.length out : Int) - 1)) - Int.toNat 0) _)))) ?_
   refine x_bn (x_bn (x_tn ?_))
   refine x_rgt (rgn [hE,hE,hE] (⟨[(0,pS p),(4,oL 0 PV.str x2),(6,oL 1 PV.str x62),(7,pI (IntKind.wrap .i64 (i_1 + 1)))],[(0,rL none PV.str x2),(1,rL none PV.str x62)],2⟩)) ?_
   refine x_tn ?_
   exact ⟨_,(sj h).symm,by kernel_rfl⟩
  obtain ⟨x63,hx63,h⟩ := bind_some h
  obtain ⟨t66,ht,h⟩ := bind_some h
  refine x_rgB (fun b_ => (⟨[(0,pS p),(4,oL 0 PV.str x2),(6,oL 1 PV.str out),(7,pI i_1),(97,pB b_)],[(0,rL none PV.str x2),(1,rL none PV.str out)],2⟩ : VSt)) t66 ?_ ?_
  ·rcases bq (decide (x63 = [46,46])) with hg64 | hg64
   ·replace ht := ite_t ht hg64
    obtain ⟨x65,hx65,ht⟩ := bind_some ht
    obtain rfl := sj ht
    exact rb [hE,hE,hN .rAt,hN (.ld (.str x63)),hE,hE,hY,(.y,(.cal [] (.bool x65) true)),hN (.pk true),hE] x65 (kc (rAtM (f := PV.str) hx63) (kc (ownAt (f := PV.str) hx63) (hk2 hg64 (kc (c53 hx65) (kc hg64 .nil))))) rfl
   replace ht := ite_f ht hg64
   obtain rfl := sj ht
   exact rb [hE,hE,hN .rAt,hN (.ld (.str x63)),hE,hE,hS,hS,hN (.pk false),hE] false (kc (rAtM (f := PV.str) hx63) (kc (ownAt (f := PV.str) hx63) (hk3 hg64 .nil))) rfl
  clear ht
  refine x_if h rfl (fun hc67 h => ?_) (fun hc67 h => ?_)
  ·refine x_kk (x_skip (x_bn (x_bn (x_tn ?_))))
   refine x_rgt (rgn [hE,hE,hE] (⟨[(0,pS p),(4,oL 0 PV.str x2),(6,oL 1 PV.str out),(7,pI (IntKind.wrap .i64 (i_1 + 1)))],[(0,rL none PV.str x2),(1,rL none PV.str out)],2⟩)) ?_
   refine x_tn ?_
   exact ⟨_,(sj h).symm,by kernel_rfl⟩
  obtain ⟨x68,hx68,h⟩ := bind_some h
  obtain ⟨x69,hx69,h⟩ := bind_some h
  refine x_rgt (rg0 [hE,hE,hE,hN .rAt,hN (.ld (.str x68)),hE,hN (.app (List.map PV.str x69)),hE] (⟨[(0,pS p),(4,oL 0 PV.str x2),(6,oL 1 PV.str x69),(7,pI i_1)],[(0,rL none PV.str x2),(1,rL none PV.str x69)],2⟩) (kc (rAtM (f := PV.str) hx68) (kc (ownAt (f := PV.str) hx68) (kc (show List.take (List.map PV.str out).length (List.map PV.str out) ++ List.take 1 (List.drop 0 ([.str x68] : List PV)) = (List.map PV.str x69) from (app_ob hx69 (.all _) (.rfl _))) (kc (show List.length (List.map PV.str x69) * 16 ≤ 140737488355328 from (by rw [List.length_map]; exact (appL_ok hx69).2.1)) (kc (show List.length (List.map PV.str x69) ≤ 9223372036854775807 from (by rw [List.length_map]; exact (appL_ok hx69).2.2)) (kc (le1 (List.map PV.str out)) (kc (show 0 + 1 ≤ List.length ([.str x68] : List PV) from (by simp)) .nil)))))))) ?_
  refine x_bn (x_bn (x_tn ?_))
  refine x_rgt (rgn [hE,hE,hE] (⟨[(0,pS p),(4,oL 0 PV.str x2),(6,oL 1 PV.str x69),(7,pI (IntKind.wrap .i64 (i_1 + 1)))],[(0,rL none PV.str x2),(1,rL none PV.str x69)],2⟩)) ?_
  refine x_tn ?_
  exact ⟨_,(sj h).symm,by kernel_rfl⟩
 refine kw0 (⟨[(6,oL 0 PV.str out)],[(0,rL none PV.str out)],1⟩) ?_
 refine x_exit ?_
 refine x_te (x_te ?_)
 replace h := done_map h hx49
 unfold ref03_Split_A71 at h
 refine x_bh ?_
 refine x_tn (x_seq ?_)
 refine x_rg (rg0 [hE,hN (.len (List.length out : Int)),hE] (⟨[(6,oL 0 PV.str out),(109,pB (decide (32 < (List.length out : Int))))],[(0,rL none PV.str out)],1⟩) (kc (lenM PV.str out) .nil)) ?_
 refine x_if h rfl (fun hc70 h => ?_) (fun hc70 h => ?_)
 ·refine x_rg (rgn [hE,hE] (⟨[(2,.pv (.nilsl)),(3,pI 4)],[],0⟩)) ?_
  refine x_toret (x_tr ?_)
  obtain rfl := sj h
  exact ret0 (.tup [.nilsl,.int .i64 4]) (.tup (.cons (.nilUsl _) (.cons (.refl _) .nil))) (fun _ => tup_ns (.cons (usl_ns (sh := none) (fun _ => rfl)) (.cons rfl .nil)))
 refine x_kk (x_skip (x_tn ?_))
 refine x_rg (rgn [hE,hE,hE] (⟨[(2,oL 0 PV.str out),(3,pI 0)],[(0,rL none PV.str out)],1⟩)) ?_
 refine x_toret ?_
 obtain rfl := sj h
 exact x_ret (.tup [.usl none (List.take (List.map PV.str out).length (List.map PV.str out)),.int .i64 0]) [0] [(List.map PV.str out).length ≤ List.length (List.map PV.str out)] (by kernel_rfl) (.cons (Nat.le_refl _) .nil) (by decide) (.tup (.cons (.of_eq (by rw [List.take_length])) (.cons (.refl _) .nil))) (fun _ => tup_ns (.cons (usl_ns (sh := none) (fun _ => rfl)) (.cons rfl .nil)))
theorem c75 {rooted : Bool} {l : (List Str)} {r : Str} (h : ref03_Build rooted l = some r) : CallOK Tryd.prog 75 [.bool rooted,.sl none (List.map PV.str l)] (.str r) true := by
 apply ok75
 unfold ref03_Build at h
 refine x_rg (rgn [hE] (⟨[(0,pB rooted),(1,pL none PV.str l)],[],0⟩)) ?_
 refine x_rg (rgn [hE] (⟨[(0,pB rooted),(1,pL none PV.str l),(5,pS [])],[],0⟩)) ?_
 refine x_seq ?_
 refine x_rg (rgn [hE] (⟨[(0,pB rooted),(1,pL none PV.str l),(5,pS []),(6,pI 0)],[],0⟩)) ?_
 refine x_block ?_
 refine kw0 (⟨[(0,pB rooted),(1,pL none PV.str l),(5,pS []),(6,pI 0)],[],0⟩) ?_
 refine x_loop (σ := (Str × Int)) h (fun s => ⟨[(0,pB rooted),(1,pL none PV.str l),(5,pS s.1),(6,pI s.2)],[],0⟩) (by kernel_rfl) ?_ ?_
 ·rintro ⟨s_,i⟩
  kernel_rfl
 rintro ⟨s_,i⟩ x6 h hx6
 replace h : ref03_Build_L6 rooted l s_ i = some x6 := h
 unfold ref03_Build_L6 at h
 refine x_seq ?_
 refine x_rg (rg0 [hE,hE,hN (.len (List.length l : Int)),hE] (⟨[(0,pB rooted),(1,pL none PV.str l),(5,pS s_),(6,pI i),(10,pB (decide (i < (List.length l : Int))))],[],0⟩) (kc (lenM PV.str l) .nil)) ?_
 refine x_if h rfl (fun hc7 h => ?_) (fun hc7 h => ?_)
 ·refine kw0 (⟨[(0,pB rooted),(1,pL none PV.str l),(5,pS s_),(6,pI i)],[],0⟩) ?_
  refine x_skip (x_tn (x_seq (x_block ?_)))
  refine x_join (τ := Str) (fun t => ref03_Build_K8 l i t = some x6) (fun t => { tm := [(0,.pv (.bool rooted)),(1,.pv (.sl none (List.map PV.str l))),(5,.pv (.str t)),(6,.pv (.int .i64 i))],hp := [],nx := 0 }) ?_ ?_
  ·rintro p9 h
   replace h : ref03_Build_K8 l i p9 = some x6 := h
   unfold ref03_Build_K8 at h
   obtain ⟨x10,hx10,h⟩ := bind_some h
   obtain ⟨x11,hx11,h⟩ := bind_some h
   refine x_rgt (rg0 [hE,hE,hE,hN (.pAt (.str x10)),hE,hN (.cat x11),hE] (⟨[(0,pB rooted),(1,pL none PV.str l),(5,pS x11),(6,pI i)],[],0⟩) (kc (lsAt_map (f := PV.str) hx10) (kc hx11 .nil))) ?_
   refine x_bn (x_tn ?_)
   refine x_rgt (rgn [hE,hE,hE] (⟨[(0,pB rooted),(1,pL none PV.str l),(5,pS x11),(6,pI (IntKind.wrap .i64 (i + 1)))],[],0⟩)) ?_
   refine x_tn ?_
   exact ⟨_,(sj h).symm,by kernel_rfl⟩
  refine x_rg (rgn [hE,hE] (⟨[(0,pB rooted),(1,pL none PV.str l),(5,pS s_),(6,pI i),(14,pB (decide (0 < i)))],[],0⟩)) ?_
  refine x_if h rfl (fun hc12 h => ?_) (fun hc12 h => ?_)
  ·obtain ⟨x13,hx13,h⟩ := bind_some h
   refine x_rgt (rg0 [hE,hN (.cat x13),hE] (⟨[(0,pB rooted),(1,pL none PV.str l),(5,pS x13),(6,pI i)],[],0⟩) (kc hx13 .nil)) ?_
   refine x_tn ?_
   exact ⟨x13,h,by kernel_rfl⟩
  refine kw0 (⟨[(0,pB rooted),(1,pL none PV.str l),(5,pS s_),(6,pI i)],[],0⟩) ?_
  refine x_skip (x_tn ?_)
  exact ⟨s_,h,by kernel_rfl⟩
 refine kw0 (⟨[(0,pB rooted),(5,pS s_)],[],0⟩) ?_
 refine x_exit ?_
 refine x_te (x_te ?_)
 replace h := done_map h hx6
 unfold ref03_Build_A17 at h
 refine x_bh ?_
 refine x_tn (x_seq ?_)
 refine x_rg (rgn [hE] (⟨[(5,pS s_),(23,pB rooted)],[],0⟩)) ?_
 refine x_if h rfl (fun hc14 h => ?_) (fun hc14 h => ?_)
 ·obtain ⟨x15,hx15,h⟩ := bind_some h
  refine x_rg (rg0 [hE,hN (.cat x15),hE] (⟨[(4,pS x15)],[],0⟩) (kc hx15 .nil)) ?_
  refine x_toret (x_tr ?_)
  obtain rfl := sj h
  exact ret0 (.str x15) (.refl _) (fun _ => rfl)
 refine x_kk (x_skip (x_tn (x_seq ?_)))
 refine x_rg (rgn [hE,hE] (⟨[(5,pS s_),(27,pB (decide (s_ = [])))],[],0⟩)) ?_
 refine x_if h rfl (fun hc16 h => ?_) (fun hc16 h => ?_)
 ·refine x_rg (rgn [hE] (⟨[(4,pS [46])],[],0⟩)) ?_
  refine x_toret (x_tr ?_)
  obtain rfl := sj h
  exact ret0 (.str [46]) (.refl _) (fun _ => rfl)
 refine x_kk (x_skip (x_tn ?_))
 refine x_rg (rgn [hE,hE] (⟨[(4,pS s_)],[],0⟩)) ?_
 refine x_toret ?_
 obtain rfl := sj h
 exact ret0 (.str s_) (.refl _) (fun _ => rfl)
theorem c52 {p : Str} {r : (Str × Int)} (h : ref03_Clean p = some r) : CallOK Tryd.prog 52 [.str p] (.tup [.str r.1,.int .i64 r.2]) true := by
 apply ok52
 unfold ref03_Clean at h
 refine x_rg (rgn [hE,hE] (⟨[(0,pS p)],[],0⟩)) ?_
 obtain ⟨x1,hx1,h⟩ := bind_some h
 refine x_rg (rg0 [hE,hN (.cal [] (.tup [.usl none (List.map PV.str x1.1),.int .i64 x1.2]) true),hE,hE,hE,hE,hE] (⟨[(0,pS p),(4,oL 0 PV.str x1.1),(5,pI x1.2)],[(0,rL none PV.str x1.1)],1⟩) (kc (c74 hx1) .nil)) ?_
 refine x_seq ?_
 refine x_rg (rgn [hE,hE] (⟨[(0,pS p),(4,oL 0 PV.str x1.1),(5,pI x1.2),(12,pB (!decide (x1.2 = 0)))],[(0,rL none PV.str x1.1)],1⟩)) ?_
 refine x_if h rfl (fun hc2 h => ?_) (fun hc2 h => ?_)
 ·refine x_rg (rgn [hE,hE,hE] (⟨[(2,pS []),(3,pI x1.2)],[],0⟩)) ?_
  refine x_toret (x_tr ?_)
  obtain rfl := sj h
  exact ret0 (.tup [.str [],.int .i64 x1.2]) (.tup (.cons (.refl _) (.cons (.refl _) .nil))) (fun _ => rfl)
 refine x_kk (x_skip (x_tn ?_))
 obtain ⟨x3,hx3,h⟩ := bind_some h
 obtain ⟨x4,hx4,h⟩ := bind_some h
 refine x_rg (rg0 [hE,hN (.cal [] (.bool x3) true),hE,hN (.call [] [.bool x3,.sl none (List.map PV.str x1.1)] (.str x4) true),hE,hE] (⟨[(2,pS x4),(3,pI 0)],[],0⟩) (kc (c53 hx3) (kc (show LesA [.bool x3,.sl none (List.take (List.map PV.str x1.1).length (List.drop 0 (List.map PV.str x1.1)))] [.bool x3,.sl none (List.map PV.str x1.1)] from (.cons (.refl _) (.cons (.of_eq (by rw [List.drop_zero,List.take_length])) .nil))) (kc (c75 hx4) (kc (le0 (List.map PV.str x1.1)) .nil))))) ?_
 refine x_toret ?_
 obtain rfl := sj h
 exact ret0 (.tup [.str x4,.int .i64 0]) (.tup (.cons (.refl _) (.cons (.refl _) .nil))) (fun _ => rfl)
theorem c27 {p : api_Procs} {x_ : api_Proc} {r : Bool} (h : ref30_fields p x_ = some r) : CallOK Tryd.prog 27 [zE3 p,zE2 x_] (.bool r) true := by
 apply ok27
 unfold ref30_fields at h
 refine x_rg (rgn [hE,hE,hE] (⟨[oP 2 0,oP 3 1],[rP 0 3 (zE3 p),rP 1 13 (zE2 x_)],2⟩)) ?_
 refine x_seq ?_
 refine x_rgB (fun b_ => (⟨[oP 2 0,oP 3 1,(21,pB b_)],[rP 0 3 (zE3 p),rP 1 13 (zE2 x_)],2⟩ : VSt)) ((!decide (x_.State = 1)) && ((!decide (x_.State = 2)) && (!decide (x_.State = 3)))) ?_ ?_
 ·rcases bq (!decide (x_.State = 1)) with hg1 | hg1
  ·rcases bq (!decide (x_.State = 2)) with hg2 | hg2
   ·exact rb [hE,hE,hE,hE,hY,hY,hY,hN (.pk true),hE,hY,hY,hY,hN (.pk true)] (!decide (x_.State = 3)) (hk4 hg1 (hk4 hg2 .nil)) (by simp only [hg1,hg2,bs,reduceIte])
   exact rb [hE,hE,hE,hE,hY,hY,hY,hN (.pk true),hE,hS,hS,hS,hN (.pk false)] false (hk4 hg1 (hk4 hg2 .nil)) (by simp only [hg1,hg2,bs,reduceIte])
  exact rb [hE,hE,hE,hE,hS,hS,hS,hN (.pk false),hE,hS,hS,hS,hE] false (hk4 hg1 (hk3 ff .nil)) (by simp only [hg1,bs,reduceIte])
 refine x_if h rfl (fun hc4 h => ?_) (fun hc4 h => ?_)
 ·refine x_rg (rgn [hE] (⟨[(4,pB false)],[],0⟩)) ?_
  refine x_toret (x_tr ?_)
  obtain rfl := sj h
  exact ret0 (.bool false) (.refl _) (fun _ => rfl)
 refine x_kk (x_skip (x_tn (x_seq ?_)))
 obtain ⟨x5,hx5,h⟩ := bind_some h
 obtain ⟨t22,ht,h⟩ := bind_some h
 refine x_rgB (fun b_ => (⟨[oP 2 0,oP 3 1,(62,pB b_)],[rP 0 3 (zE3 p),rP 1 13 (zE2 x_)],2⟩ : VSt)) t22 ?_ ?_
 ·rcases bq (!x5) with hg6 | hg6
  ·replace ht := ite_t ht hg6
   obtain rfl := sj ht
   exact rb [hE,hE,hN (.cal [] (.bool x5) true),hE,hE,hS,hS,hS,hS,(.u,.e),(.u,.e),(.u,.e),(.u,.e),hS,hN (.pk true),hE,hS,hS,hS,hS,hS,hE,hE,hS,hS,hS,hS,hS,hE,hE,hS,hS,hS,hS,hS,hE,hE,hS,hS,hS,hE] true (kc (c49 hx5) (hk6 hg6 (hk2 tt (hk8 tt (hk8 tt .nil))))) rfl
  replace ht := ite_f ht hg6
  rcases bq (!decide (x_.Name = [])) with hg7 | hg7
  ·replace ht := ite_t ht hg7
   obtain ⟨x8,hx8,ht⟩ := bind_some ht
   rcases bq (!x8) with hg9 | hg9
   ·replace ht := ite_t ht hg9
    obtain rfl := sj ht
    exact rb [hE,hE,hN (.cal [] (.bool x5) true),hE,hE,hY,hY,hY,hY,hY,hY,(.y,(.cal [] (.bool x8) true)),hY,(.y,(.pk true)),hN (.pk false),hE,hS,hS,hS,hS,hS,hN (.pk true),hE,hS,hS,hS,hS,hS,hE,hE,hS,hS,hS,hS,hS,hE,hE,hS,hS,hS,hE] true (kc (c49 hx5) (hk4 hg6 (hk3 hg7 (kc (c50 hx8) (kc hg7 (kc hg6 (kc hg7 (kc hg6 (hk6 hg9 (hk5 tt (hk8 tt .nil))))))))))) rfl
   replace ht := ite_f ht hg9
   obtain ⟨x10,hx10,ht⟩ := bind_some ht
   rcases bq (!x10) with hg11 | hg11
   ·replace ht := ite_t ht hg11
    obtain rfl := sj ht
    exact rb [hE,hE,hN (.cal [] (.bool x5) true),hE,hE,hY,hY,hY,hY,hY,hY,(.y,(.cal [] (.bool x8) true)),hY,(.y,(.pk true)),hN (.pk false),hE,hY,hY,hY,(.y,(.cal [] (.bool x10) true)),hY,hN (.pk false),hE,hS,hS,hS,hS,hS,hN (.pk true),hE,hS,hS,hS,hS,hS,hE,hE,hS,hS,hS,hE] true (kc (c49 hx5) (hk4 hg6 (hk3 hg7 (kc (c50 hx8) (kc hg7 (kc hg6 (kc hg7 (kc hg6 (hk4 hg9 (kc (c51 hx10) (hk2 hg9 (hk6 hg11 (hk8 tt .nil))))))))))))) rfl
   replace ht := ite_f ht hg11
   obtain ⟨x12,hx12,ht⟩ := bind_some ht
   rcases bq (!x12) with hg13 | hg13
   ·replace ht := ite_t ht hg13
    obtain rfl := sj ht
    exact rb [hE,hE,hN (.cal [] (.bool x5) true),hE,hE,hY,hY,hY,hY,hY,hY,(.y,(.cal [] (.bool x8) true)),hY,(.y,(.pk true)),hN (.pk false),hE,hY,hY,hY,(.y,(.cal [] (.bool x10) true)),hY,hN (.pk false),hE,hY,hY,hY,(.y,(.cal [] (.bool x12) true)),hY,hN (.pk false),hE,hS,hS,hS,hS,hS,hN (.pk true),hE,hS,hS,hS,hE] true (kc (c49 hx5) (hk4 hg6 (hk3 hg7 (kc (c50 hx8) (kc hg7 (kc hg6 (kc hg7 (kc hg6 (hk4 hg9 (kc (c51 hx10) (hk2 hg9 (hk4 hg11 (kc (c51 hx12) (hk2 hg11 (hk6 hg13 (hk3 tt .nil)))))))))))))))) rfl
   replace ht := ite_f ht hg13
   obtain ⟨x14,hx14,ht⟩ := bind_some ht
   rcases bq (!x14) with hg15 | hg15
   ·replace ht := ite_t ht hg15
    obtain rfl := sj ht
    exact rb [hE,hE,hN (.cal [] (.bool x5) true),hE,hE,hY,hY,hY,hY,hY,hY,(.y,(.cal [] (.bool x8) true)),hY,(.y,(.pk true)),hN (.pk false),hE,hY,hY,hY,(.y,(.cal [] (.bool x10) true)),hY,hN (.pk false),hE,hY,hY,hY,(.y,(.cal [] (.bool x12) true)),hY,hN (.pk false),hE,hY,hY,hY,(.y,(.cal [] (.bool x14) true)),hY,hN (.pk false),hE,hS,hS,hS,hN (.pk true)] true (kc (c49 hx5) (hk4 hg6 (hk3 hg7 (kc (c50 hx8) (kc hg7 (kc hg6 (kc hg7 (kc hg6 (hk4 hg9 (kc (c51 hx10) (hk2 hg9 (hk4 hg11 (kc (c51 hx12) (hk2 hg11 (hk4 hg13 (kc (c51 hx14) (hk2 hg13 (hk4 hg15 .nil)))))))))))))))))) rfl
   replace ht := ite_f ht hg15
   obtain rfl := sj ht
   exact rb [hE,hE,hN (.cal [] (.bool x5) true),hE,hE,hY,hY,hY,hY,hY,hY,(.y,(.cal [] (.bool x8) true)),hY,(.y,(.pk true)),hN (.pk false),hE,hY,hY,hY,(.y,(.cal [] (.bool x10) true)),hY,hN (.pk false),hE,hY,hY,hY,(.y,(.cal [] (.bool x12) true)),hY,hN (.pk false),hE,hY,hY,hY,(.y,(.cal [] (.bool x14) true)),hY,hN (.pk false),hE,hY,hY,hY,hN (.pk false)] (!decide (x_.Status = [])) (kc (c49 hx5) (hk4 hg6 (hk3 hg7 (kc (c50 hx8) (kc hg7 (kc hg6 (kc hg7 (kc hg6 (hk4 hg9 (kc (c51 hx10) (hk2 hg9 (hk4 hg11 (kc (c51 hx12) (hk2 hg11 (hk4 hg13 (kc (c51 hx14) (hk2 hg13 (hk4 hg15 .nil)))))))))))))))))) rfl
  replace ht := ite_f ht hg7
  obtain ⟨x16,hx16,ht⟩ := bind_some ht
  rcases bq (!x16) with hg17 | hg17
  ·replace ht := ite_t ht hg17
   obtain rfl := sj ht
   exact rb [hE,hE,hN (.cal [] (.bool x5) true),hE,hE,hY,hY,hY,hY,hS,hS,hS,hS,(.y,(.pk false)),hN (.pk false),hE,hY,hY,hY,(.y,(.cal [] (.bool x16) true)),hY,hE,hE,hS,hS,hS,hS,hS,hN (.pk true),hE,hS,hS,hS,hS,hS,hE,hE,hS,hS,hS,hE] true (kc (c49 hx5) (hk4 hg6 (hk4 hg7 (kc hg6 (kc hg7 (kc hg6 (hk4 ff (kc (c51 hx16) (kc ff (hk6 hg17 (hk8 tt .nil))))))))))) rfl
  replace ht := ite_f ht hg17
  obtain ⟨x18,hx18,ht⟩ := bind_some ht
  rcases bq (!x18) with hg19 | hg19
  ·replace ht := ite_t ht hg19
   obtain rfl := sj ht
   exact rb [hE,hE,hN (.cal [] (.bool x5) true),hE,hE,hY,hY,hY,hY,hS,hS,hS,hS,(.y,(.pk false)),hN (.pk false),hE,hY,hY,hY,(.y,(.cal [] (.bool x16) true)),hY,hE,hE,hY,hY,hY,(.y,(.cal [] (.bool x18) true)),hY,hN (.pk false),hE,hS,hS,hS,hS,hS,hN (.pk true),hE,hS,hS,hS,hE] true (kc (c49 hx5) (hk4 hg6 (hk4 hg7 (kc hg6 (kc hg7 (kc hg6 (hk4 ff (kc (c51 hx16) (kc ff (hk4 hg17 (kc (c51 hx18) (hk2 hg17 (hk6 hg19 (hk3 tt .nil)))))))))))))) rfl
  replace ht := ite_f ht hg19
  obtain ⟨x20,hx20,ht⟩ := bind_some ht
  rcases bq (!x20) with hg21 | hg21
  ·replace ht := ite_t ht hg21
   obtain rfl := sj ht
   exact rb [hE,hE,hN (.cal [] (.bool x5) true),hE,hE,hY,hY,hY,hY,hS,hS,hS,hS,(.y,(.pk false)),hN (.pk false),hE,hY,hY,hY,(.y,(.cal [] (.bool x16) true)),hY,hE,hE,hY,hY,hY,(.y,(.cal [] (.bool x18) true)),hY,hN (.pk false),hE,hY,hY,hY,(.y,(.cal [] (.bool x20) true)),hY,hN (.pk false),hE,hS,hS,hS,hN (.pk true)] true (kc (c49 hx5) (hk4 hg6 (hk4 hg7 (kc hg6 (kc hg7 (kc hg6 (hk4 ff (kc (c51 hx16) (kc ff (hk4 hg17 (kc (c51 hx18) (hk2 hg17 (hk4 hg19 (kc (c51 hx20) (hk2 hg19 (hk4 hg21 .nil)))))))))))))))) rfl
  replace ht := ite_f ht hg21
  obtain rfl := sj ht
  exact rb [hE,hE,hN (.cal [] (.bool x5) true),hE,hE,hY,hY,hY,hY,hS,hS,hS,hS,(.y,(.pk false)),hN (.pk false),hE,hY,hY,hY,(.y,(.cal [] (.bool x16) true)),hY,hE,hE,hY,hY,hY,(.y,(.cal [] (.bool x18) true)),hY,hN (.pk false),hE,hY,hY,hY,(.y,(.cal [] (.bool x20) true)),hY,hN (.pk false),hE,hY,hY,hY,hN (.pk false)] (!decide (x_.Status = [])) (kc (c49 hx5) (hk4 hg6 (hk4 hg7 (kc hg6 (kc hg7 (kc hg6 (hk4 ff (kc (c51 hx16) (kc ff (hk4 hg17 (kc (c51 hx18) (hk2 hg17 (hk4 hg19 (kc (c51 hx20) (hk2 hg19 (hk4 hg21 .nil)))))))))))))))) rfl
 clear ht
 refine x_if h rfl (fun hc23 h => ?_) (fun hc23 h => ?_)
 ·refine x_rg (rgn [hE] (⟨[(4,pB false)],[],0⟩)) ?_
  refine x_toret (x_tr ?_)
  obtain rfl := sj h
  exact ret0 (.bool false) (.refl _) (fun _ => rfl)
 refine x_kk (x_skip (x_tn ?_))
 obtain ⟨x24,hx24,h⟩ := bind_some h
 refine x_rg (rg0 [hE,hE,hN (.cal [] (.tup [.str x24.1,.int .i64 x24.2]) true),hE,hE,hE,hE,hE] (⟨[oP 2 0,oP 3 1,(5,pS x24.1),(6,pI x24.2)],[rP 0 3 (zE3 p),rP 1 13 (zE2 x_)],2⟩) (kc (c52 hx24) .nil)) ?_
 refine x_seq ?_
 obtain ⟨t30,ht,h⟩ := bind_some h
 refine x_rgB (fun b_ => (⟨[oP 2 0,oP 3 1,(93,pB b_)],[rP 0 3 (zE3 p),rP 1 13 (zE2 x_)],2⟩ : VSt)) t30 ?_ ?_
 ·rcases bq (!decide (x24.2 = 0)) with hg25 | hg25
  ·replace ht := ite_t ht hg25
   obtain rfl := sj ht
   exact rb [hE,hE,hE,hS,hS,hS,hS,hN (.pk true),hE,hS,hS,hS,hE,hE,hS,hS,hS,hS,hE,hE,hS,hS,hS,hS,hE] true (hk5 hg25 (hk3 tt (hk8 tt .nil))) rfl
  replace ht := ite_f ht hg25
  rcases bq (!decide (x24.1 = x_.Cwd)) with hg26 | hg26
  ·replace ht := ite_t ht hg26
   obtain rfl := sj ht
   exact rb [hE,hE,hE,hY,hY,hY,hY,hN (.pk false),hE,hS,hS,hS,hN (.pk true),hE,hS,hS,hS,hS,hE,hE,hS,hS,hS,hS,hE] true (hk5 hg25 (hk4 hg26 (hk8 tt .nil))) rfl
  replace ht := ite_f ht hg26
  obtain ⟨x27,hx27,ht⟩ := bind_some ht
  rcases bq (!x27) with hg28 | hg28
  ·replace ht := ite_t ht hg28
   obtain rfl := sj ht
   exact rb [hE,hE,hE,hY,hY,hY,hY,hN (.pk false),hE,hY,(.y,(.cal [] (.bool x27) true)),hY,hN (.pk false),hE,hS,hS,hS,hS,hN (.pk true),hE,hS,hS,hS,hS,hE] true (hk5 hg25 (hk2 hg26 (kc (c53 hx27) (hk2 hg26 (hk5 hg28 (hk4 tt .nil)))))) rfl
  replace ht := ite_f ht hg28
  rcases bq (decide (8 < (List.length x_.Notes : Int))) with hg29 | hg29
  ·replace ht := ite_t ht hg29
   obtain rfl := sj ht
   exact rb [hE,hE,hE,hY,hY,hY,hY,hN (.pk false),hE,hY,(.y,(.cal [] (.bool x27) true)),hY,hN (.pk false),hE,hY,hY,(.y,(.len (List.length x_.Notes : Int))),hY,hN (.pk false),hE,hS,hS,hS,hS,hN (.pk true)] true (hk5 hg25 (hk2 hg26 (kc (c53 hx27) (hk2 hg26 (hk3 hg28 (kc (lenM PV.str x_.Notes) (hk2 hg28 (hk5 hg29 .nil)))))))) rfl
  replace ht := ite_f ht hg29
  obtain rfl := sj ht
  exact rb [hE,hE,hE,hY,hY,hY,hY,hN (.pk false),hE,hY,(.y,(.cal [] (.bool x27) true)),hY,hN (.pk false),hE,hY,hY,(.y,(.len (List.length x_.Notes : Int))),hY,hN (.pk false),hE,hY,hY,(.y,(.len (List.length x_.Waits : Int))),hY,hN (.pk false)] (decide (64 < (List.length x_.Waits : Int))) (hk5 hg25 (hk2 hg26 (kc (c53 hx27) (hk2 hg26 (hk3 hg28 (kc (lenM PV.str x_.Notes) (hk2 hg28 (hk3 hg29 (kc (lenM zE1 x_.Waits) (hk2 hg29 .nil)))))))))) rfl
 clear ht
 refine x_if h rfl (fun hc31 h => ?_) (fun hc31 h => ?_)
 ·refine x_rg (rgn [hE] (⟨[(4,pB false)],[],0⟩)) ?_
  refine x_toret (x_tr ?_)
  obtain rfl := sj h
  exact ret0 (.bool false) (.refl _) (fun _ => rfl)
 refine x_kk (x_skip (x_tn (x_seq ?_)))
 refine x_rg (rgn [hE] (⟨[oP 2 0,oP 3 1,(7,pI 0)],[rP 0 3 (zE3 p),rP 1 13 (zE2 x_)],2⟩)) ?_
 refine x_block ?_
 refine kw0 (⟨[oP 2 0,oP 3 1,(7,pI 0)],[rP 0 3 (zE3 p),rP 1 13 (zE2 x_)],2⟩) ?_
 refine x_loop (σ := Int) h (fun s => ⟨[oP 2 0,oP 3 1,(7,pI s)],[rP 0 3 (zE3 p),rP 1 13 (zE2 x_)],2⟩) (by kernel_rfl) ?_ ?_
 ·rintro i
  kernel_rfl
 rintro i x36 h hx36
 replace h : ref30_fields_L36 p x_ i = some x36 := h
 unfold ref30_fields_L36 at h
 refine x_seq ?_
 refine x_rg (rg0 [hE,hE,hE,hN (.len (List.length x_.Notes : Int)),hE] (⟨[oP 2 0,oP 3 1,(7,pI i),(98,pB (decide (i < (List.length x_.Notes : Int))))],[rP 0 3 (zE3 p),rP 1 13 (zE2 x_)],2⟩) (kc (lenM PV.str x_.Notes) .nil)) ?_
 refine x_if h rfl (fun hc37 h => ?_) (fun hc37 h => ?_)
 ·refine x_kk (x_skip (x_tn (x_seq (x_block ?_))))
  obtain ⟨x38,hx38,h⟩ := bind_some h
  refine x_rg (rg0 [hE,hE,hE,hN (.pAt (.str x38)),hE,hE,hE] (⟨[oP 2 0,oP 3 1,(7,pI i),(107,pB (decide (1024 < (List.length x38 : Int))))],[rP 0 3 (zE3 p),rP 1 13 (zE2 x_)],2⟩) (kc (lsAt_map (f := PV.str) hx38) .nil)) ?_
  refine x_if h rfl (fun hc39 h => ?_) (fun hc39 h => ?_)
  ·refine x_rg (rgn [hE] (⟨[(4,pB false)],[],0⟩)) ?_
   refine x_toret (x_br (x_tr (x_tr ?_)))
   replace h := done_leaf h hx36
   refine x_br (x_tr ?_)
   obtain rfl := sj h
   exact ret0 (.bool false) (.refl _) (fun _ => rfl)
  refine x_kk (x_skip (x_bn (x_tn ?_)))
  refine x_rgt (rgn [hE,hE,hE] (⟨[oP 2 0,oP 3 1,(7,pI (IntKind.wrap .i64 (i + 1)))],[rP 0 3 (zE3 p),rP 1 13 (zE2 x_)],2⟩)) ?_
  refine x_tn ?_
  exact ⟨_,(sj h).symm,by kernel_rfl⟩
 refine kw0 (⟨[oP 2 0,oP 3 1],[rP 0 3 (zE3 p),rP 1 13 (zE2 x_)],2⟩) ?_
 refine x_exit ?_
 refine x_te (x_te ?_)
 replace h := done_map h hx36
 refine x_bh ?_
 refine x_tn (x_seq ?_)
 refine x_rg (rgn [hE] (⟨[oP 2 0,oP 3 1,(8,pI 0)],[rP 0 3 (zE3 p),rP 1 13 (zE2 x_)],2⟩)) ?_
 refine x_block ?_
 refine kw0 (⟨[oP 2 0,oP 3 1,(8,pI 0)],[rP 0 3 (zE3 p),rP 1 13 (zE2 x_)],2⟩) ?_
 refine x_loop (σ := Int) h (fun s => ⟨[oP 2 0,oP 3 1,(8,pI s)],[rP 0 3 (zE3 p),rP 1 13 (zE2 x_)],2⟩) (by kernel_rfl) ?_ ?_
 ·rintro i_1
  kernel_rfl
 rintro i_1 x49 h hx49
 replace h : ref30_fields_L49 p x_ i_1 = some x49 := h
 unfold ref30_fields_L49 at h
 refine x_seq ?_
 refine x_rg (rg0 [hE,hE,hE,hN (.len (List.length x_.Waits : Int)),hE] (⟨[oP 2 0,oP 3 1,(8,pI i_1),(112,pB (decide (i_1 < (List.length x_.Waits : Int))))],[rP 0 3 (zE3 p),rP 1 13 (zE2 x_)],2⟩) (kc (lenM zE1 x_.Waits) .nil)) ?_
 refine x_if h rfl (fun hc50 h => ?_) (fun hc50 h => ?_)
 ·refine x_kk (x_skip (x_tn (x_seq (x_block ?_))))
  obtain ⟨x51,hx51,h⟩ := bind_some h
  obtain ⟨t56,ht,h⟩ := bind_some h
  refine x_rgB (fun b_ => (⟨[oP 2 0,oP 3 1,(8,pI i_1),(142,pB b_)],[rP 0 3 (zE3 p),rP 1 13 (zE2 x_)],2⟩ : VSt)) t56 ?_ ?_
  ·rcases bq (decide (x51.Id < 1)) with hg52 | hg52
   ·replace ht := ite_t ht hg52
    obtain rfl := sj ht
    exact rb [hE,hE,hE,hN (.pAt (zE1 x51)),hE,hE,hE,hE,hS,hS,hS,hS,hS,hS,hS,hS,hS,hN (.pk true),hE,hS,hS,hS,hS,hS,hS,hS,hS,hE] true (kc (lsAt_map (f := zE1) hx51) (hk2 hg52 (hk8 hg52 (hk8 tt .nil)))) rfl
   replace ht := ite_f ht hg52
   obtain ⟨x53,hx53,ht⟩ := bind_some ht
   rcases bq (decide (p.Next ≤ x53.Id)) with hg54 | hg54
   ·replace ht := ite_t ht hg54
    obtain rfl := sj ht
    exact rb [hE,hE,hE,hN (.pAt (zE1 x51)),hE,hE,hE,hE,hY,hY,hY,(.y,(.pAt (zE1 x53))),hY,hY,hY,hY,hY,hN (.pk false),hE,hS,hS,hS,hS,hS,hS,hS,hS,hN (.pk true)] true (kc (lsAt_map (f := zE1) hx51) (hk4 hg52 (kc (lsAt_map (f := zE1) hx53) (hk6 hg52 (kc hg54 (hk8 hg54 .nil)))))) rfl
   replace ht := ite_f ht hg54
   obtain ⟨x55,hx55,ht⟩ := bind_some ht
   obtain rfl := sj ht
   exact rb [hE,hE,hE,hN (.pAt (zE1 x51)),hE,hE,hE,hE,hY,hY,hY,(.y,(.pAt (zE1 x53))),hY,hY,hY,hY,hY,hN (.pk false),hE,hY,hY,hY,(.y,(.pAt (zE1 x55))),hY,hY,hY,hY,hN (.pk false)] (decide (1024 < (List.length x55.Status : Int))) (kc (lsAt_map (f := zE1) hx51) (hk4 hg52 (kc (lsAt_map (f := zE1) hx53) (hk6 hg52 (hk4 hg54 (kc (lsAt_map (f := zE1) hx55) (hk5 hg54 .nil))))))) rfl
  clear ht
  refine x_if h rfl (fun hc57 h => ?_) (fun hc57 h => ?_)
  ·refine x_rg (rgn [hE] (⟨[(4,pB false)],[],0⟩)) ?_
   refine x_toret (x_br (x_tr (x_tr ?_)))
   replace h := done_leaf h hx49
   refine x_br (x_tr ?_)
   obtain rfl := sj h
   exact ret0 (.bool false) (.refl _) (fun _ => rfl)
  refine x_kk (x_skip (x_bn (x_tn ?_)))
  refine x_rgt (rgn [hE,hE,hE] (⟨[oP 2 0,oP 3 1,(8,pI (IntKind.wrap .i64 (i_1 + 1)))],[rP 0 3 (zE3 p),rP 1 13 (zE2 x_)],2⟩)) ?_
  refine x_tn ?_
  exact ⟨_,(sj h).symm,by kernel_rfl⟩
 refine kw0 (⟨[],[],0⟩) ?_
 refine x_exit ?_
 refine x_te (x_te ?_)
 replace h := done_leaf h hx49
 refine x_bh ?_
 refine x_tn ?_
 refine x_rg (rgn [hE] (⟨[(4,pB true)],[],0⟩)) ?_
 refine x_toret ?_
 obtain rfl := sj h
 exact ret0 (.bool true) (.refl _) (fun _ => rfl)
theorem c9 {p : api_Procs} {r : Bool} (h : ref30_Right p = some r) : CallOK Tryd.prog 9 [zE3 p] (.bool r) true := by
 apply ok9
 unfold ref30_Right at h
 refine x_rg (rgn [hE,hE] (⟨[oP 1 0],[rP 0 3 (zE3 p)],1⟩)) ?_
 refine x_rg (rg0 [hE,hE,hN (.len (List.length p.L : Int)),hE] (⟨[oP 1 0,(3,pI (List.length p.L : Int))],[rP 0 3 (zE3 p)],1⟩) (kc (lenM zE2 p.L) .nil)) ?_
 refine x_seq ?_
 obtain ⟨t11,ht,h⟩ := bind_some h
 refine x_rgB (fun b_ => (⟨[oP 1 0,(3,pI (List.length p.L : Int)),(58,pB b_)],[rP 0 3 (zE3 p)],1⟩ : VSt)) t11 ?_ ?_
 ·rcases bq (decide ((List.length p.L : Int) < 1)) with hg1 | hg1
  ·replace ht := ite_t ht hg1
   obtain rfl := sj ht
   exact rb [hE,hE,hE,hS,hS,hN (.pk true),hE,hS,hS,hS,hS,hS,hS,hE,hE,hS,hS,hS,hS,hS,hS,hE,hE,hS,hS,hS,hS,hS,hS,hS,hS,hS,hS,hE,hE,hS,hS,hS,hE,hE,hS,hS,hS,hE,hE,hS,hS,hS,hE] true (hk3 hg1 (kc tt (hk6 tt (hk8 tt (hk8 tt (hk8 tt .nil)))))) rfl
  replace ht := ite_f ht hg1
  rcases bq (decide (64 < (List.length p.L : Int))) with hg2 | hg2
  ·replace ht := ite_t ht hg2
   obtain rfl := sj ht
   exact rb [hE,hE,hE,hY,hY,hN (.pk false),hE,hS,hS,hS,hS,hS,hS,hN (.pk true),hE,hS,hS,hS,hS,hS,hS,hE,hE,hS,hS,hS,hS,hS,hS,hS,hS,hS,hS,hE,hE,hS,hS,hS,hE,hE,hS,hS,hS,hE,hE,hS,hS,hS,hE] true (hk3 hg1 (kc hg2 (hk6 hg2 (kc tt (hk8 tt (hk8 tt (hk8 tt .nil))))))) rfl
  replace ht := ite_f ht hg2
  obtain ⟨x3,hx3,ht⟩ := bind_some ht
  rcases bq (!decide (x3.Id = 1)) with hg4 | hg4
  ·replace ht := ite_t ht hg4
   obtain rfl := sj ht
   exact rb [hE,hE,hE,hY,hY,hN (.pk false),hE,hY,hY,(.y,(.pAt (zE2 x3))),hY,hY,hY,hN (.pk false),hE,hS,hS,hS,hS,hS,hS,hN (.pk true),hE,hS,hS,hS,hS,hS,hS,hS,hS,hS,hS,hE,hE,hS,hS,hS,hE,hE,hS,hS,hS,hE,hE,hS,hS,hS,hE] true (hk3 hg1 (hk3 hg2 (kc (lsAt_map (f := zE2) hx3) (hk4 hg2 (kc hg4 (hk6 hg4 (hk3 tt (hk8 tt (hk8 tt .nil))))))))) rfl
  replace ht := ite_f ht hg4
  obtain ⟨x5,hx5,ht⟩ := bind_some ht
  rcases bq (!decide (x5.Parent = 0)) with hg6 | hg6
  ·replace ht := ite_t ht hg6
   obtain rfl := sj ht
   exact rb [hE,hE,hE,hY,hY,hN (.pk false),hE,hY,hY,(.y,(.pAt (zE2 x3))),hY,hY,hY,hN (.pk false),hE,hY,hY,(.y,(.pAt (zE2 x5))),hY,hY,hY,hN (.pk false),hE,hS,hS,hS,hS,hS,hS,hS,hS,hS,hS,hN (.pk true),hE,hS,hS,hS,hE,hE,hS,hS,hS,hE,hE,hS,hS,hS,hE] true (hk3 hg1 (hk3 hg2 (kc (lsAt_map (f := zE2) hx3) (hk4 hg2 (hk3 hg4 (kc (lsAt_map (f := zE2) hx5) (hk4 hg4 (hk3 hg6 (hk8 hg6 (kc tt (hk8 tt .nil))))))))))) rfl
  replace ht := ite_f ht hg6
  obtain ⟨x7,hx7,ht⟩ := bind_some ht
  rcases bq (decide (p.Next ≤ x7.Id)) with hg8 | hg8
  ·replace ht := ite_t ht hg8
   obtain rfl := sj ht
   exact rb [hE,hE,hE,hY,hY,hN (.pk false),hE,hY,hY,(.y,(.pAt (zE2 x3))),hY,hY,hY,hN (.pk false),hE,hY,hY,(.y,(.pAt (zE2 x5))),hY,hY,hY,hN (.pk false),hE,hY,hY,hY,hY,hY,hY,(.y,(.pAt (zE2 x7))),hY,hY,hY,hN (.pk false),hE,hS,hS,hS,hN (.pk true),hE,hS,hS,hS,hE,hE,hS,hS,hS,hE] true (hk3 hg1 (hk3 hg2 (kc (lsAt_map (f := zE2) hx3) (hk4 hg2 (hk3 hg4 (kc (lsAt_map (f := zE2) hx5) (hk4 hg4 (kc hg6 (hk6 hg6 (kc (lsAt_map (f := zE2) hx7) (hk4 hg6 (hk4 hg8 (hk6 tt .nil))))))))))))) rfl
  replace ht := ite_f ht hg8
  rcases bq (decide (1048576 < p.Next)) with hg9 | hg9
  ·replace ht := ite_t ht hg9
   obtain rfl := sj ht
   exact rb [hE,hE,hE,hY,hY,hN (.pk false),hE,hY,hY,(.y,(.pAt (zE2 x3))),hY,hY,hY,hN (.pk false),hE,hY,hY,(.y,(.pAt (zE2 x5))),hY,hY,hY,hN (.pk false),hE,hY,hY,hY,hY,hY,hY,(.y,(.pAt (zE2 x7))),hY,hY,hY,hN (.pk false),hE,hY,hY,hY,hN (.pk false),hE,hS,hS,hS,hN (.pk true),hE,hS,hS,hS,hE] true (hk3 hg1 (hk3 hg2 (kc (lsAt_map (f := zE2) hx3) (hk4 hg2 (hk3 hg4 (kc (lsAt_map (f := zE2) hx5) (hk4 hg4 (kc hg6 (hk6 hg6 (kc (lsAt_map (f := zE2) hx7) (hk4 hg6 (hk4 hg8 (hk4 hg9 (hk3 tt .nil)))))))))))))) rfl
  replace ht := ite_f ht hg9
  rcases bq (decide (p.Group < 2)) with hg10 | hg10
  ·replace ht := ite_t ht hg10
   obtain rfl := sj ht
   exact rb [hE,hE,hE,hY,hY,hN (.pk false),hE,hY,hY,(.y,(.pAt (zE2 x3))),hY,hY,hY,hN (.pk false),hE,hY,hY,(.y,(.pAt (zE2 x5))),hY,hY,hY,hN (.pk false),hE,hY,hY,hY,hY,hY,hY,(.y,(.pAt (zE2 x7))),hY,hY,hY,hN (.pk false),hE,hY,hY,hY,hN (.pk false),hE,hY,hY,hY,hN (.pk false),hE,hS,hS,hS,hN (.pk true)] true (hk3 hg1 (hk3 hg2 (kc (lsAt_map (f := zE2) hx3) (hk4 hg2 (hk3 hg4 (kc (lsAt_map (f := zE2) hx5) (hk4 hg4 (kc hg6 (hk6 hg6 (kc (lsAt_map (f := zE2) hx7) (hk4 hg6 (hk4 hg8 (hk4 hg9 (hk4 hg10 .nil)))))))))))))) rfl
  replace ht := ite_f ht hg10
  obtain rfl := sj ht
  exact rb [hE,hE,hE,hY,hY,hN (.pk false),hE,hY,hY,(.y,(.pAt (zE2 x3))),hY,hY,hY,hN (.pk false),hE,hY,hY,(.y,(.pAt (zE2 x5))),hY,hY,hY,hN (.pk false),hE,hY,hY,hY,hY,hY,hY,(.y,(.pAt (zE2 x7))),hY,hY,hY,hN (.pk false),hE,hY,hY,hY,hN (.pk false),hE,hY,hY,hY,hN (.pk false),hE,hY,hY,hY,hN (.pk false)] (decide (1099511627777 < p.Group)) (hk3 hg1 (hk3 hg2 (kc (lsAt_map (f := zE2) hx3) (hk4 hg2 (hk3 hg4 (kc (lsAt_map (f := zE2) hx5) (hk4 hg4 (kc hg6 (hk6 hg6 (kc (lsAt_map (f := zE2) hx7) (hk4 hg6 (hk4 hg8 (hk4 hg9 (hk4 hg10 .nil)))))))))))))) rfl
 clear ht
 refine x_if h rfl (fun hc12 h => ?_) (fun hc12 h => ?_)
 ·refine x_rg (rgn [hE] (⟨[(2,pB false)],[],0⟩)) ?_
  refine x_toret (x_tr ?_)
  obtain rfl := sj h
  exact ret0 (.bool false) (.refl _) (fun _ => rfl)
 refine x_kk (x_skip (x_tn (x_seq ?_)))
 refine x_rg (rgn [hE] (⟨[oP 1 0,(3,pI (List.length p.L : Int)),(4,pI 0)],[rP 0 3 (zE3 p)],1⟩)) ?_
 refine x_block ?_
 refine kw0 (⟨[oP 1 0,(3,pI (List.length p.L : Int)),(4,pI 0)],[rP 0 3 (zE3 p)],1⟩) ?_
 refine x_loop (σ := Int) h (fun s => ⟨[oP 1 0,(3,pI (List.length p.L : Int)),(4,pI s)],[rP 0 3 (zE3 p)],1⟩) (by kernel_rfl) ?_ ?_
 ·rintro i
  kernel_rfl
 rintro i x19 h hx19
 replace h : ref30_Right_L19 p i = some x19 := h
 unfold ref30_Right_L19 at h
 refine x_seq ?_
 refine x_rg (rgn [hE,hE,hE] (⟨[oP 1 0,(3,pI (List.length p.L : Int)),(4,pI i),(61,pB (decide (i < (List.length p.L : Int))))],[rP 0 3 (zE3 p)],1⟩)) ?_
 refine x_if h rfl (fun hc20 h => ?_) (fun hc20 h => ?_)
 ·refine x_kk (x_skip (x_tn (x_seq (x_block (x_seq ?_)))))
  obtain ⟨x21,hx21,h⟩ := bind_some h
  obtain ⟨x22,hx22,h⟩ := bind_some h
  refine x_rg (rg0 [hE,hE,hE,hE,hN (.pAt (zE2 x21)),hE,hN (.cal [] (.bool x22) true),hE] (⟨[oP 1 0,(3,pI (List.length p.L : Int)),(4,pI i),(71,pB (!x22))],[rP 0 3 (zE3 p)],1⟩) (kc (lsAt_map (f := zE2) hx21) (kc (c27 hx22) .nil))) ?_
  refine x_if h rfl (fun hc23 h => ?_) (fun hc23 h => ?_)
  ·refine x_rg (rgn [hE] (⟨[(2,pB false)],[],0⟩)) ?_
   refine x_toret (x_tr (x_br (x_tr (x_tr ?_))))
   replace h := done_leaf h hx19
   refine x_br (x_tr ?_)
   obtain rfl := sj h
   exact ret0 (.bool false) (.refl _) (fun _ => rfl)
  refine x_kk (x_skip (x_tn ?_))
  refine x_rg (rgn [hE,hE,hE] (⟨[oP 1 0,(3,pI (List.length p.L : Int)),(4,pI i),(5,pB (decide (i = 0)))],[rP 0 3 (zE3 p)],1⟩)) ?_
  refine x_seq ?_
  refine x_rg (rgn [hE] (⟨[oP 1 0,(3,pI (List.length p.L : Int)),(4,pI i),(5,pB (decide (i = 0))),(6,pI 0)],[rP 0 3 (zE3 p)],1⟩)) ?_
  refine x_block ?_
  refine kw0 (⟨[oP 1 0,(3,pI (List.length p.L : Int)),(4,pI i),(5,pB (decide (i = 0))),(6,pI 0)],[rP 0 3 (zE3 p)],1⟩) ?_
  refine x_loop (σ := (Bool × Int)) h (fun s => ⟨[oP 1 0,(3,pI (List.length p.L : Int)),(4,pI i),(5,pB s.1),(6,pI s.2)],[rP 0 3 (zE3 p)],1⟩) (by kernel_rfl) ?_ ?_
  ·rintro ⟨found,k⟩
   kernel_rfl
  rintro ⟨found,k⟩ x31 h hx31
  replace h : ref30_Right_L31 p i found k = some x31 := h
  unfold ref30_Right_L31 at h
  refine x_seq ?_
  refine x_rg (rgn [hE,hE,hE] (⟨[oP 1 0,(3,pI (List.length p.L : Int)),(4,pI i),(5,pB found),(6,pI k),(76,pB (decide (k < i)))],[rP 0 3 (zE3 p)],1⟩)) ?_
  refine x_if h rfl (fun hc32 h => ?_) (fun hc32 h => ?_)
  ·refine x_kk (x_skip (x_tn (x_seq (x_block ?_))))
   obtain ⟨t36,ht,h⟩ := bind_some h
   refine x_rgtB (fun b_ => (⟨[oP 1 0,(3,pI (List.length p.L : Int)),(4,pI i),(5,pB b_),(6,pI k)],[rP 0 3 (zE3 p)],1⟩ : VSt)) t36 ?_ ?_
   ·rcases bq found with hg33 | hg33
    ·replace ht := ite_t ht hg33
     obtain rfl := sj ht
     exact rb [hE,hE,hS,hS,hS,hS,hS,hS,hS,hS,hS,hS,hS,hS,hS,hN (.pk true),hE] true (hk6 hg33 (hk8 hg33 .nil)) rfl
    replace ht := ite_f ht hg33
    obtain ⟨x34,hx34,ht⟩ := bind_some ht
    obtain ⟨x35,hx35,ht⟩ := bind_some ht
    obtain rfl := sj ht
    exact rb [hE,hE,hY,hY,hY,(.y,(.pAt (zE2 x34))),hY,hY,hY,hY,hY,(.y,(.pAt (zE2 x35))),hY,hY,hY,hN (.pk false),hE] (decide (x34.Id = x35.Parent)) (hk4 hg33 (kc (lsAt_map (f := zE2) hx34) (hk6 hg33 (kc (lsAt_map (f := zE2) hx35) (hk4 hg33 .nil))))) rfl
   clear ht
   refine x_bn (x_tn ?_)
   refine x_rgt (rgn [hE,hE,hE] (⟨[oP 1 0,(3,pI (List.length p.L : Int)),(4,pI i),(5,pB t36),(6,pI (IntKind.wrap .i64 (k + 1)))],[rP 0 3 (zE3 p)],1⟩)) ?_
   refine x_tn ?_
   exact ⟨_,(sj h).symm,by kernel_rfl⟩
  refine kw0 (⟨[oP 1 0,(3,pI (List.length p.L : Int)),(4,pI i),(5,pB found)],[rP 0 3 (zE3 p)],1⟩) ?_
  refine x_exit ?_
  refine x_te (x_te ?_)
  replace h := done_map h hx31
  unfold ref30_Right_A43 at h
  refine x_bh ?_
  refine x_tn ?_
  obtain ⟨t41,ht,h⟩ := bind_some h
  refine x_rgB (fun b_ => (⟨[oP 1 0,(3,pI (List.length p.L : Int)),(4,pI i),(116,pB b_)],[rP 0 3 (zE3 p)],1⟩ : VSt)) t41 ?_ ?_
  ·rcases bq (!found) with hg37 | hg37
   ·replace ht := ite_t ht hg37
    obtain rfl := sj ht
    exact rb [hE,hE,hE,hS,hS,hS,(.u,.e),(.u,.e),(.u,.e),(.u,.e),(.u,.e),(.u,.e),(.u,.e),(.u,.e),(.u,.e),(.u,.e),(.u,.e),(.u,.e),(.u,.e),(.u,.e),hS,hN (.pk true)] true (hk5 hg37 .nil) rfl
   replace ht := ite_f ht hg37
   rcases bq (decide (0 < i)) with hg38 | hg38
   ·replace ht := ite_t ht hg38
    obtain ⟨x39,hx39,ht⟩ := bind_some ht
    obtain ⟨x40,hx40,ht⟩ := bind_some ht
    obtain rfl := sj ht
    exact rb [hE,hE,hE,hY,hY,hY,hY,hY,hY,(.y,(.pAt (zE2 x39))),hY,hY,hY,hY,hY,hY,(.y,(.pAt (zE2 x40))),hY,hY,hY,(.y,(.pk true)),hN (.pk false)] (decide (x39.Id ≤ x40.Id)) (hk3 hg37 (hk4 hg38 (kc (lsAt_map (f := zE2) hx39) (kc hg38 (hk6 hg38 (kc (lsAt_map (f := zE2) hx40) (hk3 hg38 (kc hg37 (kc hg38 (kc hg37 .nil)))))))))) rfl
   replace ht := ite_f ht hg38
   obtain rfl := sj ht
   exact rb [hE,hE,hE,hY,hY,hY,hS,hS,hS,hS,hS,hS,hS,hS,hS,hS,hS,hS,hS,hS,(.y,(.pk false)),hN (.pk false)] false (hk3 hg37 (hk6 hg38 (hk8 hg38 (kc hg37 (kc hg38 (kc hg37 .nil)))))) rfl
  clear ht
  refine x_if h rfl (fun hc42 h => ?_) (fun hc42 h => ?_)
  ·refine x_rg (rgn [hE] (⟨[(2,pB false)],[],0⟩)) ?_
   refine x_toret (x_br (x_tr (x_tr ?_)))
   replace h := done_leaf h hx19
   refine x_br (x_tr ?_)
   obtain rfl := sj h
   exact ret0 (.bool false) (.refl _) (fun _ => rfl)
  refine x_kk (x_skip (x_bn (x_tn ?_)))
  refine x_rgt (rgn [hE,hE,hE] (⟨[oP 1 0,(3,pI (List.length p.L : Int)),(4,pI (IntKind.wrap .i64 (i + 1)))],[rP 0 3 (zE3 p)],1⟩)) ?_
  refine x_tn ?_
  exact ⟨_,(sj h).symm,by kernel_rfl⟩
 refine kw0 (⟨[],[],0⟩) ?_
 refine x_exit ?_
 refine x_te (x_te ?_)
 replace h := done_leaf h hx19
 refine x_bh ?_
 refine x_tn ?_
 refine x_rg (rgn [hE] (⟨[(2,pB true)],[],0⟩)) ?_
 refine x_toret ?_
 obtain rfl := sj h
 exact ret0 (.bool true) (.refl _) (fun _ => rfl)
theorem c54 {name : Str} {r : Bool} (h : user_Valid name = some r) : CallOK Tryd.prog 54 [.str name] (.bool r) true := by
 apply ok54
 unfold user_Valid at h
 refine x_rg (rgn [hE] (⟨[(0,pS name)],[],0⟩)) ?_
 refine x_seq ?_
 refine x_rgB (fun b_ => (⟨[(0,pS name),(13,pB b_)],[],0⟩ : VSt)) ((decide (name = [])) || (decide (32 < (List.length name : Int)))) ?_ ?_
 ·rcases bq (decide (name = [])) with hg1 | hg1
  ·exact rb [hE,hE,hE,hS,hS,hS,hN (.pk true)] true (hk4 hg1 .nil) (by simp only [hg1,bs,reduceIte])
  exact rb [hE,hE,hE,hY,hY,hY,hN (.pk false)] (decide (32 < (List.length name : Int))) (hk4 hg1 .nil) (by simp only [hg1,bs,reduceIte])
 refine x_if h rfl (fun hc3 h => ?_) (fun hc3 h => ?_)
 ·refine x_rg (rgn [hE] (⟨[(2,pB false)],[],0⟩)) ?_
  refine x_toret (x_tr ?_)
  obtain rfl := sj h
  exact ret0 (.bool false) (.refl _) (fun _ => rfl)
 refine x_kk (x_skip (x_tn (x_seq ?_)))
 refine x_rg (rgn [hE,hE,hE] (⟨[(0,pS name),(15,pI (List.length name : Int)),(16,pI 0)],[],0⟩)) ?_
 refine x_block ?_
 refine kw0 (⟨[(0,pS name),(15,pI (List.length name : Int)),(16,pI 0)],[],0⟩) ?_
 refine x_loop (σ := Int) h (fun s => ⟨[(0,pS name),(15,pI (List.length name : Int)),(16,pI s)],[],0⟩) (by kernel_rfl) ?_ ?_
 ·rintro v16
  kernel_rfl
 rintro v16 x17 h hx17
 replace h : user_Valid_L17 name v16 = some x17 := h
 unfold user_Valid_L17 at h
 refine x_rg (rgn [hE] (⟨[(0,pS name),(15,pI (List.length name : Int)),(16,pI v16),(17,pB (decide (v16 < (List.length name : Int))))],[],0⟩)) ?_
 refine x_seq ?_
 refine x_if h rfl (fun hc18 h => ?_) (fun hc18 h => ?_)
 ·refine x_kk (x_skip (x_tn (x_seq (x_block ?_))))
  refine x_rg (rgn [hE,hE] (⟨[(0,pS name),(3,pI v16),(15,pI (List.length name : Int)),(16,pI v16)],[],0⟩)) ?_
  obtain ⟨c19,hc19,h⟩ := bind_some h
  refine x_rg (rg0 [hE,hE,hN (.sAt c19),hE] (⟨[(0,pS name),(3,pI v16),(4,.pv (.int .u8 (c19.toNat : Int))),(15,pI (List.length name : Int)),(16,pI v16)],[],0⟩) (kc hc19 .nil)) ?_
  refine x_rgB (fun b_ => (⟨[(0,pS name),(3,pI v16),(4,.pv (.int .u8 (c19.toNat : Int))),(5,pB b_),(15,pI (List.length name : Int)),(16,pI v16)],[],0⟩ : VSt)) ((decide (97 ≤ (c19.toNat : Int))) && (decide ((c19.toNat : Int) ≤ 122))) ?_ ?_
  ·rcases bq (decide (97 ≤ (c19.toNat : Int))) with hg20 | hg20
   ·exact rb [hE,hE,hE,hY,hY,hN (.pk true),hE] (decide ((c19.toNat : Int) ≤ 122)) (hk3 hg20 .nil) (by simp only [hg20,bs,reduceIte])
   exact rb [hE,hE,hE,hS,hS,hN (.pk false),hE] false (hk3 hg20 .nil) (by simp only [hg20,bs,reduceIte])
  refine x_rgB (fun b_ => (⟨[(0,pS name),(3,pI v16),(5,pB ((decide (97 ≤ (c19.toNat : Int))) && (decide ((c19.toNat : Int) ≤ 122)))),(6,pB b_),(15,pI (List.length name : Int)),(16,pI v16)],[],0⟩ : VSt)) (if (decide (48 ≤ (c19.toNat : Int))) then ((decide ((c19.toNat : Int) ≤ 57)) || ((decide ((c19.toNat : Int) = 45)) || (decide ((c19.toNat : Int) = 95)))) else ((decide ((c19.toNat : Int) = 45)) || (decide ((c19.toNat : Int) = 95)))) ?_ ?_
  ·rcases bq (decide (48 ≤ (c19.toNat : Int))) with hg22 | hg22
   ·rcases bq (decide ((c19.toNat : Int) ≤ 57)) with hg23 | hg23
    ·exact rb [hE,hE,hE,hY,hY,hN (.pk true),hE,hS,hS,hN (.pk true),hE,hS,hS,hE,hE] true (hk3 hg22 (hk3 hg23 (hk2 tt .nil))) (by simp only [hg22,hg23,bs,reduceIte])
    rcases bq (decide ((c19.toNat : Int) = 45)) with hg24 | hg24
    ·exact rb [hE,hE,hE,hY,hY,hN (.pk true),hE,hY,hY,hN (.pk false),hE,hS,hS,hN (.pk true),hE] true (hk3 hg22 (hk3 hg23 (hk3 hg24 .nil))) (by simp only [hg22,hg23,hg24,bs,reduceIte])
    exact rb [hE,hE,hE,hY,hY,hN (.pk true),hE,hY,hY,hN (.pk false),hE,hY,hY,hN (.pk false),hE] (decide ((c19.toNat : Int) = 95)) (hk3 hg22 (hk3 hg23 (hk3 hg24 .nil))) (by simp only [hg22,hg23,hg24,bs,reduceIte])
   rcases bq (decide ((c19.toNat : Int) = 45)) with hg25 | hg25
   ·exact rb [hE,hE,hE,hS,hS,hN (.pk false),hE,hY,hY,hE,hE,hS,hS,hN (.pk true),hE] true (hk3 hg22 (hk2 ff (hk3 hg25 .nil))) (by simp only [hg22,hg25,bs,reduceIte])
   exact rb [hE,hE,hE,hS,hS,hN (.pk false),hE,hY,hY,hE,hE,hY,hY,hN (.pk false),hE] (decide ((c19.toNat : Int) = 95)) (hk3 hg22 (hk2 ff (hk3 hg25 .nil))) (by simp only [hg22,hg25,bs,reduceIte])
  refine x_rgB (fun b_ => (⟨[(0,pS name),(15,pI (List.length name : Int)),(16,pI v16),(51,pB b_)],[],0⟩ : VSt)) ((!((decide (97 ≤ (c19.toNat : Int))) && (decide ((c19.toNat : Int) ≤ 122)))) && ((decide (v16 = 0)) || (!(if (decide (48 ≤ (c19.toNat : Int))) then ((decide ((c19.toNat : Int) ≤ 57)) || ((decide ((c19.toNat : Int) = 45)) || (decide ((c19.toNat : Int) = 95)))) else ((decide ((c19.toNat : Int) = 45)) || (decide ((c19.toNat : Int) = 95))))))) ?_ ?_
  ·rcases bq (!((decide (97 ≤ (c19.toNat : Int))) && (decide ((c19.toNat : Int) ≤ 122)))) with hg27 | hg27
   ·rcases bq (decide (v16 = 0)) with hg28 | hg28
    ·exact rb [hE,hE,hE,hY,hY,hY,hS,hS,(.y,(.pk true)),hN (.pk true)] true (hk3 hg27 (hk2 hg28 (kc hg27 (kc hg28 (kc hg27 .nil))))) (by simp only [hg27,hg28,bs,reduceIte])
    exact rb [hE,hE,hE,hY,hY,hY,hY,hY,(.y,(.pk false)),hN (.pk true)] (!(if (decide (48 ≤ (c19.toNat : Int))) then ((decide ((c19.toNat : Int) ≤ 57)) || ((decide ((c19.toNat : Int) = 45)) || (decide ((c19.toNat : Int) = 95)))) else ((decide ((c19.toNat : Int) = 45)) || (decide ((c19.toNat : Int) = 95))))) (hk3 hg27 (hk2 hg28 (kc hg27 (kc hg28 (kc hg27 .nil))))) (by simp only [hg27,hg28,bs,reduceIte])
   exact rb [hE,hE,hE,hS,hS,hS,(.u,.e),(.u,.e),hS,hN (.pk false)] false (hk5 hg27 .nil) (by simp only [hg27,bs,reduceIte])
  refine x_if h rfl (fun hc30 h => ?_) (fun hc30 h => ?_)
  ·refine x_rg (rgn [hE] (⟨[(2,pB false)],[],0⟩)) ?_
   refine x_toret (x_br (x_tr (x_tr ?_)))
   replace h := done_leaf h hx17
   refine x_br (x_tr ?_)
   obtain rfl := sj h
   exact ret0 (.bool false) (.refl _) (fun _ => rfl)
  refine x_kk (x_skip (x_bn (x_tn ?_)))
  refine x_rgt (rgn [hE,hE] (⟨[(0,pS name),(15,pI (List.length name : Int)),(16,pI (IntKind.wrap .i64 (v16 + 1)))],[],0⟩)) ?_
  refine x_tn ?_
  exact ⟨_,(sj h).symm,by kernel_rfl⟩
 refine kw0 (⟨[],[],0⟩) ?_
 refine x_exit ?_
 refine x_te (x_te ?_)
 replace h := done_leaf h hx17
 refine x_bh ?_
 refine x_tn ?_
 refine x_rg (rgn [hE] (⟨[(2,pB true)],[],0⟩)) ?_
 refine x_toret ?_
 obtain rfl := sj h
 exact ret0 (.bool true) (.refl _) (fun _ => rfl)
theorem c28 {name : Str} {r : (api_Procs × Int)} (h : proc_New name = some r) : CallOK Tryd.prog 28 [.str name] (.tup [(gA1 r.1),.int .i64 r.2]) false := by
 apply ok28
 unfold proc_New at h
 refine x_rg (rgn [hE,hE] (⟨[(0,pS name),oP 2 0],[rP 0 3 gA2],1⟩)) ?_
 refine x_seq ?_
 obtain ⟨x1,hx1,h⟩ := bind_some h
 refine x_rg (rg0 [hE,hN (.cal [] (.bool x1) true),hE] (⟨[(0,pS name),oP 2 0,(7,pB (!x1))],[rP 0 3 gA2],1⟩) (kc (c54 hx1) .nil)) ?_
 refine x_if h rfl (fun hc2 h => ?_) (fun hc2 h => ?_)
 ·refine x_rg (rgn [hE,hE,hE] (⟨[oP 2 0,(3,pI 25)],[rP 0 3 gA2],1⟩)) ?_
  refine x_toret (x_tr ?_)
  obtain rfl := sj h
  exact ret0 (.tup [gA2,.int .i64 25]) (.tup (.cons (.refl _) (.cons (.refl _) .nil))) (fun h => nomatch h)
 refine x_kk (x_skip (x_tn ?_))
 refine x_rg (rgn [hE,hE,hE,hE] (⟨[oP 2 0,oP 4 1],[rP 0 3 gA2,rP 1 13 (.agg [.int .i64 1,.int .i64 0,.int .i64 1,.str name,.str [],.int .i64 1,.int .i64 1,.int .i64 1,.str [47],.usl none [],.str [],.usl (some 2) [],.bool false])],2⟩)) ?_
 refine x_rg (rgn [hE,hE,hE,hE,hE] (⟨[oP 2 0,(3,pI 0)],[rH 0 3 (.agg [pI 2,pI 2,.osl 1 0 1]),rP 1 13 (.agg [.int .i64 1,.int .i64 0,.int .i64 1,.str name,.str [],.int .i64 1,.int .i64 1,.int .i64 1,.str [47],.sl none (List.map PV.str ([] : List Str)),.str [],.sl (some 2) (List.map zE1 ([] : List api_Wait)),.bool false])],2⟩)) ?_
 refine x_toret ?_
 obtain rfl := sj h
 exact x_ret (.tup [.agg [.int .i64 2,.int .i64 2,.usl (some 13) (List.take 1 ([.agg [.int .i64 1,.int .i64 0,.int .i64 1,.str name,.str [],.int .i64 1,.int .i64 1,.int .i64 1,.str [47],.sl none (List.map PV.str ([] : List Str)),.str [],.sl (some 2) (List.map zE1 ([] : List api_Wait)),.bool false]] : List PV))],.int .i64 0]) [1] [1 ≤ List.length ([.agg [.int .i64 1,.int .i64 0,.int .i64 1,.str name,.str [],.int .i64 1,.int .i64 1,.int .i64 1,.str [47],.sl none (List.map PV.str ([] : List Str)),.str [],.sl (some 2) (List.map zE1 ([] : List api_Wait)),.bool false]] : List PV)] (by kernel_rfl) (.cons (Nat.le_refl _) .nil) (by decide) (.tup (.cons (.refl _) (.cons (.refl _) .nil))) (fun h => nomatch h)
theorem c63 {base : Int} {r : Bool} (h : num_known base = some r) : CallOK Tryd.prog 63 [.int .i64 base] (.bool r) true := by
 apply ok63
 unfold num_known at h
 refine x_rg (rgn [hE] (⟨[(0,pI base)],[],0⟩)) ?_
 refine x_rgB (fun b_ => (⟨[(2,pB b_)],[],0⟩ : VSt)) ((decide (base = 8)) || ((decide (base = 10)) || (decide (base = 16)))) ?_ ?_
 ·rcases bq (decide (base = 8)) with hg1 | hg1
  ·exact rb [hE,hE,hE,hS,hS,hN (.pk true),hE,hS,hS,hE,hE] true (hk3 hg1 (hk2 tt .nil)) (by simp only [hg1,bs,reduceIte])
  rcases bq (decide (base = 10)) with hg2 | hg2
  ·exact rb [hE,hE,hE,hY,hY,hN (.pk false),hE,hS,hS,hN (.pk true),hE] true (hk3 hg1 (hk3 hg2 .nil)) (by simp only [hg1,hg2,bs,reduceIte])
  exact rb [hE,hE,hE,hY,hY,hN (.pk false),hE,hY,hY,hN (.pk false),hE] (decide (base = 16)) (hk3 hg1 (hk3 hg2 .nil)) (by simp only [hg1,hg2,bs,reduceIte])
 refine x_toret ?_
 obtain rfl := sj h
 exact ret0 (.bool ((decide (base = 8)) || ((decide (base = 10)) || (decide (base = 16))))) (.refl _) (fun _ => rfl)
theorem c64 {a0 : Int} {a1 : Int} {r : Str} (h : strconv_FormatInt a0 a1 = some r) : CallOK Tryd.prog 64 [.int .i64 a0,.int .i64 a1] (.str r) true :=
  ok_formatInt Tryd.func64 (by kernel_rfl) (by kernel_rfl) (by kernel_rfl) Tryd.strconv_FormatInt_10 h
theorem c38 {n : Int} {base : Int} {r : Str} (h : num_Text n base = some r) : CallOK Tryd.prog 38 [.int .i64 n,.int .i64 base] (.str r) true := by
 apply ok38
 unfold num_Text at h
 refine x_rg (rgn [hE] (⟨[(0,pI n),(1,pI base)],[],0⟩)) ?_
 refine x_seq ?_
 obtain ⟨x1,hx1,h⟩ := bind_some h
 refine x_rg (rg0 [hE,hN (.cal [] (.bool x1) true),hE] (⟨[(0,pI n),(1,pI base),(7,pB (!x1))],[],0⟩) (kc (c63 hx1) .nil)) ?_
 refine x_if h rfl (fun hc2 h => ?_) (fun hc2 h => ?_)
 ·refine x_rg (rgn [hE] (⟨[(4,pS [])],[],0⟩)) ?_
  refine x_toret (x_tr ?_)
  obtain rfl := sj h
  exact ret0 (.str []) (.refl _) (fun _ => rfl)
 refine x_kk (x_skip (x_tn ?_))
 obtain ⟨x3,hx3,h⟩ := bind_some h
 refine x_rg (rg0 [hE,hE,hN (.cal [] (.str x3) true),hE] (⟨[(4,pS x3)],[],0⟩) (kc (c64 hx3) .nil)) ?_
 refine x_toret ?_
 obtain rfl := sj h
 exact ret0 (.str x3) (.refl _) (fun _ => rfl)
theorem c14 {p : api_Proc} {r : Str} (h : procfs_Status p = some r) : CallOK Tryd.prog 14 [zE2 p] (.str r) true := by
 apply ok14
 unfold procfs_Status at h
 refine x_rg (rgn [hE,hE] (⟨[oP 1 0],[rP 0 13 (zE2 p)],1⟩)) ?_
 refine x_rg (rgn [hE] (⟨[oP 1 0,(3,pS [117,110,107,110,111,119,110])],[rP 0 13 (zE2 p)],1⟩)) ?_
 refine x_join (τ := Str) (fun t => procfs_Status_K1 p t = some r) (fun t => { tm := [oP 1 0,(3,.pv (.str t))],hp := [rP 0 13 (zE2 p)],nx := 1 }) ?_ ?_
 ·rintro p2 h
  replace h : procfs_Status_K1 p p2 = some r := h
  unfold procfs_Status_K1 at h
  obtain ⟨x3,hx3,h⟩ := bind_some h
  obtain ⟨x4,hx4,h⟩ := bind_some h
  obtain ⟨x5,hx5,h⟩ := bind_some h
  obtain ⟨x6,hx6,h⟩ := bind_some h
  obtain ⟨x7,hx7,h⟩ := bind_some h
  obtain ⟨x8,hx8,h⟩ := bind_some h
  obtain ⟨x9,hx9,h⟩ := bind_some h
  obtain ⟨x10,hx10,h⟩ := bind_some h
  refine x_rg (rg0 [hE,hE,hN (.cat x3),hE,hE,hN (.cat x4),hN (.cat x5),hE,hN (.cat x6),hN (.cat x7),hE,hE,hN (.cal [] (.str x8) true),hN (.cat x9),hN (.cat x10),hE] (⟨[(2,pS x10)],[],0⟩) (kc hx3 (kc hx4 (kc hx5 (kc hx6 (kc hx7 (kc (c38 hx8) (kc hx9 (kc hx10 .nil))))))))) ?_
  refine x_toret ?_
  obtain rfl := sj h
  exact ret0 (.str x10) (.refl _) (fun _ => rfl)
 refine x_rg (rgn [hE,hE] (⟨[oP 1 0,(3,pS [117,110,107,110,111,119,110]),(5,pI p.State)],[rP 0 13 (zE2 p)],1⟩)) ?_
 refine x_block ?_
 refine x_rg (rgn [hE,hE] (⟨[oP 1 0,(3,pS [117,110,107,110,111,119,110]),(5,pI p.State),(6,pB (decide (p.State = 1)))],[rP 0 13 (zE2 p)],1⟩)) ?_
 refine x_if h rfl (fun hc11 h => ?_) (fun hc11 h => ?_)
 ·refine x_rgt (rgn [hE] (⟨[oP 1 0,(3,pS [114,101,97,100,121])],[rP 0 13 (zE2 p)],1⟩)) ?_
  refine x_bn (x_tn ?_)
  exact ⟨[114,101,97,100,121],h,by kernel_rfl⟩
 refine x_rg (rgn [hE,hE] (⟨[oP 1 0,(3,pS [117,110,107,110,111,119,110]),(5,pI p.State),(8,pB (decide (p.State = 2)))],[rP 0 13 (zE2 p)],1⟩)) ?_
 refine x_if h rfl (fun hc12 h => ?_) (fun hc12 h => ?_)
 ·refine x_rgt (rgn [hE] (⟨[oP 1 0,(3,pS [115,116,111,112,112,101,100])],[rP 0 13 (zE2 p)],1⟩)) ?_
  refine x_bn (x_tn ?_)
  exact ⟨[115,116,111,112,112,101,100],h,by kernel_rfl⟩
 refine x_rg (rgn [hE,hE] (⟨[oP 1 0,(3,pS [117,110,107,110,111,119,110]),(5,pI p.State),(10,pB (decide (p.State = 3)))],[rP 0 13 (zE2 p)],1⟩)) ?_
 refine x_if h rfl (fun hc13 h => ?_) (fun hc13 h => ?_)
 ·refine x_rgt (rgn [hE] (⟨[oP 1 0,(3,pS [98,114,111,107,101,110])],[rP 0 13 (zE2 p)],1⟩)) ?_
  refine x_bn (x_tn ?_)
  exact ⟨[98,114,111,107,101,110],h,by kernel_rfl⟩
 refine x_rg (rgn [hE,hE] (⟨[oP 1 0,(3,pS [117,110,107,110,111,119,110]),(12,pB (decide (p.State = 4)))],[rP 0 13 (zE2 p)],1⟩)) ?_
 refine x_if h rfl (fun hc14 h => ?_) (fun hc14 h => ?_)
 ·refine x_rgt (rgn [hE] (⟨[oP 1 0,(3,pS [103,111,110,101])],[rP 0 13 (zE2 p)],1⟩)) ?_
  refine x_bn (x_tn ?_)
  exact ⟨[103,111,110,101],h,by kernel_rfl⟩
 refine kw0 (⟨[oP 1 0,(3,pS [117,110,107,110,111,119,110])],[rP 0 13 (zE2 p)],1⟩) ?_
 refine x_skip (x_bn (x_tn ?_))
 exact ⟨[117,110,107,110,111,119,110],h,by kernel_rfl⟩
theorem c83 {x_ : api_Proc} {a1 : Int} {r : Bool} (h : proc_index_1 x_ a1 = some r) : CallOK Tryd.prog 83 [zE2 x_,.rptr none (.int .i64 a1) 0] (.bool r) true := by
 apply ok83
 unfold proc_index_1 at h
 refine x_rg (rgn [hE,hE] (⟨[(1,.pv (.rptr none (.int .i64 a1) 0)),oP 2 0],[rP 0 13 (zE2 x_)],1⟩)) ?_
 refine x_rg (rgn [hE,hE,hE,hE,hE] (⟨[(3,pB (decide (x_.Id = a1)))],[],0⟩)) ?_
 refine x_toret ?_
 obtain rfl := sj h
 exact ret0 (.bool (decide (x_.Id = a1))) (.refl _) (fun _ => rfl)
theorem c82_f83 {s_ : (List api_Proc)} {f : Int} {r : Int} (h : slices_IndexFunc_api_Proc_api_Proc_f83 s_ f = some r) : CallOK Tryd.prog 82 [.sl (some 13) (List.map zE2 s_),.fn 83 [.rptr none (.int .i64 f) 0]] (.int .i64 r) true := by
 apply ok82
 unfold slices_IndexFunc_api_Proc_api_Proc_f83 at h
 refine x_rg (rgn [hE] (⟨[(0,pL (some 13) zE2 s_),(1,.pv (.fn 83 [.rptr none (.int .i64 f) 0]))],[],0⟩)) ?_
 refine x_seq ?_
 refine x_rg (rg0 [hE,hN (.len (List.length s_ : Int)),hE] (⟨[(0,pL (some 13) zE2 s_),(1,.pv (.fn 83 [.rptr none (.int .i64 f) 0])),(7,pI (List.length s_ : Int)),(8,pI 0)],[],0⟩) (kc (lenM zE2 s_) .nil)) ?_
 refine x_block ?_
 refine kw0 (⟨[(0,pL (some 13) zE2 s_),(1,.pv (.fn 83 [.rptr none (.int .i64 f) 0])),(7,pI (List.length s_ : Int)),(8,pI 0)],[],0⟩) ?_
 refine x_loop (σ := Int) h (fun s => ⟨[(0,pL (some 13) zE2 s_),(1,.pv (.fn 83 [.rptr none (.int .i64 f) 0])),(7,pI (List.length s_ : Int)),(8,pI s)],[],0⟩) (by kernel_rfl) ?_ ?_
 ·rintro v5
  kernel_rfl
 rintro v5 x6 h hx6
 replace h : slices_IndexFunc_api_Proc_api_Proc_f83_L6 s_ f v5 = some x6 := h
 unfold slices_IndexFunc_api_Proc_api_Proc_f83_L6 at h
 refine x_rg (rgn [hE] (⟨[(0,pL (some 13) zE2 s_),(1,.pv (.fn 83 [.rptr none (.int .i64 f) 0])),(7,pI (List.length s_ : Int)),(8,pI v5),(9,pB (decide (v5 < (List.length s_ : Int))))],[],0⟩)) ?_
 refine x_seq ?_
 refine x_if h rfl (fun hc7 h => ?_) (fun hc7 h => ?_)
 ·refine x_kk (x_skip (x_tn (x_seq (x_block ?_))))
  refine x_rg (rgn [hE,hE] (⟨[(0,pL (some 13) zE2 s_),(1,.pv (.fn 83 [.rptr none (.int .i64 f) 0])),(5,pI v5),(7,pI (List.length s_ : Int)),(8,pI v5)],[],0⟩)) ?_
  obtain ⟨x8,hx8,h⟩ := bind_some h
  obtain ⟨x9,hx9,h⟩ := bind_some h
  refine x_rg (rg0 [hE,hE,hE,hN (.pAt (zE2 x8)),hE,hN (.cal [] (.bool x9) true)] (⟨[(0,pL (some 13) zE2 s_),(1,.pv (.fn 83 [.rptr none (.int .i64 f) 0])),(5,pI v5),(7,pI (List.length s_ : Int)),(8,pI v5),(16,pB x9)],[],0⟩) (kc (lsAt_map (f := zE2) hx8) (kc (c83 hx9) .nil))) ?_
  refine x_if h rfl (fun hc10 h => ?_) (fun hc10 h => ?_)
  ·refine x_rg (rgn [hE,hE] (⟨[(4,pI v5)],[],0⟩)) ?_
   refine x_toret (x_br (x_tr (x_tr ?_)))
   replace h := done_leaf h hx6
   refine x_br (x_tr ?_)
   obtain rfl := sj h
   exact ret0 (.int .i64 v5) (.refl _) (fun _ => rfl)
  refine x_kk (x_skip (x_bn (x_tn ?_)))
  refine x_rgt (rgn [hE,hE] (⟨[(0,pL (some 13) zE2 s_),(1,.pv (.fn 83 [.rptr none (.int .i64 f) 0])),(7,pI (List.length s_ : Int)),(8,pI (IntKind.wrap .i64 (v5 + 1)))],[],0⟩)) ?_
  refine x_tn ?_
  exact ⟨_,(sj h).symm,by kernel_rfl⟩
 refine kw0 (⟨[],[],0⟩) ?_
 refine x_exit ?_
 refine x_te (x_te ?_)
 replace h := done_leaf h hx6
 refine x_bh ?_
 refine x_tn ?_
 refine x_rg (rgn [hE] (⟨[(4,pI (-1))],[],0⟩)) ?_
 refine x_toret ?_
 obtain rfl := sj h
 exact ret0 (.int .i64 (-1)) (.refl _) (fun _ => rfl)
theorem c71 {p : api_Procs} {id : Int} {r : Int} (h : proc_index p id = some r) : CallOK Tryd.prog 71 [zE3 p,.int .i64 id] (.int .i64 r) true := by
 apply ok71
 unfold proc_index at h
 refine x_rg (rgn [hE,hE,hE] (⟨[oP 2 0,oP 3 1],[rP 0 3 (zE3 p),(1,some (.p none [.int .i64 id]))],2⟩)) ?_
 obtain ⟨x1,hx1,h⟩ := bind_some h
 refine x_rg (rg0 [hE,hE,hE,hN (.cal [] (.int .i64 x1) true),hE] (⟨[(4,pI x1)],[],0⟩) (kc (c82_f83 hx1) .nil)) ?_
 refine x_toret ?_
 obtain rfl := sj h
 exact ret0 (.int .i64 x1) (.refl _) (fun _ => rfl)
theorem c68_n {r : (List Str)} (h : slices_Clone_string_string_n = some r) : CallOK Tryd.prog 68 [.nilsl] (.usl none (List.map PV.str r)) true := by
 apply ok68
 unfold slices_Clone_string_string_n at h
 refine x_rg (rgn [hE] (⟨[(0,.pv (.nilsl))],[],0⟩)) ?_
 refine x_seq ?_
 refine x_rg (rgn [hE,hE] (⟨[(0,.pv (.nilsl)),(4,pB true)],[],0⟩)) ?_
 refine x_cond true rfl (fun _ => ?_) (fun hc => nomatch hc)
 refine x_rg (rgn [hE] (⟨[(2,.pv (.nilsl))],[],0⟩)) ?_
 refine x_toret (x_tr ?_)
 obtain rfl := sj h
 exact ret0 (.nilsl) (.nilUsl _) (fun _ => (usl_ns (sh := none) (fun _ => rfl)))
theorem c68_e {r : (List Str)} (h : slices_Clone_string_string_e = some r) : CallOK Tryd.prog 68 [.esl none] (.usl none (List.map PV.str r)) true := by
 apply ok68
 unfold slices_Clone_string_string_e at h
 refine x_rg (rgn [hE] (⟨[(0,.pv (.esl none))],[],0⟩)) ?_
 refine x_seq ?_
 refine x_rg (rgn [hE,hE] (⟨[(0,.pv (.esl none)),(4,pB false)],[],0⟩)) ?_
 refine x_cond false rfl (fun hc => nomatch hc) (fun _ => ?_)
 refine x_kk (x_skip (x_tn ?_))
 obtain ⟨x1,hx1,h⟩ := bind_some h
 refine x_rg (rg0 [hE,hE,hN (.app (List.map PV.str x1)),hE] (⟨[(2,oL 0 PV.str x1)],[(0,rL none PV.str x1)],1⟩) (kc (show List.take 0 ([] : List PV) ++ [] = (List.map PV.str x1) from (app_ob hx1 (.rfl _) (.rfl _))) (kc (show List.length (List.map PV.str x1) * 16 ≤ 140737488355328 from (by rw [List.length_map]; exact (appL_ok hx1).2.1)) (kc (show List.length (List.map PV.str x1) ≤ 9223372036854775807 from (by rw [List.length_map]; exact (appL_ok hx1).2.2)) (kc (show 0 ≤ List.length ([] : List PV) from (Nat.le_refl _)) .nil))))) ?_
 refine x_toret ?_
 obtain rfl := sj h
 exact x_ret (.usl none (List.take (List.map PV.str x1).length (List.map PV.str x1))) [0] [(List.map PV.str x1).length ≤ List.length (List.map PV.str x1)] (by kernel_rfl) (.cons (Nat.le_refl _) .nil) (by decide) (.of_eq (by rw [List.take_length])) (fun _ => (usl_ns (sh := none) (fun _ => rfl)))
theorem c68_p {s_ : (List Str)} (hne : s_ ≠ []) {r : (List Str)} (h : slices_Clone_string_string s_ = some r) : CallOK Tryd.prog 68 [.sl none (List.map PV.str s_)] (.usl none (List.map PV.str r)) true := by
 apply ok68
 unfold slices_Clone_string_string at h
 refine x_rg (rgn [hE] (⟨[(0,pL none PV.str s_)],[],0⟩)) ?_
 refine x_seq ?_
 refine x_rg (rg0 [hE,hN .isn] (⟨[(0,pL none PV.str s_),(4,pB false)],[],0⟩) (kc (show List.isEmpty (List.map PV.str s_) = false from (isEmptyF hne)) .nil)) ?_
 refine x_cond false rfl (fun hc => nomatch hc) (fun _ => ?_)
 refine x_kk (x_skip (x_tn ?_))
 obtain ⟨x1,hx1,h⟩ := bind_some h
 refine x_rg (rg0 [hE,hE,hN (.app (List.map PV.str x1)),hE] (⟨[(2,oL 0 PV.str x1)],[(0,rL none PV.str x1)],1⟩) (kc (show List.take 0 ([] : List PV) ++ List.map PV.str s_ = (List.map PV.str x1) from (app_ob hx1 (.rfl _) (.rfl _))) (kc (show List.length (List.map PV.str x1) * 16 ≤ 140737488355328 from (by rw [List.length_map]; exact (appL_ok hx1).2.1)) (kc (show List.length (List.map PV.str x1) ≤ 9223372036854775807 from (by rw [List.length_map]; exact (appL_ok hx1).2.2)) (kc (show 0 ≤ List.length ([] : List PV) from (Nat.le_refl _)) .nil))))) ?_
 refine x_toret ?_
 obtain rfl := sj h
 exact x_ret (.usl none (List.take (List.map PV.str x1).length (List.map PV.str x1))) [0] [(List.map PV.str x1).length ≤ List.length (List.map PV.str x1)] (by kernel_rfl) (.cons (Nat.le_refl _) .nil) (by decide) (.of_eq (by rw [List.take_length])) (fun _ => (usl_ns (sh := none) (fun _ => rfl)))
theorem c68 {s_ : (List Str)} {r : (List Str)} (h : slices_Clone_string_string s_ = some r) : CallOK Tryd.prog 68 [.sl none (List.map PV.str s_)] (.usl none (List.map PV.str r)) true := by
 cases s_ with
 | nil =>
   have e : r = [] := by
     simp [slices_Clone_string_string,appL] at h
     first | exact h | exact h.symm
   subst e
   exact CallOK.nilSplit (c68_n (r := []) rfl) (c68_e (r := []) (by simp [slices_Clone_string_string_e,appL]))
 | cons a l => exact c68_p (by simp) h
theorem c69_n {r : (List api_Wait)} (h : slices_Clone_api_Wait_api_Wait_n = some r) : CallOK Tryd.prog 69 [.nilsl] (.usl (some 2) (List.map zE1 r)) true := by
 apply ok69
 unfold slices_Clone_api_Wait_api_Wait_n at h
 refine x_rg (rgn [hE] (⟨[(0,.pv (.nilsl))],[],0⟩)) ?_
 refine x_seq ?_
 refine x_rg (rgn [hE,hE] (⟨[(0,.pv (.nilsl)),(4,pB true)],[],0⟩)) ?_
 refine x_cond true rfl (fun _ => ?_) (fun hc => nomatch hc)
 refine x_rg (rgn [hE] (⟨[(2,.pv (.nilsl))],[],0⟩)) ?_
 refine x_toret (x_tr ?_)
 obtain rfl := sj h
 exact ret0 (.nilsl) (.nilUsl _) (fun _ => (usl_ns (sh := (some 2)) (fun _ => rfl)))
theorem c69_e {r : (List api_Wait)} (h : slices_Clone_api_Wait_api_Wait_e = some r) : CallOK Tryd.prog 69 [.esl (some 2)] (.usl (some 2) (List.map zE1 r)) true := by
 apply ok69
 unfold slices_Clone_api_Wait_api_Wait_e at h
 refine x_rg (rgn [hE] (⟨[(0,.pv (.esl (some 2)))],[],0⟩)) ?_
 refine x_seq ?_
 refine x_rg (rgn [hE,hE] (⟨[(0,.pv (.esl (some 2))),(4,pB false)],[],0⟩)) ?_
 refine x_cond false rfl (fun hc => nomatch hc) (fun _ => ?_)
 refine x_kk (x_skip (x_tn ?_))
 obtain ⟨x1,hx1,h⟩ := bind_some h
 refine x_rg (rg0 [hE,hE,hN (.app (List.map zE1 x1)),hE] (⟨[(2,oL 0 zE1 x1)],[(0,rL (some 2) zE1 x1)],1⟩) (kc (show List.take 0 ([] : List PV) ++ [] = (List.map zE1 x1) from (app_ob hx1 (.rfl _) (.rfl _))) (kc (show List.length (List.map zE1 x1) * 24 ≤ 140737488355328 from (by rw [List.length_map]; exact (appL_ok hx1).2.1)) (kc (show List.length (List.map zE1 x1) ≤ 9223372036854775807 from (by rw [List.length_map]; exact (appL_ok hx1).2.2)) (kc (show 0 ≤ List.length ([] : List PV) from (Nat.le_refl _)) .nil))))) ?_
 refine x_toret ?_
 obtain rfl := sj h
 exact x_ret (.usl (some 2) (List.take (List.map zE1 x1).length (List.map zE1 x1))) [0] [(List.map zE1 x1).length ≤ List.length (List.map zE1 x1)] (by kernel_rfl) (.cons (Nat.le_refl _) .nil) (by decide) (.of_eq (by rw [List.take_length])) (fun _ => (usl_ns (sh := (some 2)) (fun _ => rfl)))
theorem c69_p {s_ : (List api_Wait)} (hne : s_ ≠ []) {r : (List api_Wait)} (h : slices_Clone_api_Wait_api_Wait s_ = some r) : CallOK Tryd.prog 69 [.sl (some 2) (List.map zE1 s_)] (.usl (some 2) (List.map zE1 r)) true := by
 apply ok69
 unfold slices_Clone_api_Wait_api_Wait at h
 refine x_rg (rgn [hE] (⟨[(0,pL (some 2) zE1 s_)],[],0⟩)) ?_
 refine x_seq ?_
 refine x_rg (rg0 [hE,hN .isn] (⟨[(0,pL (some 2) zE1 s_),(4,pB false)],[],0⟩) (kc (show List.isEmpty (List.map zE1 s_) = false from (isEmptyF hne)) .nil)) ?_
 refine x_cond false rfl (fun hc => nomatch hc) (fun _ => ?_)
 refine x_kk (x_skip (x_tn ?_))
 obtain ⟨x1,hx1,h⟩ := bind_some h
 refine x_rg (rg0 [hE,hE,hN (.app (List.map zE1 x1)),hE] (⟨[(2,oL 0 zE1 x1)],[(0,rL (some 2) zE1 x1)],1⟩) (kc (show List.take 0 ([] : List PV) ++ List.map zE1 s_ = (List.map zE1 x1) from (app_ob hx1 (.rfl _) (.rfl _))) (kc (show List.length (List.map zE1 x1) * 24 ≤ 140737488355328 from (by rw [List.length_map]; exact (appL_ok hx1).2.1)) (kc (show List.length (List.map zE1 x1) ≤ 9223372036854775807 from (by rw [List.length_map]; exact (appL_ok hx1).2.2)) (kc (show 0 ≤ List.length ([] : List PV) from (Nat.le_refl _)) .nil))))) ?_
 refine x_toret ?_
 obtain rfl := sj h
 exact x_ret (.usl (some 2) (List.take (List.map zE1 x1).length (List.map zE1 x1))) [0] [(List.map zE1 x1).length ≤ List.length (List.map zE1 x1)] (by kernel_rfl) (.cons (Nat.le_refl _) .nil) (by decide) (.of_eq (by rw [List.take_length])) (fun _ => (usl_ns (sh := (some 2)) (fun _ => rfl)))
theorem c69 {s_ : (List api_Wait)} {r : (List api_Wait)} (h : slices_Clone_api_Wait_api_Wait s_ = some r) : CallOK Tryd.prog 69 [.sl (some 2) (List.map zE1 s_)] (.usl (some 2) (List.map zE1 r)) true := by
 cases s_ with
 | nil =>
   have e : r = [] := by
     simp [slices_Clone_api_Wait_api_Wait,appL] at h
     first | exact h | exact h.symm
   subst e
   exact CallOK.nilSplit (c69_n (r := []) rfl) (c69_e (r := []) (by simp [slices_Clone_api_Wait_api_Wait_e,appL]))
 | cons a l => exact c69_p (by simp) h
theorem c76 {x_ : api_Proc} {r : api_Proc} (h : proc_clone x_ = some r) : CallOK Tryd.prog 76 [zE2 x_] (gA3 r) true := by
 apply ok76
 unfold proc_clone at h
 refine x_rg (rgn [hE,hE] (⟨[oP 1 0,oP 2 1],[rP 0 13 (zE2 x_),rP 1 13 gA4],2⟩)) ?_
 obtain ⟨x1,hx1,h⟩ := bind_some h
 refine x_rg (rg0 [hE,hE,hN (.cal [] (.usl none (List.map PV.str x1)) true),hE,hE] (⟨[oP 1 0,oP 2 2],[rH 0 13 (.agg [pI x_.Id,pI x_.Parent,pI x_.State,pS x_.User,pS x_.Name,pI x_.Ns,pI x_.Env,pI x_.Fds,pS x_.Cwd,oL 1 PV.str x1,pS x_.Status,pL (some 2) zE1 x_.Waits,pB x_.Alone]),(1,rL none PV.str x1),rP 2 13 gA4],3⟩) (kc (c68 hx1) .nil)) ?_
 obtain ⟨x2,hx2,h⟩ := bind_some h
 refine x_rg (rg0 [hE,hE,hN (.cal [] (.usl (some 2) (List.map zE1 x2)) true),hE,hE] (⟨[oP 1 0,oP 2 3],[rH 0 13 (.agg [pI x_.Id,pI x_.Parent,pI x_.State,pS x_.User,pS x_.Name,pI x_.Ns,pI x_.Env,pI x_.Fds,pS x_.Cwd,oL 1 PV.str x1,pS x_.Status,oL 2 zE1 x2,pB x_.Alone]),(1,rL none PV.str x1),(2,rL (some 2) zE1 x2),rP 3 13 gA4],4⟩) (kc (c69 hx2) .nil)) ?_
 refine x_rg (rgn [hE,hE] (⟨[oP 2 0],[rH 0 13 (.agg [pI x_.Id,pI x_.Parent,pI x_.State,pS x_.User,pS x_.Name,pI x_.Ns,pI x_.Env,pI x_.Fds,pS x_.Cwd,oL 1 PV.str x1,pS x_.Status,oL 2 zE1 x2,pB x_.Alone]),(1,rL none PV.str x1),(2,rL (some 2) zE1 x2)],3⟩)) ?_
 refine x_toret ?_
 obtain rfl := sj h
 exact x_ret (.agg [.int .i64 x_.Id,.int .i64 x_.Parent,.int .i64 x_.State,.str x_.User,.str x_.Name,.int .i64 x_.Ns,.int .i64 x_.Env,.int .i64 x_.Fds,.str x_.Cwd,.usl none (List.take (List.map PV.str x1).length (List.map PV.str x1)),.str x_.Status,.usl (some 2) (List.take (List.map zE1 x2).length (List.map zE1 x2)),.bool x_.Alone]) [1,2] [(List.map PV.str x1).length ≤ List.length (List.map PV.str x1),(List.map zE1 x2).length ≤ List.length (List.map zE1 x2)] (by kernel_rfl) (.cons (Nat.le_refl _) (.cons (Nat.le_refl _) .nil)) (by decide) (.agg (.cons (.refl _) (.cons (.refl _) (.cons (.refl _) (.cons (.refl _) (.cons (.refl _) (.cons (.refl _) (.cons (.refl _) (.cons (.refl _) (.cons (.refl _) (.cons (.of_eq (by rw [List.take_length])) (.cons (.refl _) (.cons (.of_eq (by rw [List.take_length])) (.cons (.refl _) .nil)))))))))))))) (fun _ => (agg_ns (.cons rfl (.cons rfl (.cons rfl (.cons rfl (.cons rfl (.cons rfl (.cons rfl (.cons rfl (.cons rfl (.cons (usl_nsU (sh := none) (fun _ => rfl)) (.cons rfl (.cons (usl_nsU (sh := (some 2)) (fun _ => rfl)) (.cons rfl .nil)))))))))))))))
theorem c55 {p : api_Procs} {id : Int} {r : (api_Proc × Bool)} (h : proc_Find p id = some r) : CallOK Tryd.prog 55 [zE3 p,.int .i64 id] (.tup [(gA3 r.1),.bool r.2]) true := by
 apply ok55
 unfold proc_Find at h
 refine x_rg (rgn [hE,hE,hE] (⟨[(1,pI id),oP 2 0,oP 4 1],[rP 0 3 (zE3 p),rP 1 13 gA4],2⟩)) ?_
 obtain ⟨x1,hx1,h⟩ := bind_some h
 refine x_rg (rg0 [hE,hE,hN (.cal [] (.int .i64 x1) true),hE] (⟨[oP 2 0,oP 4 1,(6,pI x1)],[rP 0 3 (zE3 p),rP 1 13 gA4],2⟩) (kc (c71 hx1) .nil)) ?_
 refine x_seq ?_
 refine x_rg (rgn [hE,hE] (⟨[oP 2 0,oP 4 1,(6,pI x1),(11,pB (decide (x1 < 0)))],[rP 0 3 (zE3 p),rP 1 13 gA4],2⟩)) ?_
 refine x_if h rfl (fun hc2 h => ?_) (fun hc2 h => ?_)
 ·refine x_rg (rgn [hE,hE,hE] (⟨[oP 4 0,(5,pB false)],[rP 0 13 gA4],1⟩)) ?_
  refine x_toret (x_tr ?_)
  obtain rfl := sj h
  exact ret0 (.tup [gA4,.bool false]) (.tup (.cons (.refl _) (.cons (.refl _) .nil))) (fun _ => tup_ns (.cons (agg_ns (.cons rfl (.cons rfl (.cons rfl (.cons rfl (.cons rfl (.cons rfl (.cons rfl (.cons rfl (.cons rfl (.cons (usl_nsU (sh := none) (fun _ => rfl)) (.cons rfl (.cons (usl_nsU (sh := (some 2)) (fun _ => rfl)) (.cons rfl .nil)))))))))))))) (.cons rfl .nil)))
 refine x_kk (x_skip (x_tn ?_))
 obtain ⟨x3,hx3,h⟩ := bind_some h
 obtain ⟨x4,hx4,h⟩ := bind_some h
 refine x_rg (rg0 [hE,hE,hE,hN (.pAt (zE2 x3)),hE,hN (.cal [] (gA3 x4) true),hE,hE] (⟨[oP 4 0,(5,pB true)],[rH 0 13 (gA5 x4 1 2),(1,rL none PV.str x4.Notes),(2,rL (some 2) zE1 x4.Waits)],3⟩) (kc (lsAt_map (f := zE2) hx3) (kc (c76 hx4) .nil))) ?_
 refine x_toret ?_
 obtain rfl := sj h
 exact x_ret (.tup [(gA6 x4),.bool true]) [1,2] [(List.map PV.str x4.Notes).length ≤ List.length (List.map PV.str x4.Notes),(List.map zE1 x4.Waits).length ≤ List.length (List.map zE1 x4.Waits)] (by kernel_rfl) (.cons (Nat.le_refl _) (.cons (Nat.le_refl _) .nil)) (by decide) (.tup (.cons (.agg (.cons (.refl _) (.cons (.refl _) (.cons (.refl _) (.cons (.refl _) (.cons (.refl _) (.cons (.refl _) (.cons (.refl _) (.cons (.refl _) (.cons (.refl _) (.cons (.of_eq (by rw [List.take_length])) (.cons (.refl _) (.cons (.of_eq (by rw [List.take_length])) (.cons (.refl _) .nil)))))))))))))) (.cons (.refl _) .nil))) (fun _ => tup_ns (.cons (agg_ns (.cons rfl (.cons rfl (.cons rfl (.cons rfl (.cons rfl (.cons rfl (.cons rfl (.cons rfl (.cons rfl (.cons (usl_nsU (sh := none) (fun _ => rfl)) (.cons rfl (.cons (usl_nsU (sh := (some 2)) (fun _ => rfl)) (.cons rfl .nil)))))))))))))) (.cons rfl .nil)))
theorem c67_n {r : (List api_Proc)} (h : slices_Clone_api_Proc_api_Proc_n = some r) : CallOK Tryd.prog 67 [.nilsl] (.usl (some 13) (List.map zE2 r)) false := by
 apply ok67
 unfold slices_Clone_api_Proc_api_Proc_n at h
 refine x_rg (rgn [hE] (⟨[(0,.pv (.nilsl))],[],0⟩)) ?_
 refine x_seq ?_
 refine x_rg (rgn [hE,hE] (⟨[(0,.pv (.nilsl)),(4,pB true)],[],0⟩)) ?_
 refine x_cond true rfl (fun _ => ?_) (fun hc => nomatch hc)
 refine x_rg (rgn [hE] (⟨[(2,.pv (.nilsl))],[],0⟩)) ?_
 refine x_toret (x_tr ?_)
 obtain rfl := sj h
 exact ret0 (.nilsl) (.nilUsl _) (fun h => nomatch h)
theorem c67_e {r : (List api_Proc)} (h : slices_Clone_api_Proc_api_Proc_e = some r) : CallOK Tryd.prog 67 [.esl (some 13)] (.usl (some 13) (List.map zE2 r)) false := by
 apply ok67
 unfold slices_Clone_api_Proc_api_Proc_e at h
 refine x_rg (rgn [hE] (⟨[(0,.pv (.esl (some 13)))],[],0⟩)) ?_
 refine x_seq ?_
 refine x_rg (rgn [hE,hE] (⟨[(0,.pv (.esl (some 13))),(4,pB false)],[],0⟩)) ?_
 refine x_cond false rfl (fun hc => nomatch hc) (fun _ => ?_)
 refine x_kk (x_skip (x_tn ?_))
 obtain ⟨x1,hx1,h⟩ := bind_some h
 refine x_rg (rg0 [hE,hE,hN (.app (List.map zE2 x1)),hE] (⟨[(2,oL 0 zE2 x1)],[(0,rL (some 13) zE2 x1)],1⟩) (kc (show List.take 0 ([] : List PV) ++ [] = (List.map zE2 x1) from (app_ob hx1 (.rfl _) (.rfl _))) (kc (show List.length (List.map zE2 x1) * 168 ≤ 140737488355328 from (by rw [List.length_map]; exact (appL_ok hx1).2.1)) (kc (show List.length (List.map zE2 x1) ≤ 9223372036854775807 from (by rw [List.length_map]; exact (appL_ok hx1).2.2)) (kc (show 0 ≤ List.length ([] : List PV) from (Nat.le_refl _)) .nil))))) ?_
 refine x_toret ?_
 obtain rfl := sj h
 exact x_ret (.usl (some 13) (List.take (List.map zE2 x1).length (List.map zE2 x1))) [0] [(List.map zE2 x1).length ≤ List.length (List.map zE2 x1)] (by kernel_rfl) (.cons (Nat.le_refl _) .nil) (by decide) (.of_eq (by rw [List.take_length])) (fun h => nomatch h)
theorem c67_p {s_ : (List api_Proc)} (hne : s_ ≠ []) {r : (List api_Proc)} (h : slices_Clone_api_Proc_api_Proc s_ = some r) : CallOK Tryd.prog 67 [.sl (some 13) (List.map zE2 s_)] (.usl (some 13) (List.map zE2 r)) false := by
 apply ok67
 unfold slices_Clone_api_Proc_api_Proc at h
 refine x_rg (rgn [hE] (⟨[(0,pL (some 13) zE2 s_)],[],0⟩)) ?_
 refine x_seq ?_
 refine x_rg (rg0 [hE,hN .isn] (⟨[(0,pL (some 13) zE2 s_),(4,pB false)],[],0⟩) (kc (show List.isEmpty (List.map zE2 s_) = false from (isEmptyF hne)) .nil)) ?_
 refine x_cond false rfl (fun hc => nomatch hc) (fun _ => ?_)
 refine x_kk (x_skip (x_tn ?_))
 obtain ⟨x1,hx1,h⟩ := bind_some h
 refine x_rg (rg0 [hE,hE,hN (.app (List.map zE2 x1)),hE] (⟨[(2,oL 0 zE2 x1)],[(0,rL (some 13) zE2 x1)],1⟩) (kc (show List.take 0 ([] : List PV) ++ List.map zE2 s_ = (List.map zE2 x1) from (app_ob hx1 (.rfl _) (.rfl _))) (kc (show List.length (List.map zE2 x1) * 168 ≤ 140737488355328 from (by rw [List.length_map]; exact (appL_ok hx1).2.1)) (kc (show List.length (List.map zE2 x1) ≤ 9223372036854775807 from (by rw [List.length_map]; exact (appL_ok hx1).2.2)) (kc (show 0 ≤ List.length ([] : List PV) from (Nat.le_refl _)) .nil))))) ?_
 refine x_toret ?_
 obtain rfl := sj h
 exact x_ret (.usl (some 13) (List.take (List.map zE2 x1).length (List.map zE2 x1))) [0] [(List.map zE2 x1).length ≤ List.length (List.map zE2 x1)] (by kernel_rfl) (.cons (Nat.le_refl _) .nil) (by decide) (.of_eq (by rw [List.take_length])) (fun h => nomatch h)
theorem c67 {s_ : (List api_Proc)} {r : (List api_Proc)} (h : slices_Clone_api_Proc_api_Proc s_ = some r) : CallOK Tryd.prog 67 [.sl (some 13) (List.map zE2 s_)] (.usl (some 13) (List.map zE2 r)) false := by
 cases s_ with
 | nil =>
   have e : r = [] := by
     simp [slices_Clone_api_Proc_api_Proc,appL] at h
     first | exact h | exact h.symm
   subst e
   exact CallOK.nilSplit (c67_n (r := []) rfl) (c67_e (r := []) (by simp [slices_Clone_api_Proc_api_Proc_e,appL]))
 | cons a l => exact c67_p (by simp) h
theorem c46 {p : api_Procs} {r : api_Procs} (h : procfs_copied p = some r) : CallOK Tryd.prog 46 [zE3 p] (gA1 r) false := by
 apply ok46
 unfold procfs_copied at h
 refine x_rg (rgn [hE,hE] (⟨[oP 1 0,oP 2 1],[rP 0 3 (zE3 p),rP 1 3 gA2],2⟩)) ?_
 refine x_rg (rgn [hE,hE,hE] (⟨[oP 1 0,oP 2 1,oP 3 2],[rP 0 3 (zE3 p),rP 1 3 gA2,rP 2 3 (zE3 p)],3⟩)) ?_
 obtain ⟨x1,hx1,h⟩ := bind_some h
 refine x_rg (rg0 [hE,hE,hN (.cal [] (.usl (some 13) (List.map zE2 x1)) false),hE,hE] (⟨[oP 2 0,oP 3 1],[rP 0 3 gA2,rH 1 3 (.agg [pI p.Next,pI p.Group,oL 2 zE2 x1]),(2,rL (some 13) zE2 x1)],3⟩) (kc (c67 hx1) .nil)) ?_
 refine x_seq ?_
 refine x_rg (rg0 [hE,hE,hN (.len (List.length x1 : Int)),hE] (⟨[oP 2 0,oP 3 1,(12,pI (List.length x1 : Int)),(13,pI 0)],[rP 0 3 gA2,rH 1 3 (.agg [pI p.Next,pI p.Group,oL 2 zE2 x1]),(2,rL (some 13) zE2 x1)],3⟩) (kc (lenM zE2 x1) .nil)) ?_
 refine x_block ?_
 refine kw0 (⟨[oP 2 0,oP 3 1,(12,pI (List.length x1 : Int)),(13,pI 0)],[rP 0 3 gA2,rH 1 3 (.agg [pI p.Next,pI p.Group,oL 2 zE2 x1]),(2,rL (some 13) zE2 x1)],3⟩) ?_
 refine x_loop (σ := (Int × (List api_Proc))) h (fun s => ⟨[oP 2 0,oP 3 1,(12,pI (List.length x1 : Int)),(13,pI s.1)],[rP 0 3 gA2,rH 1 3 (.agg [pI p.Next,pI p.Group,oL 2 zE2 s.2]),(2,rL (some 13) zE2 s.2)],3⟩) (by kernel_rfl) ?_ ?_
 ·rintro ⟨v9,v10⟩
  kernel_rfl
 rintro ⟨v9,v10⟩ x11 h hx11
 replace h : procfs_copied_L11 p x1 v9 v10 = some x11 := h
 unfold procfs_copied_L11 at h
 refine x_rg (rgn [hE] (⟨[oP 2 0,oP 3 1,(12,pI (List.length x1 : Int)),(13,pI v9),(14,pB (decide (v9 < (List.length x1 : Int))))],[rP 0 3 gA2,rH 1 3 (.agg [pI p.Next,pI p.Group,oL 2 zE2 v10]),(2,rL (some 13) zE2 v10)],3⟩)) ?_
 refine x_seq ?_
 refine x_if h rfl (fun hc12 h => ?_) (fun hc12 h => ?_)
 ·refine x_kk (x_skip (x_tn (x_seq (x_block ?_))))
  refine x_rg (rgn [hE,hE] (⟨[oP 2 0,oP 3 1,(4,pI v9),(12,pI (List.length x1 : Int)),(13,pI v9)],[rP 0 3 gA2,rH 1 3 (.agg [pI p.Next,pI p.Group,oL 2 zE2 v10]),(2,rL (some 13) zE2 v10)],3⟩)) ?_
  obtain ⟨x13,hx13,h⟩ := bind_some h
  obtain ⟨x14,hx14,h⟩ := bind_some h
  obtain ⟨x15,hx15,h⟩ := bind_some h
  refine x_rg (st2 := { tm := [oP 2 0,oP 3 1,(4,.pv (.int .i64 v9)),(12,.pv (.int .i64 (List.length x1 : Int))),(13,.pv (.int .i64 v9))],hp := [rP 0 3 gA2,rH 1 3 (.agg [.pv (.int .i64 p.Next),.pv (.int .i64 p.Group),.osl 2 0 (List.map zE2 (List.set v10 (Int.toNat v9) (api_Proc.mk x15.Id x15.Parent x15.State x15.User x15.Name x15.Ns x15.Env x15.Fds x15.Cwd x14 x15.Status x15.Waits x15.Alone))).length]),(2,some (.p (some 13) (List.map zE2 (List.set v10 (Int.toNat v9) (api_Proc.mk x15.Id x15.Parent x15.State x15.User x15.Name x15.Ns x15.Env x15.Fds x15.Cwd x14 x15.Status x15.Waits x15.Alone)))))],nx := 3 }) (rg [hE,hE,hE,hE,hE,hE,hN .rAt,hE,hN (.ld (zE2 x13)),hN (.cal [] (.usl none (List.map PV.str x14)) true),hN .rAt,hE,hN (.put (gA7 x15) (List.map zE2 (List.set v10 (Int.toNat v9) (api_Proc.mk x15.Id x15.Parent x15.State x15.User x15.Name x15.Ns x15.Env x15.Fds x15.Cwd x14 x15.Status x15.Waits x15.Alone))))] ({ tm := [oP 2 0,oP 3 1,(4,.pv (.int .i64 v9)),(12,.pv (.int .i64 (List.length x1 : Int))),(13,.pv (.int .i64 v9))],hp := [rP 0 3 gA2,rH 1 3 (.agg [.pv (.int .i64 p.Next),.pv (.int .i64 p.Group),.osl 2 0 (List.map zE2 v10).length]),(2,some (.p (some 13) (List.map zE2 (List.set v10 (Int.toNat v9) (api_Proc.mk x15.Id x15.Parent x15.State x15.User x15.Name x15.Ns x15.Env x15.Fds x15.Cwd x14 x15.Status x15.Waits x15.Alone)))))],nx := 3 }) (kc (rAtM (f := zE2) hx13) (kc (ownAt (f := zE2) hx13) (kc (c68 hx14) (kc (rAtM (f := zE2) hx15) (kc (ownAt (f := zE2) hx15) (kc (show List.set (List.map zE2 v10) (0 + Int.toNat v9) (.agg [.int .i64 x15.Id,.int .i64 x15.Parent,.int .i64 x15.State,.str x15.User,.str x15.Name,.int .i64 x15.Ns,.int .i64 x15.Env,.int .i64 x15.Fds,.str x15.Cwd,.sl none (List.map PV.str x14),.str x15.Status,.sl (some 2) (List.map zE1 x15.Waits),.bool x15.Alone]) = (List.map zE2 (List.set v10 (Int.toNat v9) (api_Proc.mk x15.Id x15.Parent x15.State x15.User x15.Name x15.Ns x15.Env x15.Fds x15.Cwd x14 x15.Status x15.Waits x15.Alone))) from (by rw [Nat.zero_add,List.map_set]; try rfl)) (kc (show (List.map PV.str x14).length = List.length (List.map PV.str x14) from rfl) .nil))))))) (Sub.of_eq (by simp only [List.length_map,List.length_set]))) ?_
  obtain ⟨x16,hx16,h⟩ := bind_some h
  obtain ⟨x17,hx17,h⟩ := bind_some h
  obtain ⟨x18,hx18,h⟩ := bind_some h
  refine x_rgt (st2 := { tm := [oP 2 0,oP 3 1,(12,.pv (.int .i64 (List.length x1 : Int))),(13,.pv (.int .i64 v9))],hp := [rP 0 3 gA2,rH 1 3 (.agg [.pv (.int .i64 p.Next),.pv (.int .i64 p.Group),.osl 2 0 (List.map zE2 (List.set (List.set v10 (Int.toNat v9) (api_Proc.mk x15.Id x15.Parent x15.State x15.User x15.Name x15.Ns x15.Env x15.Fds x15.Cwd x14 x15.Status x15.Waits x15.Alone)) (Int.toNat v9) (api_Proc.mk x18.Id x18.Parent x18.State x18.User x18.Name x18.Ns x18.Env x18.Fds x18.Cwd x18.Notes x18.Status x17 x18.Alone))).length]),(2,some (.p (some 13) (List.map zE2 (List.set (List.set v10 (Int.toNat v9) (api_Proc.mk x15.Id x15.Parent x15.State x15.User x15.Name x15.Ns x15.Env x15.Fds x15.Cwd x14 x15.Status x15.Waits x15.Alone)) (Int.toNat v9) (api_Proc.mk x18.Id x18.Parent x18.State x18.User x18.Name x18.Ns x18.Env x18.Fds x18.Cwd x18.Notes x18.Status x17 x18.Alone)))))],nx := 3 }) (rg [hE,hE,hE,hE,hE,hE,hN .rAt,hE,hN (.ld (zE2 x16)),hN (.cal [] (.usl (some 2) (List.map zE1 x17)) true),hN .rAt,hE,hN (.put (gA7 x18) (List.map zE2 (List.set (List.set v10 (Int.toNat v9) (api_Proc.mk x15.Id x15.Parent x15.State x15.User x15.Name x15.Ns x15.Env x15.Fds x15.Cwd x14 x15.Status x15.Waits x15.Alone)) (Int.toNat v9) (api_Proc.mk x18.Id x18.Parent x18.State x18.User x18.Name x18.Ns x18.Env x18.Fds x18.Cwd x18.Notes x18.Status x17 x18.Alone))))] ({ tm := [oP 2 0,oP 3 1,(12,.pv (.int .i64 (List.length x1 : Int))),(13,.pv (.int .i64 v9))],hp := [rP 0 3 gA2,rH 1 3 (.agg [.pv (.int .i64 p.Next),.pv (.int .i64 p.Group),.osl 2 0 (List.map zE2 (List.set v10 (Int.toNat v9) (api_Proc.mk x15.Id x15.Parent x15.State x15.User x15.Name x15.Ns x15.Env x15.Fds x15.Cwd x14 x15.Status x15.Waits x15.Alone))).length]),(2,some (.p (some 13) (List.map zE2 (List.set (List.set v10 (Int.toNat v9) (api_Proc.mk x15.Id x15.Parent x15.State x15.User x15.Name x15.Ns x15.Env x15.Fds x15.Cwd x14 x15.Status x15.Waits x15.Alone)) (Int.toNat v9) (api_Proc.mk x18.Id x18.Parent x18.State x18.User x18.Name x18.Ns x18.Env x18.Fds x18.Cwd x18.Notes x18.Status x17 x18.Alone)))))],nx := 3 }) (kc (rAtM (f := zE2) hx16) (kc (ownAt (f := zE2) hx16) (kc (c69 hx17) (kc (rAtM (f := zE2) hx18) (kc (ownAt (f := zE2) hx18) (kc (show List.set (List.map zE2 (List.set v10 (Int.toNat v9) (api_Proc.mk x15.Id x15.Parent x15.State x15.User x15.Name x15.Ns x15.Env x15.Fds x15.Cwd x14 x15.Status x15.Waits x15.Alone))) (0 + Int.toNat v9) (.agg [.int .i64 x18.Id,.int .i64 x18.Parent,.int .i64 x18.State,.str x18.User,.str x18.Name,.int .i64 x18.Ns,.int .i64 x18.Env,.int .i64 x18.Fds,.str x18.Cwd,.sl none (List.map PV.str x18.Notes),.str x18.Status,.sl (some 2) (List.map zE1 x17),.bool x18.Alone]) = (List.map zE2 (List.set (List.set v10 (Int.toNat v9) (api_Proc.mk x15.Id x15.Parent x15.State x15.User x15.Name x15.Ns x15.Env x15.Fds x15.Cwd x14 x15.Status x15.Waits x15.Alone)) (Int.toNat v9) (api_Proc.mk x18.Id x18.Parent x18.State x18.User x18.Name x18.Ns x18.Env x18.Fds x18.Cwd x18.Notes x18.Status x17 x18.Alone))) from (by rw [Nat.zero_add]; simp only [List.map_set]; try rfl)) (kc (show (List.map zE1 x17).length = List.length (List.map zE1 x17) from rfl) .nil))))))) (Sub.of_eq (by simp only [List.length_map,List.length_set]))) ?_
  refine x_bn (x_tn ?_)
  refine x_rgt (rgn [hE,hE] (⟨[oP 2 0,oP 3 1,(12,pI (List.length x1 : Int)),(13,pI (IntKind.wrap .i64 (v9 + 1)))],[rP 0 3 gA2,rH 1 3 (.agg [pI p.Next,pI p.Group,oL 2 zE2 (List.set (List.set v10 (Int.toNat v9) (api_Proc.mk x15.Id x15.Parent x15.State x15.User x15.Name x15.Ns x15.Env x15.Fds x15.Cwd x14 x15.Status x15.Waits x15.Alone)) (Int.toNat v9) (api_Proc.mk x18.Id x18.Parent x18.State x18.User x18.Name x18.Ns x18.Env x18.Fds x18.Cwd x18.Notes x18.Status x17 x18.Alone))]),(2,rL (some 13) zE2 (List.set (List.set v10 (Int.toNat v9) (api_Proc.mk x15.Id x15.Parent x15.State x15.User x15.Name x15.Ns x15.Env x15.Fds x15.Cwd x14 x15.Status x15.Waits x15.Alone)) (Int.toNat v9) (api_Proc.mk x18.Id x18.Parent x18.State x18.User x18.Name x18.Ns x18.Env x18.Fds x18.Cwd x18.Notes x18.Status x17 x18.Alone)))],3⟩)) ?_
  refine x_tn ?_
  exact ⟨_,(sj h).symm,by kernel_rfl⟩
 refine kw0 (⟨[oP 2 0,oP 3 1],[rP 0 3 gA2,rH 1 3 (.agg [pI p.Next,pI p.Group,oL 2 zE2 v10]),(2,rL (some 13) zE2 v10)],3⟩) ?_
 refine x_exit ?_
 refine x_te (x_te ?_)
 replace h := done_leaf h hx11
 refine x_bh ?_
 refine x_tn ?_
 refine x_rg (rgn [hE,hE] (⟨[oP 2 0],[rH 0 3 (.agg [pI p.Next,pI p.Group,oL 1 zE2 v10]),(1,rL (some 13) zE2 v10)],2⟩)) ?_
 refine x_toret ?_
 obtain rfl := sj h
 exact x_ret (.agg [.int .i64 p.Next,.int .i64 p.Group,.usl (some 13) (List.take (List.map zE2 v10).length (List.map zE2 v10))]) [1] [(List.map zE2 v10).length ≤ List.length (List.map zE2 v10)] (by kernel_rfl) (.cons (Nat.le_refl _) .nil) (by decide) (.agg (.cons (.refl _) (.cons (.refl _) (.cons (.of_eq (by rw [List.take_length])) .nil)))) (fun h => nomatch h)
theorem c56 {s_ : Str} {r : (List Str)} (h : num_Fields s_ = some r) : CallOK Tryd.prog 56 [.str s_] (.usl none (List.map PV.str r)) true := by
 apply ok56
 unfold num_Fields at h
 refine x_rg (rgn [hE] (⟨[(0,pS s_)],[],0⟩)) ?_
 refine x_rg (st2 := { tm := [(0,.pv (.str s_)),(3,.osl 0 0 (List.map PV.str ([] : List Str)).length)],hp := [(0,some (.p none (List.map PV.str ([] : List Str))))],nx := 1 }) (rg [hE] ({ tm := [(0,.pv (.str s_)),(3,.pv (.nilsl))],hp := [],nx := 0 }) .nil ((Sub.keep (ks := [0,3]) (st := ownSt 3 none ({ tm := [(0,.pv (.str s_)),(3,.pv (.nilsl))],hp := [],nx := 0 })) (st' := { tm := [(0,.pv (.str s_)),(3,.osl 0 0 (List.map PV.str ([] : List Str)).length)],hp := [(0,some (.p none (List.map PV.str ([] : List Str))))],nx := 1 }) (by kernel_rfl)).trans (own_sound 3 none ({ tm := [(0,.pv (.str s_)),(3,.pv (.nilsl))],hp := [],nx := 0 })))) ?_
 refine x_rg (rgn [hE] (⟨[(0,pS s_),(3,oL 0 PV.str ([] : List Str)),(4,pI (-1))],[(0,rL none PV.str ([] : List Str))],1⟩)) ?_
 refine x_seq ?_
 refine x_rg (rgn [hE,hE,hE] (⟨[(0,pS s_),(3,oL 0 PV.str ([] : List Str)),(4,pI (-1)),(7,pI (List.length s_ : Int)),(8,pI 0)],[(0,rL none PV.str ([] : List Str))],1⟩)) ?_
 refine x_block ?_
 refine kw0 (⟨[(0,pS s_),(3,oL 0 PV.str ([] : List Str)),(4,pI (-1)),(7,pI (List.length s_ : Int)),(8,pI 0)],[(0,rL none PV.str ([] : List Str))],1⟩) ?_
 refine x_loop (σ := (Int × Int × (List Str))) h (fun s => ⟨[(0,pS s_),(3,oL 0 PV.str s.2.2),(4,pI s.1),(7,pI (List.length s_ : Int)),(8,pI s.2.1)],[(0,rL none PV.str s.2.2)],1⟩) (by kernel_rfl) ?_ ?_
 ·rintro ⟨from_,v24,out⟩
  kernel_rfl
 rintro ⟨from_,v24,out⟩ x26 h hx26
 replace h : num_Fields_L26 s_ from_ v24 out = some x26 := h
 unfold num_Fields_L26 at h
 refine x_rg (rgn [hE] (⟨[(0,pS s_),(3,oL 0 PV.str out),(4,pI from_),(7,pI (List.length s_ : Int)),(8,pI v24),(9,pB (decide (v24 < (List.length s_ : Int))))],[(0,rL none PV.str out)],1⟩)) ?_
 refine x_seq ?_
 refine x_if h rfl (fun hc27 h => ?_) (fun hc27 h => ?_)
 ·refine x_kk (x_skip (x_tn (x_seq (x_block ?_))))
  refine x_rg (rgn [hE,hE] (⟨[(0,pS s_),(3,oL 0 PV.str out),(4,pI from_),(5,pI v24),(7,pI (List.length s_ : Int)),(8,pI v24)],[(0,rL none PV.str out)],1⟩)) ?_
  obtain ⟨c28,hc28,h⟩ := bind_some h
  refine x_rg (rg0 [hE,hE,hN (.sAt c28)] (⟨[(0,pS s_),(3,oL 0 PV.str out),(4,pI from_),(5,pI v24),(7,pI (List.length s_ : Int)),(8,pI v24),(13,.pv (.int .u8 (c28.toNat : Int)))],[(0,rL none PV.str out)],1⟩) (kc hc28 .nil)) ?_
  refine x_block ?_
  refine x_join (τ := Bool) (fun t => num_Fields_K29 s_ from_ v24 out t = some x26) (fun t => { tm := [(0,.pv (.str s_)),(3,.osl 0 0 (List.map PV.str out).length),(4,.pv (.int .i64 from_)),(5,.pv (.int .i64 v24)),(7,.pv (.int .i64 (List.length s_ : Int))),(8,.pv (.int .i64 v24)),(17,.pv (.bool t))],hp := [(0,some (.p none (List.map PV.str out)))],nx := 1 }) ?_ ?_
  ·rintro p30 h
   replace h : num_Fields_K29 s_ from_ v24 out p30 = some x26 := h
   unfold num_Fields_K29 at h
   refine x_if h rfl (fun hc31 h => ?_) (fun hc31 h => ?_)
   ·refine x_seq ?_
    refine x_rg (rgn [hE,hE] (⟨[(0,pS s_),(3,oL 0 PV.str out),(4,pI from_),(5,pI v24),(7,pI (List.length s_ : Int)),(8,pI v24),(23,pB (decide (0 ≤ from_)))],[(0,rL none PV.str out)],1⟩)) ?_
    refine x_if h rfl (fun hc32 h => ?_) (fun hc32 h => ?_)
    ·obtain ⟨x33,hx33,h⟩ := bind_some h
     obtain ⟨x34,hx34,h⟩ := bind_some h
     refine x_rgt (rg0 [hE,hE,hE,hE,hN (.cutS x33),hE,hN (.app (List.map PV.str x34)),hE] (⟨[(0,pS s_),(3,oL 0 PV.str x34),(7,pI (List.length s_ : Int)),(8,pI v24)],[(0,rL none PV.str x34)],1⟩) (kc hx33 (kc (show List.take (List.map PV.str out).length (List.map PV.str out) ++ List.take 1 (List.drop 0 ([.str x33] : List PV)) = (List.map PV.str x34) from (app_ob hx34 (.all _) (.rfl _))) (kc (show List.length (List.map PV.str x34) * 16 ≤ 140737488355328 from (by rw [List.length_map]; exact (appL_ok hx34).2.1)) (kc (show List.length (List.map PV.str x34) ≤ 9223372036854775807 from (by rw [List.length_map]; exact (appL_ok hx34).2.2)) (kc (le1 (List.map PV.str out)) (kc (show 0 + 1 ≤ List.length ([.str x33] : List PV) from (by simp)) .nil))))))) ?_
     refine x_tn ?_
     refine x_rgt (rgn [hE] (⟨[(0,pS s_),(3,oL 0 PV.str x34),(4,pI (-1)),(7,pI (List.length s_ : Int)),(8,pI v24)],[(0,rL none PV.str x34)],1⟩)) ?_
     refine x_bn (x_bn (x_tn ?_))
     refine x_rgt (rgn [hE,hE] (⟨[(0,pS s_),(3,oL 0 PV.str x34),(4,pI (-1)),(7,pI (List.length s_ : Int)),(8,pI (IntKind.wrap .i64 (v24 + 1)))],[(0,rL none PV.str x34)],1⟩)) ?_
     refine x_tn ?_
     exact ⟨_,(sj h).symm,by kernel_rfl⟩
    refine x_kk (x_skip (x_tn ?_))
    refine x_rgt (rgn [hE] (⟨[(0,pS s_),(3,oL 0 PV.str out),(4,pI (-1)),(7,pI (List.length s_ : Int)),(8,pI v24)],[(0,rL none PV.str out)],1⟩)) ?_
    refine x_bn (x_bn (x_tn ?_))
    refine x_rgt (rgn [hE,hE] (⟨[(0,pS s_),(3,oL 0 PV.str out),(4,pI (-1)),(7,pI (List.length s_ : Int)),(8,pI (IntKind.wrap .i64 (v24 + 1)))],[(0,rL none PV.str out)],1⟩)) ?_
    refine x_tn ?_
    exact ⟨_,(sj h).symm,by kernel_rfl⟩
   refine x_rg (rgn [hE,hE] (⟨[(0,pS s_),(3,oL 0 PV.str out),(4,pI from_),(5,pI v24),(7,pI (List.length s_ : Int)),(8,pI v24),(15,pB (decide (from_ < 0)))],[(0,rL none PV.str out)],1⟩)) ?_
   refine x_if h rfl (fun hc35 h => ?_) (fun hc35 h => ?_)
   ·refine x_rgt (rgn [hE,hE] (⟨[(0,pS s_),(3,oL 0 PV.str out),(4,pI v24),(7,pI (List.length s_ : Int)),(8,pI v24)],[(0,rL none PV.str out)],1⟩)) ?_
    refine x_bn (x_bn (x_tn ?_))
    refine x_rgt (rgn [hE,hE] (⟨[(0,pS s_),(3,oL 0 PV.str out),(4,pI v24),(7,pI (List.length s_ : Int)),(8,pI (IntKind.wrap .i64 (v24 + 1)))],[(0,rL none PV.str out)],1⟩)) ?_
    refine x_tn ?_
    exact ⟨_,(sj h).symm,by kernel_rfl⟩
   refine x_kk (x_skip (x_bn (x_bn (x_tn ?_))))
   refine x_rgt (rgn [hE,hE] (⟨[(0,pS s_),(3,oL 0 PV.str out),(4,pI from_),(7,pI (List.length s_ : Int)),(8,pI (IntKind.wrap .i64 (v24 + 1)))],[(0,rL none PV.str out)],1⟩)) ?_
   refine x_tn ?_
   exact ⟨_,(sj h).symm,by kernel_rfl⟩
  refine x_rg (rgn [hE,hE] (⟨[(0,pS s_),(3,oL 0 PV.str out),(4,pI from_),(5,pI v24),(7,pI (List.length s_ : Int)),(8,pI v24),(13,.pv (.int .u8 (c28.toNat : Int))),(17,pB (decide ((c28.toNat : Int) = 32)))],[(0,rL none PV.str out)],1⟩)) ?_
  refine x_if h rfl (fun hc36 h => ?_) (fun hc36 h => ?_)
  ·refine kw0 (⟨[(0,pS s_),(3,oL 0 PV.str out),(4,pI from_),(5,pI v24),(7,pI (List.length s_ : Int)),(8,pI v24),(17,pB (decide ((c28.toNat : Int) = 32)))],[(0,rL none PV.str out)],1⟩) ?_
   refine x_skip (x_tn ?_)
   exact ⟨(decide ((c28.toNat : Int) = 32)),h,by kernel_rfl⟩
  refine x_rg (rgn [hE,hE] (⟨[(0,pS s_),(3,oL 0 PV.str out),(4,pI from_),(5,pI v24),(7,pI (List.length s_ : Int)),(8,pI v24),(13,.pv (.int .u8 (c28.toNat : Int))),(17,pB (decide ((c28.toNat : Int) = 9)))],[(0,rL none PV.str out)],1⟩)) ?_
  refine x_if h rfl (fun hc37 h => ?_) (fun hc37 h => ?_)
  ·refine kw0 (⟨[(0,pS s_),(3,oL 0 PV.str out),(4,pI from_),(5,pI v24),(7,pI (List.length s_ : Int)),(8,pI v24),(17,pB (decide ((c28.toNat : Int) = 9)))],[(0,rL none PV.str out)],1⟩) ?_
   refine x_skip (x_tn ?_)
   exact ⟨(decide ((c28.toNat : Int) = 9)),h,by kernel_rfl⟩
  refine x_rg (rgn [hE,hE] (⟨[(0,pS s_),(3,oL 0 PV.str out),(4,pI from_),(5,pI v24),(7,pI (List.length s_ : Int)),(8,pI v24),(13,.pv (.int .u8 (c28.toNat : Int))),(17,pB (decide ((c28.toNat : Int) = 10)))],[(0,rL none PV.str out)],1⟩)) ?_
  refine x_if h rfl (fun hc38 h => ?_) (fun hc38 h => ?_)
  ·refine kw0 (⟨[(0,pS s_),(3,oL 0 PV.str out),(4,pI from_),(5,pI v24),(7,pI (List.length s_ : Int)),(8,pI v24),(17,pB (decide ((c28.toNat : Int) = 10)))],[(0,rL none PV.str out)],1⟩) ?_
   refine x_skip (x_tn ?_)
   exact ⟨(decide ((c28.toNat : Int) = 10)),h,by kernel_rfl⟩
  refine x_rgt (rgn [hE,hE] (⟨[(0,pS s_),(3,oL 0 PV.str out),(4,pI from_),(5,pI v24),(7,pI (List.length s_ : Int)),(8,pI v24),(17,pB (decide ((c28.toNat : Int) = 13)))],[(0,rL none PV.str out)],1⟩)) ?_
  refine x_tn ?_
  exact ⟨(decide ((c28.toNat : Int) = 13)),h,by kernel_rfl⟩
 refine kw0 (⟨[(0,pS s_),(3,oL 0 PV.str out),(4,pI from_)],[(0,rL none PV.str out)],1⟩) ?_
 refine x_exit ?_
 refine x_te (x_te ?_)
 replace h := done_map h hx26
 unfold num_Fields_A42 at h
 refine x_bh ?_
 refine x_tn (x_seq ?_)
 refine x_rg (rgn [hE,hE] (⟨[(0,pS s_),(3,oL 0 PV.str out),(4,pI from_),(33,pB (decide (0 ≤ from_)))],[(0,rL none PV.str out)],1⟩)) ?_
 refine x_if h rfl (fun hc39 h => ?_) (fun hc39 h => ?_)
 ·obtain ⟨x40,hx40,h⟩ := bind_some h
  obtain ⟨x41,hx41,h⟩ := bind_some h
  refine x_rgt (rg0 [hE,hE,hE,hN (.cutS x40),hE,hN (.app (List.map PV.str x41)),hE] (⟨[(3,oL 0 PV.str x41)],[(0,rL none PV.str x41)],1⟩) (kc hx40 (kc (show List.take (List.map PV.str out).length (List.map PV.str out) ++ List.take 1 (List.drop 0 ([.str x40] : List PV)) = (List.map PV.str x41) from (app_ob hx41 (.all _) (.rfl _))) (kc (show List.length (List.map PV.str x41) * 16 ≤ 140737488355328 from (by rw [List.length_map]; exact (appL_ok hx41).2.1)) (kc (show List.length (List.map PV.str x41) ≤ 9223372036854775807 from (by rw [List.length_map]; exact (appL_ok hx41).2.2)) (kc (le1 (List.map PV.str out)) (kc (show 0 + 1 ≤ List.length ([.str x40] : List PV) from (by simp)) .nil))))))) ?_
  refine x_tn ?_
  refine x_rg (rgn [hE,hE] (⟨[(2,oL 0 PV.str x41)],[(0,rL none PV.str x41)],1⟩)) ?_
  refine x_toret ?_
  obtain rfl := sj h
  exact x_ret (.usl none (List.take (List.map PV.str x41).length (List.map PV.str x41))) [0] [(List.map PV.str x41).length ≤ List.length (List.map PV.str x41)] (by kernel_rfl) (.cons (Nat.le_refl _) .nil) (by decide) (.of_eq (by rw [List.take_length])) (fun _ => (usl_ns (sh := none) (fun _ => rfl)))
 refine x_kk (x_skip (x_tn ?_))
 refine x_rg (rgn [hE,hE] (⟨[(2,oL 0 PV.str out)],[(0,rL none PV.str out)],1⟩)) ?_
 refine x_toret ?_
 obtain rfl := sj h
 exact x_ret (.usl none (List.take (List.map PV.str out).length (List.map PV.str out))) [0] [(List.map PV.str out).length ≤ List.length (List.map PV.str out)] (by kernel_rfl) (.cons (Nat.le_refl _) .nil) (by decide) (.of_eq (by rw [List.take_length])) (fun _ => (usl_ns (sh := none) (fun _ => rfl)))
theorem c70 {p : api_Procs} {r : api_Procs} (h : proc_own p = some r) : CallOK Tryd.prog 70 [zE3 p] (gA8 r) false := by
 apply ok70
 unfold proc_own at h
 refine x_rg (rgn [hE,hE] (⟨[oP 1 0,oP 2 1],[rP 0 3 (zE3 p),rP 1 3 gA2],2⟩)) ?_
 obtain ⟨x1,hx1,h⟩ := bind_some h
 refine x_rg (rg0 [hE,hE,hN (.len (List.length p.L : Int)),hN (.mk (List.map zE2 x1)),hE] (⟨[oP 1 0,oP 2 1,(3,oL 2 zE2 x1)],[rP 0 3 (zE3 p),rP 1 3 gA2,(2,some (.p (some 13) (List.map zE2 x1) [(9,none),(11,none)]))],3⟩) (kc (lenM zE2 p.L) (kc (show mkC 168 (.agg [.int .i64 0,.int .i64 0,.int .i64 0,.str [],.str [],.int .i64 0,.int .i64 0,.int .i64 0,.str [],.sl none [],.str [],.sl (some 2) [],.bool false]) (List.length p.L : Int) (List.length p.L : Int) = some (List.map zE2 x1) from (mkC_map (f := zE2) hx1)) .nil))) ?_
 refine x_seq ?_
 refine x_rg (rg0 [hE,hE,hN (.len (List.length p.L : Int)),hE] (⟨[oP 1 0,oP 2 1,(3,oL 2 zE2 x1),(11,pL (some 13) zE2 p.L),(12,pI (List.length p.L : Int)),(13,pI 0)],[rP 0 3 (zE3 p),rP 1 3 gA2,(2,some (.p (some 13) (List.map zE2 x1) [(9,none),(11,none)]))],3⟩) (kc (lenM zE2 p.L) .nil)) ?_
 refine x_block ?_
 refine kw0 (⟨[oP 1 0,oP 2 1,(3,oL 2 zE2 x1),(11,pL (some 13) zE2 p.L),(12,pI (List.length p.L : Int)),(13,pI 0)],[rP 0 3 (zE3 p),rP 1 3 gA2,(2,some (.p (some 13) (List.map zE2 x1) [(9,none),(11,none)]))],3⟩) ?_
 refine x_loop (σ := (Int × (List api_Proc))) h (fun s => ⟨[oP 1 0,oP 2 1,(3,oL 2 zE2 s.2),(11,pL (some 13) zE2 p.L),(12,pI (List.length p.L : Int)),(13,pI s.1)],[rP 0 3 (zE3 p),rP 1 3 gA2,(2,some (.p (some 13) (List.map zE2 s.2) [(9,none),(11,none)]))],3⟩) (by kernel_rfl) ?_ ?_
 ·rintro ⟨v6,l⟩
  kernel_rfl
 rintro ⟨v6,l⟩ x8 h hx8
 replace h : proc_own_L8 p v6 l = some x8 := h
 unfold proc_own_L8 at h
 refine x_rg (rgn [hE] (⟨[oP 1 0,oP 2 1,(3,oL 2 zE2 l),(11,pL (some 13) zE2 p.L),(12,pI (List.length p.L : Int)),(13,pI v6),(14,pB (decide (v6 < (List.length p.L : Int))))],[rP 0 3 (zE3 p),rP 1 3 gA2,(2,some (.p (some 13) (List.map zE2 l) [(9,none),(11,none)]))],3⟩)) ?_
 refine x_seq ?_
 refine x_if h rfl (fun hc9 h => ?_) (fun hc9 h => ?_)
 ·refine x_kk (x_skip (x_tn (x_seq (x_block ?_))))
  obtain ⟨x10,hx10,h⟩ := bind_some h
  refine x_rg (rg0 [hE,hN (.pAt (zE2 x10)),hE,hE,hE,hE] (⟨[oP 1 0,oP 2 1,(3,oL 2 zE2 l),(4,pI v6),oP 5 3,(11,pL (some 13) zE2 p.L),(12,pI (List.length p.L : Int)),(13,pI v6)],[rP 0 3 (zE3 p),rP 1 3 gA2,(2,some (.p (some 13) (List.map zE2 l) [(9,none),(11,none)])),rP 3 13 (zE2 x10)],4⟩) (kc (lsAt_map (f := zE2) hx10) .nil)) ?_
  obtain ⟨x11,hx11,h⟩ := bind_some h
  obtain ⟨x12,hx12,h⟩ := bind_some h
  refine x_rgt (st2 := { tm := [oP 1 0,oP 2 1,(3,.osl 2 0 (List.map zE2 (List.set l (Int.toNat v6) x11)).length),(11,.pv (.sl (some 13) (List.map zE2 p.L))),(12,.pv (.int .i64 (List.length p.L : Int))),(13,.pv (.int .i64 v6))],hp := [rP 0 3 (zE3 p),rP 1 3 gA2,(2,some (.p (some 13) (List.map zE2 (List.set l (Int.toNat v6) x11)) [(9,none),(11,none)]))],nx := 3 }) (rg [hE,hE,hE,hN (.cal [] (gA3 x11) true),hN .rAt,hN (.put (gA7 x12) (List.map zE2 (List.set l (Int.toNat v6) x11)))] ({ tm := [oP 1 0,oP 2 1,(3,.osl 2 0 (List.map zE2 l).length),(11,.pv (.sl (some 13) (List.map zE2 p.L))),(12,.pv (.int .i64 (List.length p.L : Int))),(13,.pv (.int .i64 v6))],hp := [rP 0 3 (zE3 p),rP 1 3 gA2,(2,some (.p (some 13) (List.map zE2 (List.set l (Int.toNat v6) x11)) [(9,none),(11,none)]))],nx := 3 }) (kc (c76 hx11) (kc (rAtM (f := zE2) hx12) (kc (ownAt (f := zE2) hx12) (kc (show List.set (List.map zE2 l) (0 + Int.toNat v6) (gA7 x11) = (List.map zE2 (List.set l (Int.toNat v6) x11)) from (by rw [Nat.zero_add,List.map_set]; try rfl)) (kc (show (List.map PV.str x11.Notes).length = List.length (List.map PV.str x11.Notes) from rfl) (kc (show (List.map zE1 x11.Waits).length = List.length (List.map zE1 x11.Waits) from rfl) .nil)))))) (Sub.of_eq (by simp only [List.length_map,List.length_set]))) ?_
  refine x_bn (x_tn ?_)
  refine x_rgt (rgn [hE,hE] (⟨[oP 1 0,oP 2 1,(3,oL 2 zE2 (List.set l (Int.toNat v6) x11)),(11,pL (some 13) zE2 p.L),(12,pI (List.length p.L : Int)),(13,pI (IntKind.wrap .i64 (v6 + 1)))],[rP 0 3 (zE3 p),rP 1 3 gA2,(2,some (.p (some 13) (List.map zE2 (List.set l (Int.toNat v6) x11)) [(9,none),(11,none)]))],3⟩)) ?_
  refine x_tn ?_
  exact ⟨_,(sj h).symm,by kernel_rfl⟩
 refine kw0 (⟨[oP 1 0,oP 2 1,(3,oL 2 zE2 l)],[rP 0 3 (zE3 p),rP 1 3 gA2,(2,some (.p (some 13) (List.map zE2 l) [(9,none),(11,none)]))],3⟩) ?_
 refine x_exit ?_
 refine x_te (x_te ?_)
 replace h := done_leaf h hx8
 refine x_bh ?_
 refine x_tn ?_
 refine x_rg (rgn [hE,hE,hE] (⟨[oP 1 0,oP 2 2],[rH 0 3 (.agg [pI p.Next,pI p.Group,oL 1 zE2 l]),(1,some (.p (some 13) (List.map zE2 l) [(9,none),(11,none)])),rP 2 3 gA2],3⟩)) ?_
 refine x_rg (rgn [hE,hE] (⟨[oP 2 0],[rH 0 3 (.agg [pI p.Next,pI p.Group,oL 1 zE2 l]),(1,some (.p (some 13) (List.map zE2 l) [(9,none),(11,none)]))],2⟩)) ?_
 refine x_toret ?_
 obtain rfl := sj h
 exact x_ret (.agg [.int .i64 p.Next,.int .i64 p.Group,.dsl (some 13) (List.map zE2 l) [9,11]]) [1] [(List.map zE2 l).length = List.length (List.map zE2 l)] (by kernel_rfl) (.cons rfl .nil) (by decide) (.refl _) (fun h => nomatch h)
theorem c77 {n : Int} {r : Bool} (h : proc_state n = some r) : CallOK Tryd.prog 77 [.int .i64 n] (.bool r) true := by
 apply ok77
 unfold proc_state at h
 refine x_rg (rgn [hE] (⟨[(0,pI n)],[],0⟩)) ?_
 refine x_rgB (fun b_ => (⟨[(2,pB b_)],[],0⟩ : VSt)) ((decide (n = 1)) || ((decide (n = 2)) || (decide (n = 3)))) ?_ ?_
 ·rcases bq (decide (n = 1)) with hg1 | hg1
  ·exact rb [hE,hE,hE,hS,hS,hN (.pk true),hE,hS,hS,hE,hE] true (hk3 hg1 (hk2 tt .nil)) (by simp only [hg1,bs,reduceIte])
  rcases bq (decide (n = 2)) with hg2 | hg2
  ·exact rb [hE,hE,hE,hY,hY,hN (.pk false),hE,hS,hS,hN (.pk true),hE] true (hk3 hg1 (hk3 hg2 .nil)) (by simp only [hg1,hg2,bs,reduceIte])
  exact rb [hE,hE,hE,hY,hY,hN (.pk false),hE,hY,hY,hN (.pk false),hE] (decide (n = 3)) (hk3 hg1 (hk3 hg2 .nil)) (by simp only [hg1,hg2,bs,reduceIte])
 refine x_toret ?_
 obtain rfl := sj h
 exact ret0 (.bool ((decide (n = 1)) || ((decide (n = 2)) || (decide (n = 3))))) (.refl _) (fun _ => rfl)
theorem c57 {p : api_Procs} {id : Int} {n : Int} {r : (api_Procs × Int)} (h : proc_Set p id n = some r) : CallOK Tryd.prog 57 [zE3 p,.int .i64 id,.int .i64 n] (.tup [(gA8 r.1),.int .i64 r.2]) false := by
 apply ok57
 unfold proc_Set at h
 refine x_rg (rgn [hE,hE,hE] (⟨[(1,pI id),(2,pI n),oP 3 0,oP 6 1],[rP 0 3 (zE3 p),rP 1 3 gA2],2⟩)) ?_
 obtain ⟨x1,hx1,h⟩ := bind_some h
 refine x_rg (rg0 [hE,hN (.cal [] (gA8 x1) false),hE,hE] (⟨[(1,pI id),(2,pI n),oP 6 0,oP 8 1],[rP 0 3 gA2,rH 1 3 (gA9 x1 2),(2,some (.p (some 13) (List.map zE2 x1.L) [(9,none),(11,none)]))],3⟩) (kc (c70 hx1) .nil)) ?_
 obtain ⟨x2,hx2,h⟩ := bind_some h
 refine x_rg (rg0 [hE,hE,hN (.call [] [(gA10 x1),.int .i64 id] (.int .i64 x2) true),hE] (⟨[(2,pI n),oP 6 0,oP 8 1,(9,pI x2)],[rP 0 3 gA2,rH 1 3 (gA9 x1 2),(2,some (.p (some 13) (List.map zE2 x1.L) [(9,none),(11,none)]))],3⟩) (kc (show LesA [(gA11 x1),.int .i64 id] [(gA10 x1),.int .i64 id] from (.cons (.agg (.cons (.refl _) (.cons (.refl _) (.cons (.of_eq (by rw [List.drop_zero,List.take_length])) .nil)))) (.cons (.refl _) .nil))) (kc (c71 hx2) (kc (le0 (List.map zE2 x1.L)) .nil)))) ?_
 refine x_seq (x_block ?_)
 refine x_rg (rgn [hE,hE,hE] (⟨[(2,pI n),oP 6 0,oP 8 1,(9,pI x2),(15,pB (decide (x2 < 0)))],[rP 0 3 gA2,rH 1 3 (gA9 x1 2),(2,some (.p (some 13) (List.map zE2 x1.L) [(9,none),(11,none)]))],3⟩)) ?_
 refine x_if h rfl (fun hc3 h => ?_) (fun hc3 h => ?_)
 ·refine x_rg (rgn [hE,hE,hE] (⟨[oP 6 0,(7,pI 42)],[rH 0 3 (gA9 x1 1),(1,some (.p (some 13) (List.map zE2 x1.L) [(9,none),(11,none)]))],2⟩)) ?_
  refine x_toret (x_br (x_tr ?_))
  obtain rfl := sj h
  exact x_ret (.tup [(gA8 x1),.int .i64 42]) [1] [(List.map zE2 x1.L).length = List.length (List.map zE2 x1.L)] (by kernel_rfl) (.cons rfl .nil) (by decide) (.tup (.cons (.refl _) (.cons (.refl _) .nil))) (fun h => nomatch h)
 obtain ⟨x4,hx4,h⟩ := bind_some h
 refine x_rg (rg0 [hE,hN (.cal [] (.bool x4) true),hE,hE] (⟨[(2,pI n),oP 6 0,oP 8 1,(9,pI x2),(19,pB (!x4))],[rP 0 3 gA2,rH 1 3 (gA9 x1 2),(2,some (.p (some 13) (List.map zE2 x1.L) [(9,none),(11,none)]))],3⟩) (kc (c77 hx4) .nil)) ?_
 refine x_if h rfl (fun hc5 h => ?_) (fun hc5 h => ?_)
 ·refine x_rg (rgn [hE,hE,hE] (⟨[oP 6 0,(7,pI 1)],[rH 0 3 (gA9 x1 1),(1,some (.p (some 13) (List.map zE2 x1.L) [(9,none),(11,none)]))],2⟩)) ?_
  refine x_toret (x_br (x_tr ?_))
  obtain rfl := sj h
  exact x_ret (.tup [(gA8 x1),.int .i64 1]) [1] [(List.map zE2 x1.L).length = List.length (List.map zE2 x1.L)] (by kernel_rfl) (.cons rfl .nil) (by decide) (.tup (.cons (.refl _) (.cons (.refl _) .nil))) (fun h => nomatch h)
 refine x_kk (x_skip (x_bn (x_tn ?_)))
 obtain ⟨x6,hx6,h⟩ := bind_some h
 refine x_rg (st2 := { tm := [oP 6 0,oP 8 1],hp := [rP 0 3 gA2,rH 1 3 (.agg [.pv (.int .i64 x1.Next),.pv (.int .i64 x1.Group),.osl 2 0 (List.map zE2 (List.set x1.L (Int.toNat x2) (api_Proc.mk x6.Id x6.Parent n x6.User x6.Name x6.Ns x6.Env x6.Fds x6.Cwd x6.Notes x6.Status x6.Waits x6.Alone))).length]),(2,some (.p (some 13) (List.map zE2 (List.set x1.L (Int.toNat x2) (api_Proc.mk x6.Id x6.Parent n x6.User x6.Name x6.Ns x6.Env x6.Fds x6.Cwd x6.Notes x6.Status x6.Waits x6.Alone))) [(9,none),(11,none)]))],nx := 3 }) (rg [hE,hE,hE,hE,hN .rAt,hE,hN (.put (gA7 x6) (List.map zE2 (List.set x1.L (Int.toNat x2) (api_Proc.mk x6.Id x6.Parent n x6.User x6.Name x6.Ns x6.Env x6.Fds x6.Cwd x6.Notes x6.Status x6.Waits x6.Alone))))] ({ tm := [oP 6 0,oP 8 1],hp := [rP 0 3 gA2,rH 1 3 (gA12 x1),(2,some (.p (some 13) (List.map zE2 (List.set x1.L (Int.toNat x2) (api_Proc.mk x6.Id x6.Parent n x6.User x6.Name x6.Ns x6.Env x6.Fds x6.Cwd x6.Notes x6.Status x6.Waits x6.Alone))) [(9,none),(11,none)]))],nx := 3 }) (kc (rAtM (f := zE2) hx6) (kc (ownAt (f := zE2) hx6) (kc (show List.set (List.map zE2 x1.L) (0 + Int.toNat x2) (.agg [.int .i64 x6.Id,.int .i64 x6.Parent,.int .i64 n,.str x6.User,.str x6.Name,.int .i64 x6.Ns,.int .i64 x6.Env,.int .i64 x6.Fds,.str x6.Cwd,.sl none (List.map PV.str x6.Notes),.str x6.Status,.sl (some 2) (List.map zE1 x6.Waits),.bool x6.Alone]) = (List.map zE2 (List.set x1.L (Int.toNat x2) (api_Proc.mk x6.Id x6.Parent n x6.User x6.Name x6.Ns x6.Env x6.Fds x6.Cwd x6.Notes x6.Status x6.Waits x6.Alone))) from (by rw [Nat.zero_add,List.map_set]; try rfl)) .nil))) (Sub.of_eq (by simp only [List.length_map,List.length_set,gA12]))) ?_
 refine x_rg (rgn [hE,hE,hE] (⟨[oP 6 0,(7,pI 0)],[rH 0 3 (.agg [pI x1.Next,pI x1.Group,oL 1 zE2 (List.set x1.L (Int.toNat x2) (api_Proc.mk x6.Id x6.Parent n x6.User x6.Name x6.Ns x6.Env x6.Fds x6.Cwd x6.Notes x6.Status x6.Waits x6.Alone))]),(1,some (.p (some 13) (List.map zE2 (List.set x1.L (Int.toNat x2) (api_Proc.mk x6.Id x6.Parent n x6.User x6.Name x6.Ns x6.Env x6.Fds x6.Cwd x6.Notes x6.Status x6.Waits x6.Alone))) [(9,none),(11,none)]))],2⟩)) ?_
 refine x_toret ?_
 obtain rfl := sj h
 exact x_ret (.tup [.agg [.int .i64 x1.Next,.int .i64 x1.Group,.dsl (some 13) (List.map zE2 (List.set x1.L (Int.toNat x2) (api_Proc.mk x6.Id x6.Parent n x6.User x6.Name x6.Ns x6.Env x6.Fds x6.Cwd x6.Notes x6.Status x6.Waits x6.Alone))) [9,11]],.int .i64 0]) [1] [(List.map zE2 (List.set x1.L (Int.toNat x2) (api_Proc.mk x6.Id x6.Parent n x6.User x6.Name x6.Ns x6.Env x6.Fds x6.Cwd x6.Notes x6.Status x6.Waits x6.Alone))).length = List.length (List.map zE2 (List.set x1.L (Int.toNat x2) (api_Proc.mk x6.Id x6.Parent n x6.User x6.Name x6.Ns x6.Env x6.Fds x6.Cwd x6.Notes x6.Status x6.Waits x6.Alone)))] (by kernel_rfl) (.cons rfl .nil) (by decide) (.tup (.cons (.refl _) (.cons (.refl _) .nil))) (fun h => nomatch h)
theorem c78 {s_ : Str} {r : Bool} (h : proc_short s_ = some r) : CallOK Tryd.prog 78 [.str s_] (.bool r) true := by
 apply ok78
 unfold proc_short at h
 refine x_rg (rgn [hE] (⟨[(0,pS s_)],[],0⟩)) ?_
 refine x_rg (rgn [hE,hE,hE,hE] (⟨[(2,pB (decide ((List.length s_ : Int) ≤ 1024)))],[],0⟩)) ?_
 refine x_toret ?_
 obtain rfl := sj h
 exact ret0 (.bool (decide ((List.length s_ : Int) ≤ 1024))) (.refl _) (fun _ => rfl)
theorem c79_o {s_ : (List api_Proc)} {i j : Int} {r : (List api_Proc)} (h : slices_Delete_api_Proc_api_Proc_o s_ i j = some r) : CallOK Tryd.prog 79 [.usl (some 13) (List.map zE2 s_),.int .i64 i,.int .i64 j] (.usl (some 13) (List.map zE2 r)) false := by
 apply ok79
 obtain ⟨q1,q2,q3,rfl⟩ := delL_ok h
 clear h
 have hA : i.toNat ≤ s_.length := by omega
 have hB : j.toNat ≤ s_.length := by omega
 have hr : (s_.take i.toNat ++ s_.drop j.toNat).length = i.toNat + (s_.length - j.toNat) := by simp; omega
 refine x_rg (rgn [hE] (⟨[(0,oL 0 zE2 s_),(1,pI i),(2,pI j)],[(0,rL (some 13) zE2 s_)],1⟩)) ?_
 refine x_rg (rg0 (obs := [(((List.map zE2 s_).length : Nat) : Int) = (List.length s_ : Int),0 ≤ i ∧ i ≤ j ∧ j ≤ (List.length s_ : Int) ∧ (List.length s_ : Int) ≤ (((List.map zE2 s_).length : Nat) : Int)]) [hE,hE,hE,hE,hN (.len (List.length s_ : Int)),hN .c3] (⟨[(0,oL 0 zE2 s_),(1,pI i),(2,pI j)],[(0,rL (some 13) zE2 s_)],1⟩) (.cons (by rw [List.length_map]) (.cons ⟨q1,q2,q3,by rw [List.length_map]; exact Int.le_refl _⟩ .nil))) ?_
 refine x_seq ?_
 refine x_rg (rgn [hE,hE,hE] (⟨[(0,oL 0 zE2 s_),(1,pI i),(2,pI j),(16,pB (decide (i = j)))],[(0,rL (some 13) zE2 s_)],1⟩)) ?_
 refine x_cond _ rfl (fun hc => ?_) (fun hc => ?_)
 ·have hij : i = j := of_decide_eq_true hc
  subst hij
  have e : s_.take i.toNat ++ s_.drop i.toNat = s_ := List.take_append_drop _ _
  rw [e]
  refine x_rg (rgn [hE,hE] (⟨[(6,oL 0 zE2 s_)],[(0,rL (some 13) zE2 s_)],1⟩)) ?_
  refine x_toret (x_tr ?_)
  exact x_ret (.usl (some 13) (List.take (List.map zE2 s_).length (List.map zE2 s_))) [0] [(List.map zE2 s_).length ≤ List.length (List.map zE2 s_)] (by kernel_rfl) (.cons (Nat.le_refl _) .nil) (by decide) (.of_eq (by rw [List.take_length])) (fun h => nomatch h)
 refine x_kk (x_skip (x_tn ?_))
 refine x_rg (rg0 (obs := [(((List.map zE2 s_).length : Nat) : Int) = (List.length s_ : Int)]) [hE,hN (.len (List.length s_ : Int)),hE] (⟨[(0,oL 0 zE2 s_),(1,pI i),(2,pI j),(7,pI (List.length s_ : Int))],[(0,rL (some 13) zE2 s_)],1⟩) (.cons (by rw [List.length_map]) .nil)) ?_
 refine x_rg (st2 := ⟨[(0,oL 0 zE2 (s_.take i.toNat ++ s_.drop j.toNat)),(7,pI (List.length s_ : Int))],[(0,rL (some 13) zE2 (s_.take i.toNat ++ s_.drop j.toNat ++ s_.drop (i.toNat + (s_.length - j.toNat))))],1⟩) (rg (obs := [0 ≤ (0 : Int) ∧ (0 : Int) ≤ i ∧ i ≤ (((List.map zE2 s_).length : Nat) : Int),0 ≤ j ∧ j ≤ (((List.map zE2 s_).length : Nat) : Int) ∧ (((List.map zE2 s_).length : Nat) : Int) ≤ (((List.map zE2 s_).length : Nat) : Int),
   (Int.toNat i - Int.toNat 0) + (List.take (Int.toNat (((List.map zE2 s_).length : Nat) : Int) - Int.toNat j) (List.drop (0 + Int.toNat j) (List.map zE2 s_))).length ≤ (List.map zE2 s_).length,
   List.take (Int.toNat i - Int.toNat 0) (List.map zE2 s_) ++ List.take (Int.toNat (((List.map zE2 s_).length : Nat) : Int) - Int.toNat j) (List.drop (0 + Int.toNat j) (List.map zE2 s_)) ++ List.drop ((Int.toNat i - Int.toNat 0) + (List.take (Int.toNat (((List.map zE2 s_).length : Nat) : Int) - Int.toNat j) (List.drop (0 + Int.toNat j) (List.map zE2 s_))).length) (List.map zE2 s_) = List.map zE2 (s_.take i.toNat ++ s_.drop j.toNat ++ s_.drop (i.toNat + (s_.length - j.toNat))),
   (0 + Int.toNat j) + (Int.toNat (((List.map zE2 s_).length : Nat) : Int) - Int.toNat j) ≤ (List.map zE2 s_).length])
   [hE,hE,hN .cutR,hE,hE,hN .cutR,hN (.apIn (List.map zE2 (s_.take i.toNat ++ s_.drop j.toNat ++ s_.drop (i.toNat + (s_.length - j.toNat))))),hE]
   (⟨[(0,.osl 0 0 ((Int.toNat i - Int.toNat 0) + (List.take (Int.toNat (((List.map zE2 s_).length : Nat) : Int) - Int.toNat j) (List.drop (0 + Int.toNat j) (List.map zE2 s_))).length)),(7,pI (List.length s_ : Int))],[(0,rL (some 13) zE2 (s_.take i.toNat ++ s_.drop j.toNat ++ s_.drop (i.toNat + (s_.length - j.toNat))))],1⟩)
   (.cons ⟨Int.le_refl _,q1,by rw [List.length_map]; omega⟩ (.cons ⟨by omega,by rw [List.length_map]; exact q3,Int.le_refl _⟩ (.cons (by rw [del_len hB,List.length_map]; omega) (.cons (del_eq hA hB) (.cons (by rw [List.length_map]; omega) .nil)))))
   (Sub.of_eq (by rw [del_len hB,oL,List.length_map,hr]; rfl))) ?_
 refine x_rg (st2 := ⟨[(0,oL 0 zE2 (s_.take i.toNat ++ s_.drop j.toNat))],[(0,rL (some 13) zE2 (s_.take i.toNat ++ s_.drop j.toNat))],1⟩) (rg (obs := [(((List.map zE2 (s_.take i.toNat ++ s_.drop j.toNat)).length : Nat) : Int) = (List.length (s_.take i.toNat ++ s_.drop j.toNat) : Int),
   0 ≤ (List.length (s_.take i.toNat ++ s_.drop j.toNat) : Int) ∧ (List.length (s_.take i.toNat ++ s_.drop j.toNat) : Int) ≤ (List.length s_ : Int) ∧ (List.length s_ : Int) ≤ ((List.length (List.map zE2 (s_.take i.toNat ++ s_.drop j.toNat ++ s_.drop (i.toNat + (s_.length - j.toNat)))) : Nat) : Int),
   Int.toNat (List.length (s_.take i.toNat ++ s_.drop j.toNat) : Int) ≤ List.length (List.map zE2 (s_.take i.toNat ++ s_.drop j.toNat ++ s_.drop (i.toNat + (s_.length - j.toNat))))])
   [hE,hE,hN (.len (List.length (s_.take i.toNat ++ s_.drop j.toNat) : Int)),hE,hN .slOv,hN .clr]
   (⟨[(0,oL 0 zE2 (s_.take i.toNat ++ s_.drop j.toNat))],[(0,some (.p (some 13) (List.take (Int.toNat (List.length (s_.take i.toNat ++ s_.drop j.toNat) : Int)) (List.map zE2 (s_.take i.toNat ++ s_.drop j.toNat ++ s_.drop (i.toNat + (s_.length - j.toNat)))))))],1⟩)
   (.cons (by rw [List.length_map]) (.cons ⟨by omega,by rw [hr]; omega,by rw [List.length_map,List.length_append,hr]; simp; omega⟩ (.cons (by rw [List.length_map,Int.toNat_natCast,@List.length_append _ (s_.take i.toNat ++ s_.drop j.toNat)]; exact Nat.le_add_right _ _) .nil)))
   (Sub.of_eq (by rw [del_row]))) ?_
 refine x_rg (rgn [hE,hE] (⟨[(6,oL 0 zE2 (s_.take i.toNat ++ s_.drop j.toNat))],[(0,rL (some 13) zE2 (s_.take i.toNat ++ s_.drop j.toNat))],1⟩)) ?_
 refine x_toret ?_
 exact x_ret (.usl (some 13) (List.take (List.map zE2 (s_.take i.toNat ++ s_.drop j.toNat)).length (List.map zE2 (s_.take i.toNat ++ s_.drop j.toNat)))) [0] [(List.map zE2 (s_.take i.toNat ++ s_.drop j.toNat)).length ≤ List.length (List.map zE2 (s_.take i.toNat ++ s_.drop j.toNat))] (by kernel_rfl) (.cons (Nat.le_refl _) .nil) (by decide) (.of_eq (by rw [List.take_length])) (fun h => nomatch h)
theorem c58 {p : api_Procs} {id : Int} {status : Str} {r : (api_Procs × Int)} (h : proc_Exit p id status = some r) : CallOK Tryd.prog 58 [zE3 p,.int .i64 id,.str status] (.tup [(gA1 r.1),.int .i64 r.2]) false := by
 apply ok58
 unfold proc_Exit at h
 refine x_rg (rgn [hE,hE,hE] (⟨[(1,pI id),(2,pS status),oP 3 0,oP 6 1],[rP 0 3 (zE3 p),rP 1 3 gA2],2⟩)) ?_
 obtain ⟨x1,hx1,h⟩ := bind_some h
 refine x_rg (rg0 [hE,hN (.cal [] (gA8 x1) false),hE,hE] (⟨[(1,pI id),(2,pS status),oP 6 0,oP 8 1],[rP 0 3 gA2,rH 1 3 (gA9 x1 2),(2,some (.p (some 13) (List.map zE2 x1.L) [(9,none),(11,none)]))],3⟩) (kc (c70 hx1) .nil)) ?_
 obtain ⟨x2,hx2,h⟩ := bind_some h
 refine x_rg (rg0 [hE,hE,hN (.call [] [(gA10 x1),.int .i64 id] (.int .i64 x2) true),hE] (⟨[(1,pI id),(2,pS status),oP 6 0,oP 8 1,(9,pI x2)],[rP 0 3 gA2,rH 1 3 (gA9 x1 2),(2,some (.p (some 13) (List.map zE2 x1.L) [(9,none),(11,none)]))],3⟩) (kc (show LesA [(gA11 x1),.int .i64 id] [(gA10 x1),.int .i64 id] from (.cons (.agg (.cons (.refl _) (.cons (.refl _) (.cons (.of_eq (by rw [List.drop_zero,List.take_length])) .nil)))) (.cons (.refl _) .nil))) (kc (c71 hx2) (kc (le0 (List.map zE2 x1.L)) .nil)))) ?_
 refine x_seq (x_block ?_)
 refine x_rg (rgn [hE,hE,hE] (⟨[(1,pI id),(2,pS status),oP 6 0,oP 8 1,(9,pI x2),(18,pB (decide (x2 < 0)))],[rP 0 3 gA2,rH 1 3 (gA9 x1 2),(2,some (.p (some 13) (List.map zE2 x1.L) [(9,none),(11,none)]))],3⟩)) ?_
 refine x_if h rfl (fun hc3 h => ?_) (fun hc3 h => ?_)
 ·refine x_rg (rgn [hE,hE,hE] (⟨[oP 6 0,(7,pI 42)],[rH 0 3 (gA9 x1 1),(1,some (.p (some 13) (List.map zE2 x1.L) [(9,none),(11,none)]))],2⟩)) ?_
  refine x_toret (x_br (x_tr ?_))
  obtain rfl := sj h
  exact x_ret (.tup [(gA8 x1),.int .i64 42]) [1] [(List.map zE2 x1.L).length = List.length (List.map zE2 x1.L)] (by kernel_rfl) (.cons rfl .nil) (by decide) (.tup (.cons (.agg (.cons (.refl _) (.cons (.refl _) (.cons (.dslU _ _ _) .nil)))) (.cons (.refl _) .nil))) (fun h => nomatch h)
 refine x_rg (rgn [hE,hE,hE] (⟨[(1,pI id),(2,pS status),oP 6 0,oP 8 1,(9,pI x2),(22,pB (decide (id = 1)))],[rP 0 3 gA2,rH 1 3 (gA9 x1 2),(2,some (.p (some 13) (List.map zE2 x1.L) [(9,none),(11,none)]))],3⟩)) ?_
 refine x_if h rfl (fun hc4 h => ?_) (fun hc4 h => ?_)
 ·refine x_rg (rgn [hE,hE,hE] (⟨[oP 6 0,(7,pI 43)],[rH 0 3 (gA9 x1 1),(1,some (.p (some 13) (List.map zE2 x1.L) [(9,none),(11,none)]))],2⟩)) ?_
  refine x_toret (x_br (x_tr ?_))
  obtain rfl := sj h
  exact x_ret (.tup [(gA8 x1),.int .i64 43]) [1] [(List.map zE2 x1.L).length = List.length (List.map zE2 x1.L)] (by kernel_rfl) (.cons rfl .nil) (by decide) (.tup (.cons (.agg (.cons (.refl _) (.cons (.refl _) (.cons (.dslU _ _ _) .nil)))) (.cons (.refl _) .nil))) (fun h => nomatch h)
 obtain ⟨x5,hx5,h⟩ := bind_some h
 refine x_rg (rg0 [hE,hN (.cal [] (.bool x5) true),hE,hE] (⟨[(1,pI id),(2,pS status),oP 6 0,oP 8 1,(9,pI x2),(26,pB (!x5))],[rP 0 3 gA2,rH 1 3 (gA9 x1 2),(2,some (.p (some 13) (List.map zE2 x1.L) [(9,none),(11,none)]))],3⟩) (kc (c78 hx5) .nil)) ?_
 refine x_if h rfl (fun hc6 h => ?_) (fun hc6 h => ?_)
 ·refine x_rg (rgn [hE,hE,hE] (⟨[oP 6 0,(7,pI 4)],[rH 0 3 (gA9 x1 1),(1,some (.p (some 13) (List.map zE2 x1.L) [(9,none),(11,none)]))],2⟩)) ?_
  refine x_toret (x_br (x_tr ?_))
  obtain rfl := sj h
  exact x_ret (.tup [(gA8 x1),.int .i64 4]) [1] [(List.map zE2 x1.L).length = List.length (List.map zE2 x1.L)] (by kernel_rfl) (.cons rfl .nil) (by decide) (.tup (.cons (.agg (.cons (.refl _) (.cons (.refl _) (.cons (.dslU _ _ _) .nil)))) (.cons (.refl _) .nil))) (fun h => nomatch h)
 refine x_kk (x_skip (x_bn (x_tn ?_)))
 obtain ⟨x7,hx7,h⟩ := bind_some h
 refine x_rg (rg0 [hE,hE,hE,hN .rAt,hN (.ld (zE2 x7)),hE,hE] (⟨[(1,pI id),(2,pS status),oP 6 0,oP 8 1,(9,pI x2),oP 10 3],[rP 0 3 gA2,rH 1 3 (gA9 x1 2),(2,some (.p (some 13) (List.map zE2 x1.L) [(9,none),(11,none)])),rP 3 13 (zE2 x7)],4⟩) (kc (rAtM (f := zE2) hx7) (kc (ownAt (f := zE2) hx7) .nil))) ?_
 refine x_join (τ := (List api_Proc)) (fun t => proc_Exit_K8 id x1 x2 t = some r) (fun t => { tm := [(1,.pv (.int .i64 id)),oP 6 0,oP 8 1,(9,.pv (.int .i64 x2))],hp := [rP 0 3 gA2,rH 1 3 (.agg [.pv (.int .i64 x1.Next),.pv (.int .i64 x1.Group),.osl 2 0 (List.map zE2 t).length]),(2,some (.p (some 13) (List.map zE2 t)))],nx := 3 }) ?_ ?_
 ·rintro p9 h
  replace h : proc_Exit_K8 id x1 x2 p9 = some r := h
  unfold proc_Exit_K8 at h
  obtain ⟨x10,hx10,h⟩ := bind_some h
  refine x_rg (rg0 [hE,hE,hE,hE,hE,hN (.call [2] [.usl (some 13) (List.map zE2 p9),.int .i64 x2,.int .i64 (IntKind.wrap .i64 (x2 + 1))] (.usl (some 13) (List.map zE2 x10)) false),hE,hE] (⟨[(1,pI id),oP 6 0,oP 8 1],[rP 0 3 gA2,rH 1 3 (.agg [pI x1.Next,pI x1.Group,oL 2 zE2 x10]),(2,rL (some 13) zE2 x10)],3⟩) (kc (show LesA [.usl (some 13) (List.take (List.map zE2 p9).length (List.map zE2 p9)),.int .i64 x2,.int .i64 (IntKind.wrap .i64 (x2 + 1))] [.usl (some 13) (List.map zE2 p9),.int .i64 x2,.int .i64 (IntKind.wrap .i64 (x2 + 1))] from (.cons (.of_eq (by rw [List.take_length])) (.cons (.refl _) (.cons (.refl _) .nil)))) (kc (c79_o hx10) (kc (le1 (List.map zE2 p9)) .nil)))) ?_
  refine x_seq ?_
  refine x_rg (rg0 [hE,hE,hN (.len (List.length x10 : Int)),hE] (⟨[(1,pI id),oP 6 0,oP 8 1,(82,pI (List.length x10 : Int)),(83,pI 0)],[rP 0 3 gA2,rH 1 3 (.agg [pI x1.Next,pI x1.Group,oL 2 zE2 x10]),(2,rL (some 13) zE2 x10)],3⟩) (kc (lenM zE2 x10) .nil)) ?_
  refine x_block ?_
  refine kw0 (⟨[(1,pI id),oP 6 0,oP 8 1,(82,pI (List.length x10 : Int)),(83,pI 0)],[rP 0 3 gA2,rH 1 3 (.agg [pI x1.Next,pI x1.Group,oL 2 zE2 x10]),(2,rL (some 13) zE2 x10)],3⟩) ?_
  refine x_loop (σ := (Int × (List api_Proc))) h (fun s => ⟨[(1,pI id),oP 6 0,oP 8 1,(82,pI (List.length x10 : Int)),(83,pI s.1)],[rP 0 3 gA2,rH 1 3 (.agg [pI x1.Next,pI x1.Group,oL 2 zE2 s.2]),(2,rL (some 13) zE2 s.2)],3⟩) (by kernel_rfl) ?_ ?_
  ·rintro ⟨v15,v16⟩
   kernel_rfl
  rintro ⟨v15,v16⟩ x17 h hx17
  replace h : proc_Exit_L17 id x1 x10 v15 v16 = some x17 := h
  unfold proc_Exit_L17 at h
  refine x_rg (rgn [hE] (⟨[(1,pI id),oP 6 0,oP 8 1,(82,pI (List.length x10 : Int)),(83,pI v15),(84,pB (decide (v15 < (List.length x10 : Int))))],[rP 0 3 gA2,rH 1 3 (.agg [pI x1.Next,pI x1.Group,oL 2 zE2 v16]),(2,rL (some 13) zE2 v16)],3⟩)) ?_
  refine x_seq ?_
  refine x_if h rfl (fun hc18 h => ?_) (fun hc18 h => ?_)
  ·refine x_kk (x_skip (x_tn (x_seq (x_block ?_))))
   refine x_rg (rgn [hE,hE] (⟨[(1,pI id),oP 6 0,oP 8 1,(12,pI v15),(82,pI (List.length x10 : Int)),(83,pI v15)],[rP 0 3 gA2,rH 1 3 (.agg [pI x1.Next,pI x1.Group,oL 2 zE2 v16]),(2,rL (some 13) zE2 v16)],3⟩)) ?_
   obtain ⟨x19,hx19,h⟩ := bind_some h
   refine x_rg (rg0 [hE,hE,hE,hN .rAt,hE,hN (.ld (zE2 x19)),hE,hE] (⟨[(1,pI id),oP 6 0,oP 8 1,(12,pI v15),(82,pI (List.length x10 : Int)),(83,pI v15),(93,pB (decide (x19.Parent = id)))],[rP 0 3 gA2,rH 1 3 (.agg [pI x1.Next,pI x1.Group,oL 2 zE2 v16]),(2,rL (some 13) zE2 v16)],3⟩) (kc (rAtM (f := zE2) hx19) (kc (ownAt (f := zE2) hx19) .nil))) ?_
   refine x_if h rfl (fun hc20 h => ?_) (fun hc20 h => ?_)
   ·obtain ⟨x21,hx21,h⟩ := bind_some h
    refine x_rgt (st2 := { tm := [(1,.pv (.int .i64 id)),oP 6 0,oP 8 1,(82,.pv (.int .i64 (List.length x10 : Int))),(83,.pv (.int .i64 v15))],hp := [rP 0 3 gA2,rH 1 3 (.agg [.pv (.int .i64 x1.Next),.pv (.int .i64 x1.Group),.osl 2 0 (List.map zE2 (List.set v16 (Int.toNat v15) (api_Proc.mk x21.Id 1 x21.State x21.User x21.Name x21.Ns x21.Env x21.Fds x21.Cwd x21.Notes x21.Status x21.Waits x21.Alone))).length]),(2,some (.p (some 13) (List.map zE2 (List.set v16 (Int.toNat v15) (api_Proc.mk x21.Id 1 x21.State x21.User x21.Name x21.Ns x21.Env x21.Fds x21.Cwd x21.Notes x21.Status x21.Waits x21.Alone)))))],nx := 3 }) (rg [hE,hE,hE,hN .rAt,hE,hN (.set (zE2 x21) (List.map zE2 (List.set v16 (Int.toNat v15) (api_Proc.mk x21.Id 1 x21.State x21.User x21.Name x21.Ns x21.Env x21.Fds x21.Cwd x21.Notes x21.Status x21.Waits x21.Alone))))] ({ tm := [(1,.pv (.int .i64 id)),oP 6 0,oP 8 1,(82,.pv (.int .i64 (List.length x10 : Int))),(83,.pv (.int .i64 v15))],hp := [rP 0 3 gA2,rH 1 3 (.agg [.pv (.int .i64 x1.Next),.pv (.int .i64 x1.Group),.osl 2 0 (List.map zE2 v16).length]),(2,some (.p (some 13) (List.map zE2 (List.set v16 (Int.toNat v15) (api_Proc.mk x21.Id 1 x21.State x21.User x21.Name x21.Ns x21.Env x21.Fds x21.Cwd x21.Notes x21.Status x21.Waits x21.Alone)))))],nx := 3 }) (kc (rAtM (f := zE2) hx21) (kc (ownAt (f := zE2) hx21) (kc (show List.set (List.map zE2 v16) (0 + Int.toNat v15) (.agg [.int .i64 x21.Id,.int .i64 1,.int .i64 x21.State,.str x21.User,.str x21.Name,.int .i64 x21.Ns,.int .i64 x21.Env,.int .i64 x21.Fds,.str x21.Cwd,.sl none (List.map PV.str x21.Notes),.str x21.Status,.sl (some 2) (List.map zE1 x21.Waits),.bool x21.Alone]) = (List.map zE2 (List.set v16 (Int.toNat v15) (api_Proc.mk x21.Id 1 x21.State x21.User x21.Name x21.Ns x21.Env x21.Fds x21.Cwd x21.Notes x21.Status x21.Waits x21.Alone))) from (by rw [Nat.zero_add,List.map_set]; try rfl)) .nil))) (Sub.of_eq (by simp only [List.length_map,List.length_set]))) ?_
    refine x_bn (x_tn ?_)
    refine x_rgt (rgn [hE,hE] (⟨[(1,pI id),oP 6 0,oP 8 1,(82,pI (List.length x10 : Int)),(83,pI (IntKind.wrap .i64 (v15 + 1)))],[rP 0 3 gA2,rH 1 3 (.agg [pI x1.Next,pI x1.Group,oL 2 zE2 (List.set v16 (Int.toNat v15) (api_Proc.mk x21.Id 1 x21.State x21.User x21.Name x21.Ns x21.Env x21.Fds x21.Cwd x21.Notes x21.Status x21.Waits x21.Alone))]),(2,rL (some 13) zE2 (List.set v16 (Int.toNat v15) (api_Proc.mk x21.Id 1 x21.State x21.User x21.Name x21.Ns x21.Env x21.Fds x21.Cwd x21.Notes x21.Status x21.Waits x21.Alone)))],3⟩)) ?_
    refine x_tn ?_
    exact ⟨_,(sj h).symm,by kernel_rfl⟩
   refine x_kk (x_skip (x_bn (x_tn ?_)))
   refine x_rgt (rgn [hE,hE] (⟨[(1,pI id),oP 6 0,oP 8 1,(82,pI (List.length x10 : Int)),(83,pI (IntKind.wrap .i64 (v15 + 1)))],[rP 0 3 gA2,rH 1 3 (.agg [pI x1.Next,pI x1.Group,oL 2 zE2 v16]),(2,rL (some 13) zE2 v16)],3⟩)) ?_
   refine x_tn ?_
   exact ⟨_,(sj h).symm,by kernel_rfl⟩
  refine kw0 (⟨[oP 6 0,oP 8 1],[rP 0 3 gA2,rH 1 3 (.agg [pI x1.Next,pI x1.Group,oL 2 zE2 v16]),(2,rL (some 13) zE2 v16)],3⟩) ?_
  refine x_exit ?_
  refine x_te (x_te ?_)
  replace h := done_leaf h hx17
  refine x_bh ?_
  refine x_tn ?_
  refine x_rg (rgn [hE,hE,hE] (⟨[oP 6 0,(7,pI 0)],[rH 0 3 (.agg [pI x1.Next,pI x1.Group,oL 1 zE2 v16]),(1,rL (some 13) zE2 v16)],2⟩)) ?_
  refine x_toret ?_
  obtain rfl := sj h
  exact x_ret (.tup [.agg [.int .i64 x1.Next,.int .i64 x1.Group,.usl (some 13) (List.take (List.map zE2 v16).length (List.map zE2 v16))],.int .i64 0]) [1] [(List.map zE2 v16).length ≤ List.length (List.map zE2 v16)] (by kernel_rfl) (.cons (Nat.le_refl _) .nil) (by decide) (.tup (.cons (.agg (.cons (.refl _) (.cons (.refl _) (.cons (.of_eq (by rw [List.take_length])) .nil)))) (.cons (.refl _) .nil))) (fun h => nomatch h)
 obtain ⟨x22,hx22,h⟩ := bind_some h
 refine x_rg (rg0 [hE,hE,hE,hN (.call [] [(gA10 x1),.int .i64 x7.Parent] (.int .i64 x22) true),hE] (⟨[(1,pI id),(2,pS status),oP 6 0,oP 8 1,(9,pI x2),oP 10 3,(11,pI x22)],[rP 0 3 gA2,rH 1 3 (gA9 x1 2),(2,some (.p (some 13) (List.map zE2 x1.L) [(9,none),(11,none)])),rP 3 13 (zE2 x7)],4⟩) (kc (show LesA [(gA11 x1),.int .i64 x7.Parent] [(gA10 x1),.int .i64 x7.Parent] from (.cons (.agg (.cons (.refl _) (.cons (.refl _) (.cons (.of_eq (by rw [List.drop_zero,List.take_length])) .nil)))) (.cons (.refl _) .nil))) (kc (c71 hx22) (kc (le0 (List.map zE2 x1.L)) .nil)))) ?_
 obtain ⟨t26,ht,h⟩ := bind_some h
 refine x_rgB (fun b_ => (⟨[(1,pI id),(2,pS status),oP 6 0,oP 8 1,(9,pI x2),(11,pI x22),(56,pB b_)],[rP 0 3 gA2,rH 1 3 (gA9 x1 2),(2,some (.p (some 13) (List.map zE2 x1.L) [(9,none),(11,none)]))],3⟩ : VSt)) t26 ?_ ?_
 ·rcases bq (decide (0 ≤ x22)) with hg23 | hg23
  ·replace ht := ite_t ht hg23
   rcases bq (!x7.Alone) with hg24 | hg24
   ·replace ht := ite_t ht hg24
    obtain ⟨x25,hx25,ht⟩ := bind_some ht
    obtain rfl := sj ht
    exact rb [hE,hE,hE,hY,hY,hY,hN (.pk true),hE,hY,hY,hY,(.y,.rAt),hY,(.y,(.ld (zE2 x25))),(.y,(.len (List.length x25.Waits : Int))),hY,hN (.pk true)] (decide ((List.length x25.Waits : Int) < 64)) (hk4 hg23 (hk4 hg24 (kc (rAtM (f := zE2) hx25) (hk2 hg24 (kc (ownAt (f := zE2) hx25) (kc hg24 (kc (lenM zE1 x25.Waits) (hk2 hg24 .nil)))))))) rfl
   replace ht := ite_f ht hg24
   obtain rfl := sj ht
   exact rb [hE,hE,hE,hY,hY,hY,hN (.pk true),hE,hS,hS,hS,hS,hS,hS,hS,hS,hN (.pk false)] false (hk4 hg23 (kc hg24 (hk8 hg24 .nil))) rfl
  replace ht := ite_f ht hg23
  obtain rfl := sj ht
  exact rb [hE,hE,hE,hS,hS,hS,hN (.pk false),hE,hS,hS,hS,hS,hS,hS,hS,hS,hE] false (hk4 hg23 (hk8 ff .nil)) rfl
 clear ht
 refine x_if h rfl (fun hc27 h => ?_) (fun hc27 h => ?_)
 ·obtain ⟨x28,hx28,h⟩ := bind_some h
  obtain ⟨x29,hx29,h⟩ := bind_some h
  obtain ⟨x30,hx30,h⟩ := bind_some h
  refine x_rgt (st2 := { tm := [(1,.pv (.int .i64 id)),oP 6 0,oP 8 1,(9,.pv (.int .i64 x2))],hp := [rP 0 3 gA2,rH 1 3 (.agg [.pv (.int .i64 x1.Next),.pv (.int .i64 x1.Group),.osl 2 0 (List.map zE2 (List.set x1.L (Int.toNat x22) (api_Proc.mk x30.Id x30.Parent x30.State x30.User x30.Name x30.Ns x30.Env x30.Fds x30.Cwd x30.Notes x30.Status x29 x30.Alone))).length]),(2,some (.p (some 13) (List.map zE2 (List.set x1.L (Int.toNat x22) (api_Proc.mk x30.Id x30.Parent x30.State x30.User x30.Name x30.Ns x30.Env x30.Fds x30.Cwd x30.Notes x30.Status x29 x30.Alone)))))],nx := 3 }) (rg [hE,hE,hE,hE,hE,hE,hN .rAt,hE,hN (.tko (gA7 x28)),hE,hE,hE,hE,hN (.appR (List.map zE1 x29)),hN .rAt,hE,hN (.set (zE2 x30) (List.map zE2 (List.set x1.L (Int.toNat x22) (api_Proc.mk x30.Id x30.Parent x30.State x30.User x30.Name x30.Ns x30.Env x30.Fds x30.Cwd x30.Notes x30.Status x29 x30.Alone))))] ({ tm := [(1,.pv (.int .i64 id)),oP 6 0,oP 8 1,(9,.pv (.int .i64 x2))],hp := [rP 0 3 gA2,rH 1 3 (gA12 x1),(2,some (.p (some 13) (List.map zE2 (List.set x1.L (Int.toNat x22) (api_Proc.mk x30.Id x30.Parent x30.State x30.User x30.Name x30.Ns x30.Env x30.Fds x30.Cwd x30.Notes x30.Status x29 x30.Alone)))))],nx := 3 }) (kc (rAtM (f := zE2) hx28) (kc (ownAt (f := zE2) hx28) (kc (show (List.map zE1 x28.Waits).length = List.length (List.map zE1 x28.Waits) from rfl) (kc (show (List.map zE1 x28.Waits) ++ List.take 1 (List.drop 0 ([.agg [.int .i64 id,.str status]] : List PV)) = (List.map zE1 x29) from (app_ob hx29 (.rfl _) (.rfl _))) (kc (show List.length (List.map zE1 x29) * 24 ≤ 140737488355328 from (by rw [List.length_map]; exact (appL_ok hx29).2.1)) (kc (show List.length (List.map zE1 x29) ≤ 9223372036854775807 from (by rw [List.length_map]; exact (appL_ok hx29).2.2)) (kc (show 0 + 1 ≤ List.length ([.agg [.int .i64 id,.str status]] : List PV) from (by simp)) (kc (rAtM (f := zE2) hx30) (kc (ownAt (f := zE2) hx30) (kc (show List.set (List.map zE2 x1.L) (0 + Int.toNat x22) (.agg [.int .i64 x30.Id,.int .i64 x30.Parent,.int .i64 x30.State,.str x30.User,.str x30.Name,.int .i64 x30.Ns,.int .i64 x30.Env,.int .i64 x30.Fds,.str x30.Cwd,.sl none (List.map PV.str x30.Notes),.str x30.Status,.sl (some 2) (List.map zE1 x29),.bool x30.Alone]) = (List.map zE2 (List.set x1.L (Int.toNat x22) (api_Proc.mk x30.Id x30.Parent x30.State x30.User x30.Name x30.Ns x30.Env x30.Fds x30.Cwd x30.Notes x30.Status x29 x30.Alone))) from (by rw [Nat.zero_add,List.map_set]; try rfl)) .nil)))))))))) (Sub.of_eq (by simp only [List.length_map,List.length_set,gA12]))) ?_
  refine x_tn ?_
  exact ⟨(List.set x1.L (Int.toNat x22) (api_Proc.mk x30.Id x30.Parent x30.State x30.User x30.Name x30.Ns x30.Env x30.Fds x30.Cwd x30.Notes x30.Status x29 x30.Alone)),h,by kernel_rfl⟩
 refine x_kw (st2 := { tm := [(1,.pv (.int .i64 id)),oP 6 0,oP 8 1,(9,.pv (.int .i64 x2))],hp := [rP 0 3 gA2,rH 1 3 (gA12 x1),(2,some (.p (some 13) (List.map zE2 x1.L)))],nx := 3 }) ({ tm := [(1,.pv (.int .i64 id)),oP 6 0,oP 8 1,(9,.pv (.int .i64 x2))],hp := [rP 0 3 gA2,rH 1 3 (gA12 x1),(2,some (.p (some 13) (List.map zE2 x1.L) [(9,none),(11,none)]))],nx := 3 }) (by kernel_rfl) ((Sub.keep (ks := [1,6,8,9]) (st := ⟨[(1,.pv (.int .i64 id)),oP 6 0,oP 8 1,(9,.pv (.int .i64 x2))],(2,some (.p (some 13) (List.map zE2 x1.L))) :: [rP 0 3 gA2,rH 1 3 (gA12 x1),(2,some (.p (some 13) (List.map zE2 x1.L) [(9,none),(11,none)]))],3⟩) (st' := { tm := [(1,.pv (.int .i64 id)),oP 6 0,oP 8 1,(9,.pv (.int .i64 x2))],hp := [rP 0 3 gA2,rH 1 3 (gA12 x1),(2,some (.p (some 13) (List.map zE2 x1.L)))],nx := 3 }) (by kernel_rfl)).trans (Sub.dropTk (st := { tm := [(1,.pv (.int .i64 id)),oP 6 0,oP 8 1,(9,.pv (.int .i64 x2))],hp := [rP 0 3 gA2,rH 1 3 (gA12 x1),(2,some (.p (some 13) (List.map zE2 x1.L) [(9,none),(11,none)]))],nx := 3 }) 2 (tk := [(9,none),(11,none)]) (tk' := []) rfl (by simp))) ?_
 refine x_skip (x_tn ?_)
 exact ⟨x1.L,h,by kernel_rfl⟩
theorem c29 {p : api_Procs} {user : Str} {id : Int} {line : Str} {r : (api_Procs × Int)} (h : procfs_Control p user id line = some r) : CallOK Tryd.prog 29 [zE3 p,.str user,.int .i64 id,.str line] (.tup [(gA1 r.1),.int .i64 r.2]) false := by
 apply ok29
 unfold procfs_Control at h
 refine x_rg (rgn [hE,hE,hE] (⟨[(1,pS user),(2,pI id),(3,pS line),oP 4 0,oP 8 1],[rP 0 3 (zE3 p),rP 1 3 gA2],2⟩)) ?_
 obtain ⟨x1,hx1,h⟩ := bind_some h
 refine x_rg (rg0 [hE,hE,hN (.cal [] (.tup [(gA3 x1.1),.bool x1.2]) true),hE,hE,hE,hE,hE,hE] (⟨[(1,pS user),(2,pI id),(3,pS line),oP 4 0,oP 8 1,oP 10 2,(11,pB x1.2)],[rP 0 3 (zE3 p),rP 1 3 gA2,rH 2 13 (gA5 x1.1 3 4),(3,rL none PV.str x1.1.Notes),(4,rL (some 2) zE1 x1.1.Waits)],5⟩) (kc (c55 hx1) .nil)) ?_
 refine x_seq ?_
 refine x_rg (rgn [hE,hE] (⟨[(1,pS user),(2,pI id),(3,pS line),oP 4 0,oP 8 1,oP 10 2,(22,pB (!x1.2))],[rP 0 3 (zE3 p),rP 1 3 gA2,rH 2 13 (gA5 x1.1 3 4),(3,rL none PV.str x1.1.Notes),(4,rL (some 2) zE1 x1.1.Waits)],5⟩)) ?_
 refine x_if h rfl (fun hc2 h => ?_) (fun hc2 h => ?_)
 ·obtain ⟨x3,hx3,h⟩ := bind_some h
  refine x_rg (rg0 [hE,hN (.cal [] (gA1 x3) false),hE,hE] (⟨[oP 8 0,(9,pI 42)],[rH 0 3 (gA9 x3 1),(1,rL (some 13) zE2 x3.L)],2⟩) (kc (c46 hx3) .nil)) ?_
  refine x_toret (x_tr ?_)
  obtain rfl := sj h
  exact x_ret (.tup [(gA13 x3),.int .i64 42]) [1] [(List.map zE2 x3.L).length ≤ List.length (List.map zE2 x3.L)] (by kernel_rfl) (.cons (Nat.le_refl _) .nil) (by decide) (.tup (.cons (.agg (.cons (.refl _) (.cons (.refl _) (.cons (.of_eq (by rw [List.take_length])) .nil)))) (.cons (.refl _) .nil))) (fun h => nomatch h)
 refine x_kk (x_skip (x_tn (x_seq ?_)))
 refine x_rg (rgn [hE,hE,hE,hE] (⟨[(2,pI id),(3,pS line),oP 4 0,oP 8 1,(28,pB (!decide (x1.1.User = user)))],[rP 0 3 (zE3 p),rP 1 3 gA2],2⟩)) ?_
 refine x_if h rfl (fun hc4 h => ?_) (fun hc4 h => ?_)
 ·obtain ⟨x5,hx5,h⟩ := bind_some h
  refine x_rg (rg0 [hE,hN (.cal [] (gA1 x5) false),hE,hE] (⟨[oP 8 0,(9,pI 11)],[rH 0 3 (gA9 x5 1),(1,rL (some 13) zE2 x5.L)],2⟩) (kc (c46 hx5) .nil)) ?_
  refine x_toret (x_tr ?_)
  obtain rfl := sj h
  exact x_ret (.tup [(gA13 x5),.int .i64 11]) [1] [(List.map zE2 x5.L).length ≤ List.length (List.map zE2 x5.L)] (by kernel_rfl) (.cons (Nat.le_refl _) .nil) (by decide) (.tup (.cons (.agg (.cons (.refl _) (.cons (.refl _) (.cons (.of_eq (by rw [List.take_length])) .nil)))) (.cons (.refl _) .nil))) (fun h => nomatch h)
 refine x_kk (x_skip (x_tn ?_))
 obtain ⟨x6,hx6,h⟩ := bind_some h
 refine x_rg (rg0 [hE,hN (.cal [] (.usl none (List.map PV.str x6)) true),hE] (⟨[(2,pI id),oP 4 0,oP 8 1,(12,oL 2 PV.str x6)],[rP 0 3 (zE3 p),rP 1 3 gA2,(2,rL none PV.str x6)],3⟩) (kc (c56 hx6) .nil)) ?_
 refine x_seq ?_
 refine x_rg (rg0 [hE,hN (.len (List.length x6 : Int)),hE] (⟨[(2,pI id),oP 4 0,oP 8 1,(12,oL 2 PV.str x6),(35,pB (!decide ((List.length x6 : Int) = 1)))],[rP 0 3 (zE3 p),rP 1 3 gA2,(2,rL none PV.str x6)],3⟩) (kc (lenM PV.str x6) .nil)) ?_
 refine x_if h rfl (fun hc7 h => ?_) (fun hc7 h => ?_)
 ·obtain ⟨x8,hx8,h⟩ := bind_some h
  refine x_rg (rg0 [hE,hN (.cal [] (gA1 x8) false),hE,hE] (⟨[oP 8 0,(9,pI 54)],[rH 0 3 (gA9 x8 1),(1,rL (some 13) zE2 x8.L)],2⟩) (kc (c46 hx8) .nil)) ?_
  refine x_toret (x_tr ?_)
  obtain rfl := sj h
  exact x_ret (.tup [(gA13 x8),.int .i64 54]) [1] [(List.map zE2 x8.L).length ≤ List.length (List.map zE2 x8.L)] (by kernel_rfl) (.cons (Nat.le_refl _) .nil) (by decide) (.tup (.cons (.agg (.cons (.refl _) (.cons (.refl _) (.cons (.of_eq (by rw [List.take_length])) .nil)))) (.cons (.refl _) .nil))) (fun h => nomatch h)
 refine x_kk (x_skip (x_tn ?_))
 obtain ⟨x9,hx9,h⟩ := bind_some h
 refine x_rg (rg0 [hE,hN (.cal [] (gA1 x9) false),hE,hE,hE] (⟨[(2,pI id),oP 4 0,oP 8 1,(12,oL 2 PV.str x6),oP 13 3,(14,pI 54)],[rP 0 3 (zE3 p),rP 1 3 gA2,(2,rL none PV.str x6),rH 3 3 (gA9 x9 4),(4,rL (some 13) zE2 x9.L)],5⟩) (kc (c46 hx9) .nil)) ?_
 refine x_join (τ := (Int × Int × Int × (List api_Proc))) (fun t => procfs_Control_K10 p t.1 t.2.1 t.2.2.1 t.2.2.2 = some r) (fun t => { tm := [oP 4 0,oP 8 1,oP 13 2,(14,.pv (.int .i64 t.1))],hp := [rP 0 3 (zE3 p),rP 1 3 gA2,rH 2 3 (.agg [.pv (.int .i64 t.2.1),.pv (.int .i64 t.2.2.1),.osl 3 0 (List.map zE2 t.2.2.2).length]),(3,some (.p (some 13) (List.map zE2 t.2.2.2)))],nx := 4 }) ?_ ?_
 ·rintro ⟨p11,p12,p13,p14⟩ h
  replace h : procfs_Control_K10 p p11 p12 p13 p14 = some r := h
  unfold procfs_Control_K10 at h
  refine x_seq ?_
  refine x_rg (rgn [hE,hE] (⟨[oP 4 0,oP 8 1,oP 13 2,(14,pI p11),(68,pB (!decide (p11 = 0)))],[rP 0 3 (zE3 p),rP 1 3 gA2,rH 2 3 (.agg [pI p12,pI p13,oL 3 zE2 p14]),(3,rL (some 13) zE2 p14)],4⟩)) ?_
  refine x_if h rfl (fun hc15 h => ?_) (fun hc15 h => ?_)
  ·obtain ⟨x16,hx16,h⟩ := bind_some h
   refine x_rg (rg0 [hE,hN (.cal [] (gA1 x16) false),hE,hE,hE] (⟨[oP 8 0,(9,pI p11)],[rH 0 3 (gA9 x16 1),(1,rL (some 13) zE2 x16.L)],2⟩) (kc (c46 hx16) .nil)) ?_
   refine x_toret (x_tr ?_)
   obtain rfl := sj h
   exact x_ret (.tup [(gA13 x16),.int .i64 p11]) [1] [(List.map zE2 x16.L).length ≤ List.length (List.map zE2 x16.L)] (by kernel_rfl) (.cons (Nat.le_refl _) .nil) (by decide) (.tup (.cons (.agg (.cons (.refl _) (.cons (.refl _) (.cons (.of_eq (by rw [List.take_length])) .nil)))) (.cons (.refl _) .nil))) (fun h => nomatch h)
  refine x_kk (x_skip (x_tn ?_))
  refine x_rg (rgn [hE,hE,hE] (⟨[oP 8 0,(9,pI 0)],[rH 0 3 (.agg [pI p12,pI p13,oL 1 zE2 p14]),(1,rL (some 13) zE2 p14)],2⟩)) ?_
  refine x_toret ?_
  obtain rfl := sj h
  exact x_ret (.tup [.agg [.int .i64 p12,.int .i64 p13,.usl (some 13) (List.take (List.map zE2 p14).length (List.map zE2 p14))],.int .i64 0]) [1] [(List.map zE2 p14).length ≤ List.length (List.map zE2 p14)] (by kernel_rfl) (.cons (Nat.le_refl _) .nil) (by decide) (.tup (.cons (.agg (.cons (.refl _) (.cons (.refl _) (.cons (.of_eq (by rw [List.take_length])) .nil)))) (.cons (.refl _) .nil))) (fun h => nomatch h)
 obtain ⟨x17,hx17,h⟩ := bind_some h
 refine x_rg (rg0 [hE,hN .rAt,hN (.ld (.str x17))] (⟨[(2,pI id),oP 4 0,oP 8 1,oP 13 2,(14,pI 54),(42,pS x17)],[rP 0 3 (zE3 p),rP 1 3 gA2,rH 2 3 (gA9 x9 3),(3,rL (some 13) zE2 x9.L)],4⟩) (kc (rAtM (f := PV.str) hx17) (kc (ownAt (f := PV.str) hx17) .nil))) ?_
 refine x_block ?_
 refine x_rg (rgn [hE,hE] (⟨[(2,pI id),oP 4 0,oP 8 1,oP 13 2,(14,pI 54),(42,pS x17),(43,pB (decide (x17 = [115,116,111,112])))],[rP 0 3 (zE3 p),rP 1 3 gA2,rH 2 3 (gA9 x9 3),(3,rL (some 13) zE2 x9.L)],4⟩)) ?_
 refine x_if h rfl (fun hc18 h => ?_) (fun hc18 h => ?_)
 ·obtain ⟨x19,hx19,h⟩ := bind_some h
  refine x_rgt (st2 := { tm := [oP 4 0,oP 8 1,oP 13 2,(14,.pv (.int .i64 x19.2))],hp := [rP 0 3 (zE3 p),rP 1 3 gA2,rH 2 3 (gA14 x19.1),(3,some (.p (some 13) (List.map zE2 x19.1.L)))],nx := 4 }) (rg [hE,hE,hN (.cal [] (.tup [(gA8 x19.1),.int .i64 x19.2]) false),hE,hE,hE,hE,hE] ({ tm := [oP 4 0,oP 8 1,oP 13 2,(14,.pv (.int .i64 x19.2))],hp := [rP 0 3 (zE3 p),rP 1 3 gA2,rH 2 3 (gA14 x19.1),(3,some (.p (some 13) (List.map zE2 x19.1.L) [(9,none),(11,none)]))],nx := 4 }) (kc (c57 hx19) .nil) ((Sub.keep (ks := [4,8,13,14]) (st := ⟨[oP 4 0,oP 8 1,oP 13 2,(14,.pv (.int .i64 x19.2))],(3,some (.p (some 13) (List.map zE2 x19.1.L))) :: [rP 0 3 (zE3 p),rP 1 3 gA2,rH 2 3 (gA14 x19.1),(3,some (.p (some 13) (List.map zE2 x19.1.L) [(9,none),(11,none)]))],4⟩) (st' := { tm := [oP 4 0,oP 8 1,oP 13 2,(14,.pv (.int .i64 x19.2))],hp := [rP 0 3 (zE3 p),rP 1 3 gA2,rH 2 3 (gA14 x19.1),(3,some (.p (some 13) (List.map zE2 x19.1.L)))],nx := 4 }) (by kernel_rfl)).trans (Sub.dropTk (st := { tm := [oP 4 0,oP 8 1,oP 13 2,(14,.pv (.int .i64 x19.2))],hp := [rP 0 3 (zE3 p),rP 1 3 gA2,rH 2 3 (gA14 x19.1),(3,some (.p (some 13) (List.map zE2 x19.1.L) [(9,none),(11,none)]))],nx := 4 }) 3 (tk := [(9,none),(11,none)]) (tk' := []) rfl (by simp)))) ?_
  refine x_bn (x_tn ?_)
  exact ⟨(x19.2,x19.1.Next,x19.1.Group,x19.1.L),h,by kernel_rfl⟩
 refine x_rg (rgn [hE,hE] (⟨[(2,pI id),oP 4 0,oP 8 1,oP 13 2,(14,pI 54),(42,pS x17),(51,pB (decide (x17 = [115,116,97,114,116])))],[rP 0 3 (zE3 p),rP 1 3 gA2,rH 2 3 (gA9 x9 3),(3,rL (some 13) zE2 x9.L)],4⟩)) ?_
 refine x_if h rfl (fun hc20 h => ?_) (fun hc20 h => ?_)
 ·obtain ⟨x21,hx21,h⟩ := bind_some h
  refine x_rgt (st2 := { tm := [oP 4 0,oP 8 1,oP 13 2,(14,.pv (.int .i64 x21.2))],hp := [rP 0 3 (zE3 p),rP 1 3 gA2,rH 2 3 (gA14 x21.1),(3,some (.p (some 13) (List.map zE2 x21.1.L)))],nx := 4 }) (rg [hE,hE,hN (.cal [] (.tup [(gA8 x21.1),.int .i64 x21.2]) false),hE,hE,hE,hE,hE] ({ tm := [oP 4 0,oP 8 1,oP 13 2,(14,.pv (.int .i64 x21.2))],hp := [rP 0 3 (zE3 p),rP 1 3 gA2,rH 2 3 (gA14 x21.1),(3,some (.p (some 13) (List.map zE2 x21.1.L) [(9,none),(11,none)]))],nx := 4 }) (kc (c57 hx21) .nil) ((Sub.keep (ks := [4,8,13,14]) (st := ⟨[oP 4 0,oP 8 1,oP 13 2,(14,.pv (.int .i64 x21.2))],(3,some (.p (some 13) (List.map zE2 x21.1.L))) :: [rP 0 3 (zE3 p),rP 1 3 gA2,rH 2 3 (gA14 x21.1),(3,some (.p (some 13) (List.map zE2 x21.1.L) [(9,none),(11,none)]))],4⟩) (st' := { tm := [oP 4 0,oP 8 1,oP 13 2,(14,.pv (.int .i64 x21.2))],hp := [rP 0 3 (zE3 p),rP 1 3 gA2,rH 2 3 (gA14 x21.1),(3,some (.p (some 13) (List.map zE2 x21.1.L)))],nx := 4 }) (by kernel_rfl)).trans (Sub.dropTk (st := { tm := [oP 4 0,oP 8 1,oP 13 2,(14,.pv (.int .i64 x21.2))],hp := [rP 0 3 (zE3 p),rP 1 3 gA2,rH 2 3 (gA14 x21.1),(3,some (.p (some 13) (List.map zE2 x21.1.L) [(9,none),(11,none)]))],nx := 4 }) 3 (tk := [(9,none),(11,none)]) (tk' := []) rfl (by simp)))) ?_
  refine x_bn (x_tn ?_)
  exact ⟨(x21.2,x21.1.Next,x21.1.Group,x21.1.L),h,by kernel_rfl⟩
 refine x_rg (rgn [hE,hE] (⟨[(2,pI id),oP 4 0,oP 8 1,oP 13 2,(14,pI 54),(59,pB (decide (x17 = [107,105,108,108])))],[rP 0 3 (zE3 p),rP 1 3 gA2,rH 2 3 (gA9 x9 3),(3,rL (some 13) zE2 x9.L)],4⟩)) ?_
 refine x_if h rfl (fun hc22 h => ?_) (fun hc22 h => ?_)
 ·obtain ⟨x23,hx23,h⟩ := bind_some h
  refine x_rgt (rg0 [hE,hE,hN (.cal [] (.tup [(gA1 x23.1),.int .i64 x23.2]) false),hE,hE,hE,hE,hE] (⟨[oP 4 0,oP 8 1,oP 13 2,(14,pI x23.2)],[rP 0 3 (zE3 p),rP 1 3 gA2,rH 2 3 (gA9 x23.1 3),(3,rL (some 13) zE2 x23.1.L)],4⟩) (kc (c58 hx23) .nil)) ?_
  refine x_bn (x_tn ?_)
  exact ⟨(x23.2,x23.1.Next,x23.1.Group,x23.1.L),h,by kernel_rfl⟩
 refine kw0 (⟨[oP 4 0,oP 8 1,oP 13 2,(14,pI 54)],[rP 0 3 (zE3 p),rP 1 3 gA2,rH 2 3 (gA9 x9 3),(3,rL (some 13) zE2 x9.L)],4⟩) ?_
 refine x_skip (x_bn (x_tn ?_))
 exact ⟨(54,x9.Next,x9.Group,x9.L),h,by kernel_rfl⟩
theorem c31 {p : api_Procs} {id : Int} {r : (api_Proc × Int × Bool)} (h : procfs_file p id = some r) : CallOK Tryd.prog 31 [zE3 p,.int .i64 id] (.tup [(gA3 r.1),.int .i64 r.2.1,.bool r.2.2]) true := by
 apply ok31
 unfold procfs_file at h
 refine x_rg (rgn [hE,hE,hE,hE] (⟨[(1,pI id),oP 2 0,oP 4 1],[rP 0 3 (zE3 p),rP 1 13 gA4],2⟩)) ?_
 refine x_seq ?_
 refine x_rg (rgn [hE,hE] (⟨[(1,pI id),oP 2 0,oP 4 1,(10,pB (decide (id = 1)))],[rP 0 3 (zE3 p),rP 1 13 gA4],2⟩)) ?_
 refine x_if h rfl (fun hc1 h => ?_) (fun hc1 h => ?_)
 ·refine x_rg (rgn [hE,hE,hE,hE] (⟨[oP 4 0,(5,pI 0),(6,pB true)],[rP 0 13 gA4],1⟩)) ?_
  refine x_toret (x_tr ?_)
  obtain rfl := sj h
  exact ret0 (.tup [gA4,.int .i64 0,.bool true]) (.tup (.cons (.refl _) (.cons (.refl _) (.cons (.refl _) .nil)))) (fun _ => tup_ns (.cons (agg_ns (.cons rfl (.cons rfl (.cons rfl (.cons rfl (.cons rfl (.cons rfl (.cons rfl (.cons rfl (.cons rfl (.cons (usl_nsU (sh := none) (fun _ => rfl)) (.cons rfl (.cons (usl_nsU (sh := (some 2)) (fun _ => rfl)) (.cons rfl .nil)))))))))))))) (.cons rfl (.cons rfl .nil))))
 refine x_kk (x_skip (x_tn (x_seq ?_)))
 refine x_rgB (fun b_ => (⟨[(1,pI id),oP 2 0,oP 4 1,(18,pB b_)],[rP 0 3 (zE3 p),rP 1 13 gA4],2⟩ : VSt)) ((decide (id < 16)) || (decide (5 < (Int.tmod id 16)))) ?_ ?_
 ·rcases bq (decide (id < 16)) with hg2 | hg2
  ·exact rb [hE,hE,hE,hS,hS,hS,hN (.pk true)] true (hk4 hg2 .nil) (by simp only [hg2,bs,reduceIte])
  exact rb [hE,hE,hE,hY,hY,hY,hN (.pk false)] (decide (5 < (Int.tmod id 16))) (hk4 hg2 .nil) (by simp only [hg2,bs,reduceIte])
 refine x_if h rfl (fun hc4 h => ?_) (fun hc4 h => ?_)
 ·refine x_rg (rgn [hE,hE,hE,hE] (⟨[oP 4 0,(5,pI 0),(6,pB false)],[rP 0 13 gA4],1⟩)) ?_
  refine x_toret (x_tr ?_)
  obtain rfl := sj h
  exact ret0 (.tup [gA4,.int .i64 0,.bool false]) (.tup (.cons (.refl _) (.cons (.refl _) (.cons (.refl _) .nil)))) (fun _ => tup_ns (.cons (agg_ns (.cons rfl (.cons rfl (.cons rfl (.cons rfl (.cons rfl (.cons rfl (.cons rfl (.cons rfl (.cons rfl (.cons (usl_nsU (sh := none) (fun _ => rfl)) (.cons rfl (.cons (usl_nsU (sh := (some 2)) (fun _ => rfl)) (.cons rfl .nil)))))))))))))) (.cons rfl (.cons rfl .nil))))
 refine x_kk (x_skip (x_tn ?_))
 obtain ⟨x5,hx5,h⟩ := bind_some h
 refine x_rg (rg0 [hE,hE,hE,hN (.cal [] (.tup [(gA3 x5.1),.bool x5.2]) true),hE,hE,hE,hE,hE,hE] (⟨[(1,pI id),oP 4 0,oP 7 1,(8,pB x5.2)],[rP 0 13 gA4,rH 1 13 (gA5 x5.1 2 3),(2,rL none PV.str x5.1.Notes),(3,rL (some 2) zE1 x5.1.Waits)],4⟩) (kc (c55 hx5) .nil)) ?_
 refine x_rg (rgn [hE,hE,hE,hE,hE,hE,hE] (⟨[oP 4 0,(5,pI (Int.tmod id 16)),(6,pB x5.2)],[rH 0 13 (gA5 x5.1 1 2),(1,rL none PV.str x5.1.Notes),(2,rL (some 2) zE1 x5.1.Waits)],3⟩)) ?_
 refine x_toret ?_
 obtain rfl := sj h
 exact x_ret (.tup [(gA6 x5.1),.int .i64 (Int.tmod id 16),.bool x5.2]) [1,2] [(List.map PV.str x5.1.Notes).length ≤ List.length (List.map PV.str x5.1.Notes),(List.map zE1 x5.1.Waits).length ≤ List.length (List.map zE1 x5.1.Waits)] (by kernel_rfl) (.cons (Nat.le_refl _) (.cons (Nat.le_refl _) .nil)) (by decide) (.tup (.cons (.agg (.cons (.refl _) (.cons (.refl _) (.cons (.refl _) (.cons (.refl _) (.cons (.refl _) (.cons (.refl _) (.cons (.refl _) (.cons (.refl _) (.cons (.refl _) (.cons (.of_eq (by rw [List.take_length])) (.cons (.refl _) (.cons (.of_eq (by rw [List.take_length])) (.cons (.refl _) .nil)))))))))))))) (.cons (.refl _) (.cons (.refl _) .nil)))) (fun _ => tup_ns (.cons (agg_ns (.cons rfl (.cons rfl (.cons rfl (.cons rfl (.cons rfl (.cons rfl (.cons rfl (.cons rfl (.cons rfl (.cons (usl_nsU (sh := none) (fun _ => rfl)) (.cons rfl (.cons (usl_nsU (sh := (some 2)) (fun _ => rfl)) (.cons rfl .nil)))))))))))))) (.cons rfl (.cons rfl .nil))))
theorem c85 {s_ : Str} {suffix : Str} {r : Bool} (h : stringslite_HasSuffix s_ suffix = some r) : CallOK Tryd.prog 85 [.str s_,.str suffix] (.bool r) true := by
 apply ok85
 unfold stringslite_HasSuffix at h
 refine x_rg (rgn [hE] (⟨[(0,pS s_),(1,pS suffix)],[],0⟩)) ?_
 obtain ⟨t3,ht,h⟩ := bind_some h
 refine x_rgB (fun b_ => (⟨[(4,pB b_)],[],0⟩ : VSt)) t3 ?_ ?_
 ·rcases bq (decide ((List.length suffix : Int) ≤ (List.length s_ : Int))) with hg1 | hg1
  ·replace ht := ite_t ht hg1
   obtain ⟨x2,hx2,ht⟩ := bind_some ht
   obtain rfl := sj ht
   exact rb [hE,hE,hE,hE,hE,hE,hY,hY,hY,hY,hY,hY,(.y,(.cutS x2)),hY,hY,hN (.pk true),hE] (decide (x2 = suffix)) (kc hg1 (hk6 hg1 (kc hx2 (hk3 hg1 .nil)))) rfl
  replace ht := ite_f ht hg1
  obtain rfl := sj ht
  exact rb [hE,hE,hE,hE,hE,hE,hS,hS,hS,hS,hS,hS,hS,hS,hS,hN (.pk false),hE] false (hk2 hg1 (hk8 hg1 .nil)) rfl
 clear ht
 refine x_toret ?_
 obtain rfl := sj h
 exact ret0 (.bool t3) (.refl _) (fun _ => rfl)
theorem c80 {s_ : Str} {suffix : Str} {r : Str} (h : stringslite_TrimSuffix s_ suffix = some r) : CallOK Tryd.prog 80 [.str s_,.str suffix] (.str r) true := by
 apply ok80
 unfold stringslite_TrimSuffix at h
 refine x_rg (rgn [hE] (⟨[(0,pS s_),(1,pS suffix)],[],0⟩)) ?_
 refine x_seq ?_
 obtain ⟨x1,hx1,h⟩ := bind_some h
 refine x_rg (rg0 [hE,hE,hN (.cal [] (.bool x1) true)] (⟨[(0,pS s_),(1,pS suffix),(7,pB x1)],[],0⟩) (kc (c85 hx1) .nil)) ?_
 refine x_if h rfl (fun hc2 h => ?_) (fun hc2 h => ?_)
 ·obtain ⟨x3,hx3,h⟩ := bind_some h
  refine x_rg (rg0 [hE,hE,hE,hE,hE,hE,hN (.cutS x3),hE] (⟨[(4,pS x3)],[],0⟩) (kc hx3 .nil)) ?_
  refine x_toret (x_tr ?_)
  obtain rfl := sj h
  exact ret0 (.str x3) (.refl _) (fun _ => rfl)
 refine x_kk (x_skip (x_tn ?_))
 refine x_rg (rgn [hE,hE] (⟨[(4,pS s_)],[],0⟩)) ?_
 refine x_toret ?_
 obtain rfl := sj h
 exact ret0 (.str s_) (.refl _) (fun _ => rfl)
theorem c59 {s_ : Str} {suffix : Str} {r : Str} (h : strings_TrimSuffix s_ suffix = some r) : CallOK Tryd.prog 59 [.str s_,.str suffix] (.str r) true := by
 apply ok59
 unfold strings_TrimSuffix at h
 refine x_rg (rgn [hE] (⟨[(0,pS s_),(1,pS suffix)],[],0⟩)) ?_
 obtain ⟨x1,hx1,h⟩ := bind_some h
 refine x_rg (rg0 [hE,hE,hN (.cal [] (.str x1) true),hE] (⟨[(4,pS x1)],[],0⟩) (kc (c80 hx1) .nil)) ?_
 refine x_toret ?_
 obtain rfl := sj h
 exact ret0 (.str x1) (.refl _) (fun _ => rfl)
theorem c60 {p : api_Procs} {id : Int} {note : Str} {r : (api_Procs × Int)} (h : proc_Note p id note = some r) : CallOK Tryd.prog 60 [zE3 p,.int .i64 id,.str note] (.tup [(gA1 r.1),.int .i64 r.2]) false := by
 apply ok60
 unfold proc_Note at h
 refine x_rg (rgn [hE,hE,hE] (⟨[(1,pI id),(2,pS note),oP 3 0,oP 6 1],[rP 0 3 (zE3 p),rP 1 3 gA2],2⟩)) ?_
 obtain ⟨x1,hx1,h⟩ := bind_some h
 refine x_rg (rg0 [hE,hN (.cal [] (gA8 x1) false),hE,hE] (⟨[(1,pI id),(2,pS note),oP 6 0,oP 8 1],[rP 0 3 gA2,rH 1 3 (gA9 x1 2),(2,some (.p (some 13) (List.map zE2 x1.L) [(9,none),(11,none)]))],3⟩) (kc (c70 hx1) .nil)) ?_
 obtain ⟨x2,hx2,h⟩ := bind_some h
 refine x_rg (rg0 [hE,hE,hN (.call [] [(gA10 x1),.int .i64 id] (.int .i64 x2) true),hE] (⟨[(2,pS note),oP 6 0,oP 8 1,(9,pI x2)],[rP 0 3 gA2,rH 1 3 (gA9 x1 2),(2,some (.p (some 13) (List.map zE2 x1.L) [(9,none),(11,none)]))],3⟩) (kc (show LesA [(gA11 x1),.int .i64 id] [(gA10 x1),.int .i64 id] from (.cons (.agg (.cons (.refl _) (.cons (.refl _) (.cons (.of_eq (by rw [List.drop_zero,List.take_length])) .nil)))) (.cons (.refl _) .nil))) (kc (c71 hx2) (kc (le0 (List.map zE2 x1.L)) .nil)))) ?_
 refine x_seq (x_block ?_)
 refine x_rg (rgn [hE,hE,hE] (⟨[(2,pS note),oP 6 0,oP 8 1,(9,pI x2),(15,pB (decide (x2 < 0)))],[rP 0 3 gA2,rH 1 3 (gA9 x1 2),(2,some (.p (some 13) (List.map zE2 x1.L) [(9,none),(11,none)]))],3⟩)) ?_
 refine x_if h rfl (fun hc3 h => ?_) (fun hc3 h => ?_)
 ·refine x_rg (rgn [hE,hE,hE] (⟨[oP 6 0,(7,pI 42)],[rH 0 3 (gA9 x1 1),(1,some (.p (some 13) (List.map zE2 x1.L) [(9,none),(11,none)]))],2⟩)) ?_
  refine x_toret (x_br (x_tr ?_))
  obtain rfl := sj h
  exact x_ret (.tup [(gA8 x1),.int .i64 42]) [1] [(List.map zE2 x1.L).length = List.length (List.map zE2 x1.L)] (by kernel_rfl) (.cons rfl .nil) (by decide) (.tup (.cons (.agg (.cons (.refl _) (.cons (.refl _) (.cons (.dslU _ _ _) .nil)))) (.cons (.refl _) .nil))) (fun h => nomatch h)
 obtain ⟨x4,hx4,h⟩ := bind_some h
 refine x_rg (rg0 [hE,hN (.cal [] (.bool x4) true),hE,hE] (⟨[(2,pS note),oP 6 0,oP 8 1,(9,pI x2),(19,pB (!x4))],[rP 0 3 gA2,rH 1 3 (gA9 x1 2),(2,some (.p (some 13) (List.map zE2 x1.L) [(9,none),(11,none)]))],3⟩) (kc (c78 hx4) .nil)) ?_
 refine x_if h rfl (fun hc5 h => ?_) (fun hc5 h => ?_)
 ·refine x_rg (rgn [hE,hE,hE] (⟨[oP 6 0,(7,pI 4)],[rH 0 3 (gA9 x1 1),(1,some (.p (some 13) (List.map zE2 x1.L) [(9,none),(11,none)]))],2⟩)) ?_
  refine x_toret (x_br (x_tr ?_))
  obtain rfl := sj h
  exact x_ret (.tup [(gA8 x1),.int .i64 4]) [1] [(List.map zE2 x1.L).length = List.length (List.map zE2 x1.L)] (by kernel_rfl) (.cons rfl .nil) (by decide) (.tup (.cons (.agg (.cons (.refl _) (.cons (.refl _) (.cons (.dslU _ _ _) .nil)))) (.cons (.refl _) .nil))) (fun h => nomatch h)
 obtain ⟨x6,hx6,h⟩ := bind_some h
 refine x_rg (rg0 [hE,hE,hE,hN .rAt,hE,hN (.ld (zE2 x6)),hN (.len (List.length x6.Notes : Int)),hE,hE] (⟨[(2,pS note),oP 6 0,oP 8 1,(9,pI x2),(24,pB (decide (8 ≤ (List.length x6.Notes : Int))))],[rP 0 3 gA2,rH 1 3 (gA9 x1 2),(2,some (.p (some 13) (List.map zE2 x1.L) [(9,none),(11,none)]))],3⟩) (kc (rAtM (f := zE2) hx6) (kc (ownAt (f := zE2) hx6) (kc (lenM PV.str x6.Notes) .nil)))) ?_
 refine x_if h rfl (fun hc7 h => ?_) (fun hc7 h => ?_)
 ·refine x_rg (rgn [hE,hE,hE] (⟨[oP 6 0,(7,pI 22)],[rH 0 3 (gA9 x1 1),(1,some (.p (some 13) (List.map zE2 x1.L) [(9,none),(11,none)]))],2⟩)) ?_
  refine x_toret (x_br (x_tr ?_))
  obtain rfl := sj h
  exact x_ret (.tup [(gA8 x1),.int .i64 22]) [1] [(List.map zE2 x1.L).length = List.length (List.map zE2 x1.L)] (by kernel_rfl) (.cons rfl .nil) (by decide) (.tup (.cons (.agg (.cons (.refl _) (.cons (.refl _) (.cons (.dslU _ _ _) .nil)))) (.cons (.refl _) .nil))) (fun h => nomatch h)
 refine x_kk (x_skip (x_bn (x_tn ?_)))
 obtain ⟨x8,hx8,h⟩ := bind_some h
 obtain ⟨x9,hx9,h⟩ := bind_some h
 obtain ⟨x10,hx10,h⟩ := bind_some h
 refine x_rg (st2 := { tm := [oP 6 0,oP 8 1],hp := [rP 0 3 gA2,rH 1 3 (.agg [.pv (.int .i64 x1.Next),.pv (.int .i64 x1.Group),.osl 2 0 (List.map zE2 (List.set x1.L (Int.toNat x2) (api_Proc.mk x10.Id x10.Parent x10.State x10.User x10.Name x10.Ns x10.Env x10.Fds x10.Cwd x9 x10.Status x10.Waits x10.Alone))).length]),(2,some (.p (some 13) (List.map zE2 (List.set x1.L (Int.toNat x2) (api_Proc.mk x10.Id x10.Parent x10.State x10.User x10.Name x10.Ns x10.Env x10.Fds x10.Cwd x9 x10.Status x10.Waits x10.Alone)))))],nx := 3 }) (rg [hE,hE,hE,hE,hE,hE,hN .rAt,hE,hN (.tko (gA7 x8)),hE,hE,hN (.appR (List.map PV.str x9)),hN .rAt,hE,hN (.set (zE2 x10) (List.map zE2 (List.set x1.L (Int.toNat x2) (api_Proc.mk x10.Id x10.Parent x10.State x10.User x10.Name x10.Ns x10.Env x10.Fds x10.Cwd x9 x10.Status x10.Waits x10.Alone))))] ({ tm := [oP 6 0,oP 8 1],hp := [rP 0 3 gA2,rH 1 3 (gA12 x1),(2,some (.p (some 13) (List.map zE2 (List.set x1.L (Int.toNat x2) (api_Proc.mk x10.Id x10.Parent x10.State x10.User x10.Name x10.Ns x10.Env x10.Fds x10.Cwd x9 x10.Status x10.Waits x10.Alone)))))],nx := 3 }) (kc (rAtM (f := zE2) hx8) (kc (ownAt (f := zE2) hx8) (kc (show (List.map PV.str x8.Notes).length = List.length (List.map PV.str x8.Notes) from rfl) (kc (show (List.map PV.str x8.Notes) ++ List.take 1 (List.drop 0 ([.str note] : List PV)) = (List.map PV.str x9) from (app_ob hx9 (.rfl _) (.rfl _))) (kc (show List.length (List.map PV.str x9) * 16 ≤ 140737488355328 from (by rw [List.length_map]; exact (appL_ok hx9).2.1)) (kc (show List.length (List.map PV.str x9) ≤ 9223372036854775807 from (by rw [List.length_map]; exact (appL_ok hx9).2.2)) (kc (show 0 + 1 ≤ List.length ([.str note] : List PV) from (by simp)) (kc (rAtM (f := zE2) hx10) (kc (ownAt (f := zE2) hx10) (kc (show List.set (List.map zE2 x1.L) (0 + Int.toNat x2) (.agg [.int .i64 x10.Id,.int .i64 x10.Parent,.int .i64 x10.State,.str x10.User,.str x10.Name,.int .i64 x10.Ns,.int .i64 x10.Env,.int .i64 x10.Fds,.str x10.Cwd,.sl none (List.map PV.str x9),.str x10.Status,.sl (some 2) (List.map zE1 x10.Waits),.bool x10.Alone]) = (List.map zE2 (List.set x1.L (Int.toNat x2) (api_Proc.mk x10.Id x10.Parent x10.State x10.User x10.Name x10.Ns x10.Env x10.Fds x10.Cwd x9 x10.Status x10.Waits x10.Alone))) from (by rw [Nat.zero_add,List.map_set]; try rfl)) .nil)))))))))) (Sub.of_eq (by simp only [List.length_map,List.length_set,gA12]))) ?_
 refine x_rg (rgn [hE,hE,hE] (⟨[oP 6 0,(7,pI 0)],[rH 0 3 (.agg [pI x1.Next,pI x1.Group,oL 1 zE2 (List.set x1.L (Int.toNat x2) (api_Proc.mk x10.Id x10.Parent x10.State x10.User x10.Name x10.Ns x10.Env x10.Fds x10.Cwd x9 x10.Status x10.Waits x10.Alone))]),(1,rL (some 13) zE2 (List.set x1.L (Int.toNat x2) (api_Proc.mk x10.Id x10.Parent x10.State x10.User x10.Name x10.Ns x10.Env x10.Fds x10.Cwd x9 x10.Status x10.Waits x10.Alone)))],2⟩)) ?_
 refine x_toret ?_
 obtain rfl := sj h
 exact x_ret (.tup [.agg [.int .i64 x1.Next,.int .i64 x1.Group,.usl (some 13) (List.take (List.map zE2 (List.set x1.L (Int.toNat x2) (api_Proc.mk x10.Id x10.Parent x10.State x10.User x10.Name x10.Ns x10.Env x10.Fds x10.Cwd x9 x10.Status x10.Waits x10.Alone))).length (List.map zE2 (List.set x1.L (Int.toNat x2) (api_Proc.mk x10.Id x10.Parent x10.State x10.User x10.Name x10.Ns x10.Env x10.Fds x10.Cwd x9 x10.Status x10.Waits x10.Alone))))],.int .i64 0]) [1] [(List.map zE2 (List.set x1.L (Int.toNat x2) (api_Proc.mk x10.Id x10.Parent x10.State x10.User x10.Name x10.Ns x10.Env x10.Fds x10.Cwd x9 x10.Status x10.Waits x10.Alone))).length ≤ List.length (List.map zE2 (List.set x1.L (Int.toNat x2) (api_Proc.mk x10.Id x10.Parent x10.State x10.User x10.Name x10.Ns x10.Env x10.Fds x10.Cwd x9 x10.Status x10.Waits x10.Alone)))] (by kernel_rfl) (.cons (Nat.le_refl _) .nil) (by decide) (.tup (.cons (.agg (.cons (.refl _) (.cons (.refl _) (.cons (.of_eq (by rw [List.take_length])) .nil)))) (.cons (.refl _) .nil))) (fun h => nomatch h)
theorem c30 {p : api_Procs} {user : Str} {id : Int} {data : Str} {r : (api_Procs × Int × Int)} (h : procfs_Write p user id data = some r) : CallOK Tryd.prog 30 [zE3 p,.str user,.int .i64 id,.str data] (.tup [(gA1 r.1),.int .i64 r.2.1,.int .i64 r.2.2]) false := by
 apply ok30
 unfold procfs_Write at h
 refine x_rg (rgn [hE,hE,hE,hE] (⟨[(1,pS user),(2,pI id),(3,pS data),oP 4 0,oP 8 1],[rP 0 3 (zE3 p),rP 1 3 gA2],2⟩)) ?_
 obtain ⟨x1,hx1,h⟩ := bind_some h
 refine x_rg (rg0 [hE,hE,hN (.cal [] (.tup [(gA3 x1.1),.int .i64 x1.2.1,.bool x1.2.2]) true),hE,hE,hE,hE,hE,hE,hE,hE] (⟨[(1,pS user),(3,pS data),oP 4 0,oP 8 1,oP 11 2,(12,pI x1.2.1),(13,pB x1.2.2)],[rP 0 3 (zE3 p),rP 1 3 gA2,rH 2 13 (gA5 x1.1 3 4),(3,rL none PV.str x1.1.Notes),(4,rL (some 2) zE1 x1.1.Waits)],5⟩) (kc (c31 hx1) .nil)) ?_
 refine x_seq ?_
 refine x_rg (rgn [hE,hE] (⟨[(1,pS user),(3,pS data),oP 4 0,oP 8 1,oP 11 2,(12,pI x1.2.1),(25,pB (!x1.2.2))],[rP 0 3 (zE3 p),rP 1 3 gA2,rH 2 13 (gA5 x1.1 3 4),(3,rL none PV.str x1.1.Notes),(4,rL (some 2) zE1 x1.1.Waits)],5⟩)) ?_
 refine x_if h rfl (fun hc2 h => ?_) (fun hc2 h => ?_)
 ·obtain ⟨x3,hx3,h⟩ := bind_some h
  refine x_rg (rg0 [hE,hN (.cal [] (gA1 x3) false),hE,hE,hE] (⟨[oP 8 0,(9,pI 0),(10,pI 8)],[rH 0 3 (gA9 x3 1),(1,rL (some 13) zE2 x3.L)],2⟩) (kc (c46 hx3) .nil)) ?_
  refine x_toret (x_tr ?_)
  obtain rfl := sj h
  exact x_ret (.tup [(gA13 x3),.int .i64 0,.int .i64 8]) [1] [(List.map zE2 x3.L).length ≤ List.length (List.map zE2 x3.L)] (by kernel_rfl) (.cons (Nat.le_refl _) .nil) (by decide) (.tup (.cons (.agg (.cons (.refl _) (.cons (.refl _) (.cons (.of_eq (by rw [List.take_length])) .nil)))) (.cons (.refl _) (.cons (.refl _) .nil)))) (fun h => nomatch h)
 refine x_kk (x_skip (x_tn (x_seq ?_)))
 refine x_rg (rgn [hE,hE] (⟨[(1,pS user),(3,pS data),oP 4 0,oP 8 1,oP 11 2,(12,pI x1.2.1),(29,pB (decide (x1.2.1 = 0)))],[rP 0 3 (zE3 p),rP 1 3 gA2,rH 2 13 (gA5 x1.1 3 4),(3,rL none PV.str x1.1.Notes),(4,rL (some 2) zE1 x1.1.Waits)],5⟩)) ?_
 refine x_if h rfl (fun hc4 h => ?_) (fun hc4 h => ?_)
 ·obtain ⟨x5,hx5,h⟩ := bind_some h
  refine x_rg (rg0 [hE,hN (.cal [] (gA1 x5) false),hE,hE,hE] (⟨[oP 8 0,(9,pI 0),(10,pI 10)],[rH 0 3 (gA9 x5 1),(1,rL (some 13) zE2 x5.L)],2⟩) (kc (c46 hx5) .nil)) ?_
  refine x_toret (x_tr ?_)
  obtain rfl := sj h
  exact x_ret (.tup [(gA13 x5),.int .i64 0,.int .i64 10]) [1] [(List.map zE2 x5.L).length ≤ List.length (List.map zE2 x5.L)] (by kernel_rfl) (.cons (Nat.le_refl _) .nil) (by decide) (.tup (.cons (.agg (.cons (.refl _) (.cons (.refl _) (.cons (.of_eq (by rw [List.take_length])) .nil)))) (.cons (.refl _) (.cons (.refl _) .nil)))) (fun h => nomatch h)
 refine x_kk (x_skip (x_tn ?_))
 obtain ⟨x6,hx6,h⟩ := bind_some h
 refine x_rg (rg0 [hE,hN (.cal [] (.str x6) true),hE] (⟨[(1,pS user),(3,pS data),oP 4 0,oP 8 1,oP 11 2,(12,pI x1.2.1),(14,pS x6)],[rP 0 3 (zE3 p),rP 1 3 gA2,rH 2 13 (gA5 x1.1 3 4),(3,rL none PV.str x1.1.Notes),(4,rL (some 2) zE1 x1.1.Waits)],5⟩) (kc (c59 hx6) .nil)) ?_
 obtain ⟨x7,hx7,h⟩ := bind_some h
 refine x_rg (rg0 [hE,hN (.cal [] (gA1 x7) false),hE,hE,hE] (⟨[(1,pS user),(3,pS data),oP 4 0,oP 8 1,oP 11 2,(12,pI x1.2.1),(14,pS x6),oP 15 5,(16,pI 11)],[rP 0 3 (zE3 p),rP 1 3 gA2,rH 2 13 (gA5 x1.1 3 4),(3,rL none PV.str x1.1.Notes),(4,rL (some 2) zE1 x1.1.Waits),rH 5 3 (gA9 x7 6),(6,rL (some 13) zE2 x7.L)],7⟩) (kc (c46 hx7) .nil)) ?_
 refine x_join (τ := (Int × Int × Int × (List api_Proc))) (fun t => procfs_Write_K8 p data t.1 t.2.1 t.2.2.1 t.2.2.2 = some r) (fun t => { tm := [(3,.pv (.str data)),oP 4 0,oP 8 1,oP 15 2,(16,.pv (.int .i64 t.1))],hp := [rP 0 3 (zE3 p),rP 1 3 gA2,rH 2 3 (.agg [.pv (.int .i64 t.2.1),.pv (.int .i64 t.2.2.1),.osl 3 0 (List.map zE2 t.2.2.2).length]),(3,some (.p (some 13) (List.map zE2 t.2.2.2)))],nx := 4 }) ?_ ?_
 ·rintro ⟨p9,p10,p11,p12⟩ h
  replace h : procfs_Write_K8 p data p9 p10 p11 p12 = some r := h
  unfold procfs_Write_K8 at h
  refine x_seq ?_
  refine x_rg (rgn [hE,hE] (⟨[(3,pS data),oP 4 0,oP 8 1,oP 15 2,(16,pI p9),(66,pB (!decide (p9 = 0)))],[rP 0 3 (zE3 p),rP 1 3 gA2,rH 2 3 (.agg [pI p10,pI p11,oL 3 zE2 p12]),(3,rL (some 13) zE2 p12)],4⟩)) ?_
  refine x_if h rfl (fun hc13 h => ?_) (fun hc13 h => ?_)
  ·obtain ⟨x14,hx14,h⟩ := bind_some h
   refine x_rg (rg0 [hE,hN (.cal [] (gA1 x14) false),hE,hE,hE,hE] (⟨[oP 8 0,(9,pI 0),(10,pI p9)],[rH 0 3 (gA9 x14 1),(1,rL (some 13) zE2 x14.L)],2⟩) (kc (c46 hx14) .nil)) ?_
   refine x_toret (x_tr ?_)
   obtain rfl := sj h
   exact x_ret (.tup [(gA13 x14),.int .i64 0,.int .i64 p9]) [1] [(List.map zE2 x14.L).length ≤ List.length (List.map zE2 x14.L)] (by kernel_rfl) (.cons (Nat.le_refl _) .nil) (by decide) (.tup (.cons (.agg (.cons (.refl _) (.cons (.refl _) (.cons (.of_eq (by rw [List.take_length])) .nil)))) (.cons (.refl _) (.cons (.refl _) .nil)))) (fun h => nomatch h)
  refine x_kk (x_skip (x_tn ?_))
  refine x_rg (rgn [hE,hE,hE,hE,hE,hE] (⟨[oP 8 0,(9,pI (List.length data : Int)),(10,pI 0)],[rH 0 3 (.agg [pI p10,pI p11,oL 1 zE2 p12]),(1,rL (some 13) zE2 p12)],2⟩)) ?_
  refine x_toret ?_
  obtain rfl := sj h
  exact x_ret (.tup [.agg [.int .i64 p10,.int .i64 p11,.usl (some 13) (List.take (List.map zE2 p12).length (List.map zE2 p12))],.int .i64 (List.length data : Int),.int .i64 0]) [1] [(List.map zE2 p12).length ≤ List.length (List.map zE2 p12)] (by kernel_rfl) (.cons (Nat.le_refl _) .nil) (by decide) (.tup (.cons (.agg (.cons (.refl _) (.cons (.refl _) (.cons (.of_eq (by rw [List.take_length])) .nil)))) (.cons (.refl _) (.cons (.refl _) .nil)))) (fun h => nomatch h)
 refine x_block ?_
 refine x_rg (rgn [hE,hE,hE] (⟨[(1,pS user),(3,pS data),oP 4 0,oP 8 1,oP 11 2,(12,pI x1.2.1),(14,pS x6),oP 15 5,(16,pI 11),(36,pB (decide (x1.2.1 = 1)))],[rP 0 3 (zE3 p),rP 1 3 gA2,rH 2 13 (gA5 x1.1 3 4),(3,rL none PV.str x1.1.Notes),(4,rL (some 2) zE1 x1.1.Waits),rH 5 3 (gA9 x7 6),(6,rL (some 13) zE2 x7.L)],7⟩)) ?_
 refine x_if h rfl (fun hc15 h => ?_) (fun hc15 h => ?_)
 ·obtain ⟨x16,hx16,h⟩ := bind_some h
  refine x_rgt (rg0 [hE,hE,hE,hE,hE,hN (.cal [] (.tup [(gA1 x16.1),.int .i64 x16.2]) false),hE,hE,hE,hE,hE] (⟨[(3,pS data),oP 4 0,oP 8 1,oP 15 2,(16,pI x16.2)],[rP 0 3 (zE3 p),rP 1 3 gA2,rH 2 3 (gA9 x16.1 3),(3,rL (some 13) zE2 x16.1.L)],4⟩) (kc (c29 hx16) .nil)) ?_
  refine x_bn (x_tn ?_)
  exact ⟨(x16.2,x16.1.Next,x16.1.Group,x16.1.L),h,by kernel_rfl⟩
 refine x_rgB (fun b_ => (⟨[(3,pS data),oP 4 0,oP 8 1,oP 11 2,(14,pS x6),oP 15 5,(16,pI 11),(48,pB b_)],[rP 0 3 (zE3 p),rP 1 3 gA2,rH 2 13 (gA5 x1.1 3 4),(3,rL none PV.str x1.1.Notes),(4,rL (some 2) zE1 x1.1.Waits),rH 5 3 (gA9 x7 6),(6,rL (some 13) zE2 x7.L)],7⟩ : VSt)) ((decide (x1.2.1 = 3)) && (decide (x1.1.User = user))) ?_ ?_
 ·rcases bq (decide (x1.2.1 = 3)) with hg17 | hg17
  ·exact rb [hE,hE,hE,hY,hY,hY,hY,hN (.pk true),hE] (decide (x1.1.User = user)) (hk5 hg17 .nil) (by simp only [hg17,bs,reduceIte])
  exact rb [hE,hE,hE,hS,hS,hS,hS,hN (.pk false),hE] false (hk5 hg17 .nil) (by simp only [hg17,bs,reduceIte])
 refine x_if h rfl (fun hc19 h => ?_) (fun hc19 h => ?_)
 ·obtain ⟨x20,hx20,h⟩ := bind_some h
  refine x_rgt (rg0 [hE,hE,hE,hE,hN (.cal [] (.tup [(gA1 x20.1),.int .i64 x20.2]) false),hE,hE,hE,hE,hE] (⟨[(3,pS data),oP 4 0,oP 8 1,oP 15 2,(16,pI x20.2)],[rP 0 3 (zE3 p),rP 1 3 gA2,rH 2 3 (gA9 x20.1 3),(3,rL (some 13) zE2 x20.1.L)],4⟩) (kc (c60 hx20) .nil)) ?_
  refine x_bn (x_tn ?_)
  exact ⟨(x20.2,x20.1.Next,x20.1.Group,x20.1.L),h,by kernel_rfl⟩
 refine kw0 (⟨[(3,pS data),oP 4 0,oP 8 1,oP 15 2,(16,pI 11)],[rP 0 3 (zE3 p),rP 1 3 gA2,rH 2 3 (gA9 x7 3),(3,rL (some 13) zE2 x7.L)],4⟩) ?_
 refine x_skip (x_bn (x_tn ?_))
 exact ⟨(11,x7.Next,x7.Group,x7.L),h,by kernel_rfl⟩
theorem c41 {p : api_Procs} {id : Int} {r : (List Int)} (h : procfs_children p id = some r) : CallOK Tryd.prog 41 [zE3 p,.int .i64 id] (.usl none (List.map (PV.int .i64) r)) true := by
 apply ok41
 unfold procfs_children at h
 refine x_rg (rgn [hE,hE] (⟨[(1,pI id),oP 2 0],[rP 0 3 (zE3 p)],1⟩)) ?_
 refine x_rg (st2 := { tm := [(1,.pv (.int .i64 id)),oP 2 0,(5,.osl 1 0 (List.map (PV.int .i64) ([] : List Int)).length)],hp := [rP 0 3 (zE3 p),(1,some (.p none (List.map (PV.int .i64) ([] : List Int))))],nx := 2 }) (rg [hE] ({ tm := [(1,.pv (.int .i64 id)),oP 2 0,(5,.pv (.nilsl))],hp := [rP 0 3 (zE3 p)],nx := 1 }) .nil ((Sub.keep (ks := [1,2,5]) (st := ownSt 5 none ({ tm := [(1,.pv (.int .i64 id)),oP 2 0,(5,.pv (.nilsl))],hp := [rP 0 3 (zE3 p)],nx := 1 })) (st' := { tm := [(1,.pv (.int .i64 id)),oP 2 0,(5,.osl 1 0 (List.map (PV.int .i64) ([] : List Int)).length)],hp := [rP 0 3 (zE3 p),(1,some (.p none (List.map (PV.int .i64) ([] : List Int))))],nx := 2 }) (by kernel_rfl)).trans (own_sound 5 none ({ tm := [(1,.pv (.int .i64 id)),oP 2 0,(5,.pv (.nilsl))],hp := [rP 0 3 (zE3 p)],nx := 1 })))) ?_
 refine x_seq ?_
 refine x_rg (rgn [hE,hE] (⟨[(1,pI id),oP 2 0,(5,oL 1 (PV.int .i64) ([] : List Int)),(10,pB (!decide (id = 1)))],[rP 0 3 (zE3 p),(1,rL none (PV.int .i64) ([] : List Int))],2⟩)) ?_
 refine x_if h rfl (fun hc1 h => ?_) (fun hc1 h => ?_)
 ·refine x_seq ?_
  refine x_rg (rgn [hE] (⟨[(1,pI id),(5,oL 0 (PV.int .i64) ([] : List Int)),(6,pI 1)],[(0,rL none (PV.int .i64) ([] : List Int))],1⟩)) ?_
  refine x_block ?_
  refine kw0 (⟨[(1,pI id),(5,oL 0 (PV.int .i64) ([] : List Int)),(6,pI 1)],[(0,rL none (PV.int .i64) ([] : List Int))],1⟩) ?_
  refine x_loop (σ := (Int × (List Int))) h (fun s => ⟨[(1,pI id),(5,oL 0 (PV.int .i64) s.2),(6,pI s.1)],[(0,rL none (PV.int .i64) s.2)],1⟩) (by kernel_rfl) ?_ ?_
  ·rintro ⟨part,out⟩
   kernel_rfl
  rintro ⟨part,out⟩ x5 h hx5
  replace h : procfs_children_L5 id part out = some x5 := h
  unfold procfs_children_L5 at h
  refine x_seq ?_
  refine x_rg (rgn [hE,hE] (⟨[(1,pI id),(5,oL 0 (PV.int .i64) out),(6,pI part),(12,pB (decide (part ≤ 5)))],[(0,rL none (PV.int .i64) out)],1⟩)) ?_
  refine x_if h rfl (fun hc6 h => ?_) (fun hc6 h => ?_)
  ·refine x_kk (x_skip (x_tn (x_seq (x_block ?_))))
   obtain ⟨x7,hx7,h⟩ := bind_some h
   refine x_rgt (rg0 [hE,hE,hE,hE,hE,hN (.app (List.map (PV.int .i64) x7)),hE] (⟨[(1,pI id),(5,oL 0 (PV.int .i64) x7),(6,pI part)],[(0,rL none (PV.int .i64) x7)],1⟩) (kc (show List.take (List.map (PV.int .i64) out).length (List.map (PV.int .i64) out) ++ List.take 1 (List.drop 0 ([.int .i64 (IntKind.wrap .i64 (id + part))] : List PV)) = (List.map (PV.int .i64) x7) from (app_ob hx7 (.all _) (.rfl _))) (kc (show List.length (List.map (PV.int .i64) x7) * 8 ≤ 140737488355328 from (by rw [List.length_map]; exact (appL_ok hx7).2.1)) (kc (show List.length (List.map (PV.int .i64) x7) ≤ 9223372036854775807 from (by rw [List.length_map]; exact (appL_ok hx7).2.2)) (kc (le1 (List.map (PV.int .i64) out)) (kc (show 0 + 1 ≤ List.length ([.int .i64 (IntKind.wrap .i64 (id + part))] : List PV) from (by simp)) .nil)))))) ?_
   refine x_bn (x_tn ?_)
   refine x_rgt (rgn [hE,hE,hE] (⟨[(1,pI id),(5,oL 0 (PV.int .i64) x7),(6,pI (IntKind.wrap .i64 (part + 1)))],[(0,rL none (PV.int .i64) x7)],1⟩)) ?_
   refine x_tn ?_
   exact ⟨_,(sj h).symm,by kernel_rfl⟩
  refine kw0 (⟨[(5,oL 0 (PV.int .i64) out)],[(0,rL none (PV.int .i64) out)],1⟩) ?_
  refine x_exit ?_
  refine x_te (x_te ?_)
  replace h := done_leaf h hx5
  refine x_bh ?_
  refine x_tn ?_
  refine x_rg (rgn [hE,hE] (⟨[(4,oL 0 (PV.int .i64) out)],[(0,rL none (PV.int .i64) out)],1⟩)) ?_
  refine x_toret (x_tr ?_)
  obtain rfl := sj h
  exact x_ret (.usl none (List.take (List.map (PV.int .i64) out).length (List.map (PV.int .i64) out))) [0] [(List.map (PV.int .i64) out).length ≤ List.length (List.map (PV.int .i64) out)] (by kernel_rfl) (.cons (Nat.le_refl _) .nil) (by decide) (.of_eq (by rw [List.take_length])) (fun _ => (usl_ns (sh := none) (fun _ => rfl)))
 refine x_kk (x_skip (x_tn (x_seq ?_)))
 refine x_rg (rg0 [hE,hE,hN (.len (List.length p.L : Int)),hE] (⟨[(5,oL 0 (PV.int .i64) ([] : List Int)),(23,pL (some 13) zE2 p.L),(24,pI (List.length p.L : Int)),(25,pI 0)],[(0,rL none (PV.int .i64) ([] : List Int))],1⟩) (kc (lenM zE2 p.L) .nil)) ?_
 refine x_block ?_
 refine kw0 (⟨[(5,oL 0 (PV.int .i64) ([] : List Int)),(23,pL (some 13) zE2 p.L),(24,pI (List.length p.L : Int)),(25,pI 0)],[(0,rL none (PV.int .i64) ([] : List Int))],1⟩) ?_
 refine x_loop (σ := (Int × (List Int))) h (fun s => ⟨[(5,oL 0 (PV.int .i64) s.2),(23,pL (some 13) zE2 p.L),(24,pI (List.length p.L : Int)),(25,pI s.1)],[(0,rL none (PV.int .i64) s.2)],1⟩) (by kernel_rfl) ?_ ?_
 ·rintro ⟨v11,out_1⟩
  kernel_rfl
 rintro ⟨v11,out_1⟩ x13 h hx13
 replace h : procfs_children_L13 p v11 out_1 = some x13 := h
 unfold procfs_children_L13 at h
 refine x_rg (rgn [hE] (⟨[(5,oL 0 (PV.int .i64) out_1),(23,pL (some 13) zE2 p.L),(24,pI (List.length p.L : Int)),(25,pI v11),(26,pB (decide (v11 < (List.length p.L : Int))))],[(0,rL none (PV.int .i64) out_1)],1⟩)) ?_
 refine x_seq ?_
 refine x_if h rfl (fun hc14 h => ?_) (fun hc14 h => ?_)
 ·refine x_kk (x_skip (x_tn (x_seq (x_block ?_))))
  obtain ⟨x15,hx15,h⟩ := bind_some h
  refine x_rg (rg0 [hN (.pAt (zE2 x15)),hE,hE,hE] (⟨[(5,oL 0 (PV.int .i64) out_1),oP 8 1,(23,pL (some 13) zE2 p.L),(24,pI (List.length p.L : Int)),(25,pI v11)],[(0,rL none (PV.int .i64) out_1),rP 1 13 (zE2 x15)],2⟩) (kc (lsAt_map (f := zE2) hx15) .nil)) ?_
  obtain ⟨x16,hx16,h⟩ := bind_some h
  refine x_rgt (rg0 [hE,hE,hE,hE,hE,hN (.app (List.map (PV.int .i64) x16)),hE] (⟨[(5,oL 0 (PV.int .i64) x16),(23,pL (some 13) zE2 p.L),(24,pI (List.length p.L : Int)),(25,pI v11)],[(0,rL none (PV.int .i64) x16)],1⟩) (kc (show List.take (List.map (PV.int .i64) out_1).length (List.map (PV.int .i64) out_1) ++ List.take 1 (List.drop 0 ([.int .i64 (IntKind.wrap .i64 (16 * x15.Id))] : List PV)) = (List.map (PV.int .i64) x16) from (app_ob hx16 (.all _) (.rfl _))) (kc (show List.length (List.map (PV.int .i64) x16) * 8 ≤ 140737488355328 from (by rw [List.length_map]; exact (appL_ok hx16).2.1)) (kc (show List.length (List.map (PV.int .i64) x16) ≤ 9223372036854775807 from (by rw [List.length_map]; exact (appL_ok hx16).2.2)) (kc (le1 (List.map (PV.int .i64) out_1)) (kc (show 0 + 1 ≤ List.length ([.int .i64 (IntKind.wrap .i64 (16 * x15.Id))] : List PV) from (by simp)) .nil)))))) ?_
  refine x_bn (x_tn ?_)
  refine x_rgt (rgn [hE,hE] (⟨[(5,oL 0 (PV.int .i64) x16),(23,pL (some 13) zE2 p.L),(24,pI (List.length p.L : Int)),(25,pI (IntKind.wrap .i64 (v11 + 1)))],[(0,rL none (PV.int .i64) x16)],1⟩)) ?_
  refine x_tn ?_
  exact ⟨_,(sj h).symm,by kernel_rfl⟩
 refine kw0 (⟨[(5,oL 0 (PV.int .i64) out_1)],[(0,rL none (PV.int .i64) out_1)],1⟩) ?_
 refine x_exit ?_
 refine x_te (x_te ?_)
 replace h := done_leaf h hx13
 refine x_bh ?_
 refine x_tn ?_
 refine x_rg (rgn [hE,hE] (⟨[(4,oL 0 (PV.int .i64) out_1)],[(0,rL none (PV.int .i64) out_1)],1⟩)) ?_
 refine x_toret ?_
 obtain rfl := sj h
 exact x_ret (.usl none (List.take (List.map (PV.int .i64) out_1).length (List.map (PV.int .i64) out_1))) [0] [(List.map (PV.int .i64) out_1).length ≤ List.length (List.map (PV.int .i64) out_1)] (by kernel_rfl) (.cons (Nat.le_refl _) .nil) (by decide) (.of_eq (by rw [List.take_length])) (fun _ => (usl_ns (sh := none) (fun _ => rfl)))
theorem c42 {id : Int} {r : Str} (h : procfs_name id = some r) : CallOK Tryd.prog 42 [.int .i64 id] (.str r) true := by
 apply ok42
 unfold procfs_name at h
 refine x_rg (rgn [hE] (⟨[(0,pI id)],[],0⟩)) ?_
 refine x_seq ?_
 refine x_rg (rgn [hE,hE] (⟨[(0,pI id),(4,pB (decide (id = 1)))],[],0⟩)) ?_
 refine x_if h rfl (fun hc1 h => ?_) (fun hc1 h => ?_)
 ·refine x_rg (rgn [hE] (⟨[(2,pS [47])],[],0⟩)) ?_
  refine x_toret (x_tr ?_)
  obtain rfl := sj h
  exact ret0 (.str [47]) (.refl _) (fun _ => rfl)
 refine x_kk (x_skip (x_tn (x_seq ?_)))
 refine x_rg (rgn [hE,hE] (⟨[(0,pI id),(6,pI (Int.tmod id 16))],[],0⟩)) ?_
 refine x_block ?_
 refine x_rg (rgn [hE,hE] (⟨[(0,pI id),(6,pI (Int.tmod id 16)),(7,pB (decide ((Int.tmod id 16) = 1)))],[],0⟩)) ?_
 refine x_if h rfl (fun hc2 h => ?_) (fun hc2 h => ?_)
 ·refine x_rg (rgn [hE] (⟨[(2,pS [99,116,108])],[],0⟩)) ?_
  refine x_toret (x_br (x_tr ?_))
  obtain rfl := sj h
  exact ret0 (.str [99,116,108]) (.refl _) (fun _ => rfl)
 refine x_rg (rgn [hE,hE] (⟨[(0,pI id),(6,pI (Int.tmod id 16)),(9,pB (decide ((Int.tmod id 16) = 2)))],[],0⟩)) ?_
 refine x_if h rfl (fun hc3 h => ?_) (fun hc3 h => ?_)
 ·refine x_rg (rgn [hE] (⟨[(2,pS [115,116,97,116,117,115])],[],0⟩)) ?_
  refine x_toret (x_br (x_tr ?_))
  obtain rfl := sj h
  exact ret0 (.str [115,116,97,116,117,115]) (.refl _) (fun _ => rfl)
 refine x_rg (rgn [hE,hE] (⟨[(0,pI id),(6,pI (Int.tmod id 16)),(11,pB (decide ((Int.tmod id 16) = 3)))],[],0⟩)) ?_
 refine x_if h rfl (fun hc4 h => ?_) (fun hc4 h => ?_)
 ·refine x_rg (rgn [hE] (⟨[(2,pS [110,111,116,101])],[],0⟩)) ?_
  refine x_toret (x_br (x_tr ?_))
  obtain rfl := sj h
  exact ret0 (.str [110,111,116,101]) (.refl _) (fun _ => rfl)
 refine x_rg (rgn [hE,hE] (⟨[(0,pI id),(6,pI (Int.tmod id 16)),(13,pB (decide ((Int.tmod id 16) = 4)))],[],0⟩)) ?_
 refine x_if h rfl (fun hc5 h => ?_) (fun hc5 h => ?_)
 ·refine x_rg (rgn [hE] (⟨[(2,pS [119,97,105,116])],[],0⟩)) ?_
  refine x_toret (x_br (x_tr ?_))
  obtain rfl := sj h
  exact ret0 (.str [119,97,105,116]) (.refl _) (fun _ => rfl)
 refine x_rg (rgn [hE,hE] (⟨[(0,pI id),(15,pB (decide ((Int.tmod id 16) = 5)))],[],0⟩)) ?_
 refine x_if h rfl (fun hc6 h => ?_) (fun hc6 h => ?_)
 ·refine x_rg (rgn [hE] (⟨[(2,pS [99,119,100])],[],0⟩)) ?_
  refine x_toret (x_br (x_tr ?_))
  obtain rfl := sj h
  exact ret0 (.str [99,119,100]) (.refl _) (fun _ => rfl)
 refine x_kk (x_skip (x_bn (x_tn ?_)))
 obtain ⟨x7,hx7,h⟩ := bind_some h
 refine x_rg (rg0 [hE,hE,hN (.cal [] (.str x7) true),hE] (⟨[(2,pS x7)],[],0⟩) (kc (c38 hx7) .nil)) ?_
 refine x_toret ?_
 obtain rfl := sj h
 exact ret0 (.str x7) (.refl _) (fun _ => rfl)
theorem c16 {p : api_Procs} {id : Int} {s_ : Str} {r : (Int × Int)} (h : procfs_Walk p id s_ = some r) : CallOK Tryd.prog 16 [zE3 p,.int .i64 id,.str s_] (.tup [.int .i64 r.1,.int .i64 r.2]) true := by
 apply ok16
 unfold procfs_Walk at h
 refine x_rg (rgn [hE,hE,hE] (⟨[(1,pI id),(2,pS s_),oP 3 0],[rP 0 3 (zE3 p)],1⟩)) ?_
 obtain ⟨x1,hx1,h⟩ := bind_some h
 refine x_rg (rg0 [hE,hE,hN (.cal [] (.tup [(gA3 x1.1),.int .i64 x1.2.1,.bool x1.2.2]) true),hE,hE,hE,hE,hE,hE,hE,hE] (⟨[(1,pI id),(2,pS s_),oP 3 0,(9,pI x1.2.1),(10,pB x1.2.2)],[rP 0 3 (zE3 p)],1⟩) (kc (c31 hx1) .nil)) ?_
 refine x_seq ?_
 refine x_rg (rgn [hE,hE] (⟨[(1,pI id),(2,pS s_),oP 3 0,(9,pI x1.2.1),(21,pB (!x1.2.2))],[rP 0 3 (zE3 p)],1⟩)) ?_
 refine x_if h rfl (fun hc2 h => ?_) (fun hc2 h => ?_)
 ·refine x_rg (rgn [hE,hE] (⟨[(6,pI 0),(7,pI 8)],[],0⟩)) ?_
  refine x_toret (x_tr ?_)
  obtain rfl := sj h
  exact ret0 (.tup [.int .i64 0,.int .i64 8]) (.tup (.cons (.refl _) (.cons (.refl _) .nil))) (fun _ => rfl)
 refine x_kk (x_skip (x_tn (x_seq ?_)))
 refine x_rg (rgn [hE,hE] (⟨[(1,pI id),(2,pS s_),oP 3 0,(23,pB (!decide (x1.2.1 = 0)))],[rP 0 3 (zE3 p)],1⟩)) ?_
 refine x_if h rfl (fun hc3 h => ?_) (fun hc3 h => ?_)
 ·refine x_rg (rgn [hE,hE] (⟨[(6,pI 0),(7,pI 9)],[],0⟩)) ?_
  refine x_toret (x_tr ?_)
  obtain rfl := sj h
  exact ret0 (.tup [.int .i64 0,.int .i64 9]) (.tup (.cons (.refl _) (.cons (.refl _) .nil))) (fun _ => rfl)
 refine x_kk (x_skip (x_tn (x_seq ?_)))
 refine x_rg (rgn [hE,hE] (⟨[(1,pI id),(2,pS s_),oP 3 0,(25,pB (decide (s_ = [46,46])))],[rP 0 3 (zE3 p)],1⟩)) ?_
 refine x_if h rfl (fun hc4 h => ?_) (fun hc4 h => ?_)
 ·refine x_rg (rgn [hE,hE] (⟨[(6,pI 1),(7,pI 0)],[],0⟩)) ?_
  refine x_toret (x_tr ?_)
  obtain rfl := sj h
  exact ret0 (.tup [.int .i64 1,.int .i64 0]) (.tup (.cons (.refl _) (.cons (.refl _) .nil))) (fun _ => rfl)
 refine x_kk (x_skip (x_tn (x_seq ?_)))
 obtain ⟨x5,hx5,h⟩ := bind_some h
 refine x_rg (rg0 [hE,hE,hN (.cal [] (.usl none (List.map (PV.int .i64) x5)) true),hN (.len (List.length x5 : Int)),hE] (⟨[(2,pS s_),(28,oL 0 (PV.int .i64) x5),(29,pI (List.length x5 : Int)),(30,pI 0)],[(0,rL none (PV.int .i64) x5)],1⟩) (kc (c41 hx5) (kc (lenM (PV.int .i64) x5) .nil))) ?_
 refine x_block ?_
 refine kw0 (⟨[(2,pS s_),(28,oL 0 (PV.int .i64) x5),(29,pI (List.length x5 : Int)),(30,pI 0)],[(0,rL none (PV.int .i64) x5)],1⟩) ?_
 refine x_loop (σ := Int) h (fun s => ⟨[(2,pS s_),(28,oL 0 (PV.int .i64) x5),(29,pI (List.length x5 : Int)),(30,pI s)],[(0,rL none (PV.int .i64) x5)],1⟩) (by kernel_rfl) ?_ ?_
 ·rintro v10
  kernel_rfl
 rintro v10 x11 h hx11
 replace h : procfs_Walk_L11 s_ x5 v10 = some x11 := h
 unfold procfs_Walk_L11 at h
 refine x_rg (rgn [hE] (⟨[(2,pS s_),(28,oL 0 (PV.int .i64) x5),(29,pI (List.length x5 : Int)),(30,pI v10),(31,pB (decide (v10 < (List.length x5 : Int))))],[(0,rL none (PV.int .i64) x5)],1⟩)) ?_
 refine x_seq ?_
 refine x_if h rfl (fun hc12 h => ?_) (fun hc12 h => ?_)
 ·refine x_kk (x_skip (x_tn (x_seq (x_block ?_))))
  obtain ⟨x13,hx13,h⟩ := bind_some h
  refine x_rg (rg0 [hN .rAt,hN (.ld (.int .i64 x13)),hE] (⟨[(2,pS s_),(12,pI x13),(28,oL 0 (PV.int .i64) x5),(29,pI (List.length x5 : Int)),(30,pI v10)],[(0,rL none (PV.int .i64) x5)],1⟩) (kc (rAtM (f := (PV.int .i64)) hx13) (kc (ownAt (f := (PV.int .i64)) hx13) .nil))) ?_
  obtain ⟨x14,hx14,h⟩ := bind_some h
  refine x_rg (rg0 [hE,hN (.cal [] (.str x14) true),hE,hE] (⟨[(2,pS s_),(12,pI x13),(28,oL 0 (PV.int .i64) x5),(29,pI (List.length x5 : Int)),(30,pI v10),(37,pB (decide (x14 = s_)))],[(0,rL none (PV.int .i64) x5)],1⟩) (kc (c42 hx14) .nil)) ?_
  refine x_if h rfl (fun hc15 h => ?_) (fun hc15 h => ?_)
  ·refine x_rg (rgn [hE,hE,hE] (⟨[(6,pI x13),(7,pI 0)],[],0⟩)) ?_
   refine x_toret (x_br (x_tr (x_tr ?_)))
   replace h := done_leaf h hx11
   refine x_br (x_tr ?_)
   obtain rfl := sj h
   exact ret0 (.tup [.int .i64 x13,.int .i64 0]) (.tup (.cons (.refl _) (.cons (.refl _) .nil))) (fun _ => rfl)
  refine x_kk (x_skip (x_bn (x_tn ?_)))
  refine x_rgt (rgn [hE,hE] (⟨[(2,pS s_),(28,oL 0 (PV.int .i64) x5),(29,pI (List.length x5 : Int)),(30,pI (IntKind.wrap .i64 (v10 + 1)))],[(0,rL none (PV.int .i64) x5)],1⟩)) ?_
  refine x_tn ?_
  exact ⟨_,(sj h).symm,by kernel_rfl⟩
 refine kw0 (⟨[],[],0⟩) ?_
 refine x_exit ?_
 refine x_te (x_te ?_)
 replace h := done_leaf h hx11
 refine x_bh ?_
 refine x_tn ?_
 refine x_rg (rgn [hE,hE] (⟨[(6,pI 0),(7,pI 8)],[],0⟩)) ?_
 refine x_toret ?_
 obtain rfl := sj h
 exact ret0 (.tup [.int .i64 0,.int .i64 8]) (.tup (.cons (.refl _) (.cons (.refl _) .nil))) (fun _ => rfl)
theorem c61 {mode : Int} {bit : Int} {r : Bool} (h : perm_has mode bit = some r) : CallOK Tryd.prog 61 [.int .i64 mode,.int .i64 bit] (.bool r) true := by
 apply ok61
 unfold perm_has at h
 refine x_rg (rgn [hE] (⟨[(0,pI mode),(1,pI bit)],[],0⟩)) ?_
 obtain ⟨t3,ht,h⟩ := bind_some h
 refine x_rgB (fun b_ => (⟨[(4,pB b_)],[],0⟩ : VSt)) t3 ?_ ?_
 ·rcases bq (decide (0 ≤ mode)) with hg1 | hg1
  ·replace ht := ite_t ht hg1
   obtain ⟨x2,hx2,ht⟩ := bind_some ht
   obtain rfl := sj ht
   exact rb [hE,hE,hE,hY,hY,(.y,(.dv x2)),hY,hY,hN (.pk true),hE] (decide ((Int.tmod x2 2) = 1)) (hk3 hg1 (kc hx2 (hk3 hg1 .nil))) rfl
  replace ht := ite_f ht hg1
  obtain rfl := sj ht
  exact rb [hE,hE,hE,hS,hS,hS,hS,hS,hN (.pk false),hE] false (hk6 hg1 .nil) rfl
 clear ht
 refine x_toret ?_
 obtain rfl := sj h
 exact ret0 (.bool t3) (.refl _) (fun _ => rfl)
theorem c32 {mode : Int} {r : (Int × Int)} (h : perm_Open mode = some r) : CallOK Tryd.prog 32 [.int .i64 mode] (.tup [.int .i64 r.1,.int .i64 r.2]) true := by
 apply ok32
 unfold perm_Open at h
 refine x_rg (rgn [hE,hE] (⟨[(0,pI mode)],[],0⟩)) ?_
 refine x_rg (rgn [hE,hE] (⟨[(0,pI mode),(4,pI mode)],[],0⟩)) ?_
 refine x_join (τ := Int) (fun t => perm_Open_K1 mode t = some r) (fun t => { tm := [(0,.pv (.int .i64 mode)),(4,.pv (.int .i64 t))],hp := [],nx := 0 }) ?_ ?_
 ·rintro p2 h
  replace h : perm_Open_K1 mode p2 = some r := h
  unfold perm_Open_K1 at h
  refine x_join (τ := Int) (fun t => perm_Open_K3 mode t = some r) (fun t => { tm := [(0,.pv (.int .i64 mode)),(4,.pv (.int .i64 t))],hp := [],nx := 0 }) ?_ ?_
  ·rintro p4 h
   replace h : perm_Open_K3 mode p4 = some r := h
   unfold perm_Open_K3 at h
   refine x_seq ?_
   refine x_rgB (fun b_ => (⟨[(0,pI mode),(4,pI p4),(20,pB b_)],[],0⟩ : VSt)) ((decide (p4 < 0)) || (decide (3 < p4))) ?_ ?_
   ·rcases bq (decide (p4 < 0)) with hg5 | hg5
    ·exact rb [hE,hE,hE,hS,hS,hN (.pk true)] true (hk3 hg5 .nil) (by simp only [hg5,bs,reduceIte])
    exact rb [hE,hE,hE,hY,hY,hN (.pk false)] (decide (3 < p4)) (hk3 hg5 .nil) (by simp only [hg5,bs,reduceIte])
   refine x_if h rfl (fun hc7 h => ?_) (fun hc7 h => ?_)
   ·refine x_rg (rgn [hE,hE] (⟨[(2,pI 0),(3,pI 12)],[],0⟩)) ?_
    refine x_toret (x_tr ?_)
    obtain rfl := sj h
    exact ret0 (.tup [.int .i64 0,.int .i64 12]) (.tup (.cons (.refl _) (.cons (.refl _) .nil))) (fun _ => rfl)
   refine x_kk (x_skip (x_tn ?_))
   obtain ⟨x8,hx8,h⟩ := bind_some h
   refine x_rg (rg0 [hE,hE,hN .rAt,hN (.ld (.int .i64 x8)),hE] (⟨[(0,pI mode),(5,pI x8)],[],0⟩) (kc (show 0 ≤ (p4 : Int) ∧ Int.toNat p4 < 4 from (rAt_ob hx8 (by simp))) (kc (ownAt (f := (PV.int .i64)) hx8) .nil))) ?_
   refine x_seq ?_
   obtain ⟨x9,hx9,h⟩ := bind_some h
   refine x_rg (rg0 [hE,hN (.cal [] (.bool x9) true)] (⟨[(5,pI x8),(26,pB x9)],[],0⟩) (kc (c61 hx9) .nil)) ?_
   refine x_if h rfl (fun hc10 h => ?_) (fun hc10 h => ?_)
   ·refine x_rgt (rgn [hE,hE,hE] (⟨[(5,pI (IntKind.wrap .i64 ((BitVec.ofInt (IntKind.bits .i64) x8 ||| (BitVec.ofInt (IntKind.bits .i64) 2)).toNat : Nat)))],[],0⟩)) ?_
    refine x_tn ?_
    refine x_rg (rgn [hE,hE,hE] (⟨[(2,pI (IntKind.wrap .i64 ((BitVec.ofInt (IntKind.bits .i64) x8 ||| (BitVec.ofInt (IntKind.bits .i64) 2)).toNat : Nat))),(3,pI 0)],[],0⟩)) ?_
    refine x_toret ?_
    obtain rfl := sj h
    exact ret0 (.tup [.int .i64 (IntKind.wrap .i64 ((BitVec.ofInt (IntKind.bits .i64) x8 ||| (BitVec.ofInt (IntKind.bits .i64) 2)).toNat : Nat)),.int .i64 0]) (.tup (.cons (.refl _) (.cons (.refl _) .nil))) (fun _ => rfl)
   refine x_kk (x_skip (x_tn ?_))
   refine x_rg (rgn [hE,hE,hE] (⟨[(2,pI x8),(3,pI 0)],[],0⟩)) ?_
   refine x_toret ?_
   obtain rfl := sj h
   exact ret0 (.tup [.int .i64 x8,.int .i64 0]) (.tup (.cons (.refl _) (.cons (.refl _) .nil))) (fun _ => rfl)
  obtain ⟨x11,hx11,h⟩ := bind_some h
  refine x_rg (rg0 [hE,hN (.cal [] (.bool x11) true)] (⟨[(0,pI mode),(4,pI p2),(12,pB x11)],[],0⟩) (kc (c61 hx11) .nil)) ?_
  refine x_if h rfl (fun hc12 h => ?_) (fun hc12 h => ?_)
  ·refine x_rgt (rgn [hE,hE,hE] (⟨[(0,pI mode),(4,pI (IntKind.wrap .i64 (p2 - 64)))],[],0⟩)) ?_
   refine x_tn ?_
   exact ⟨(IntKind.wrap .i64 (p2 - 64)),h,by kernel_rfl⟩
  refine kw0 (⟨[(0,pI mode),(4,pI p2)],[],0⟩) ?_
  refine x_skip (x_tn ?_)
  exact ⟨p2,h,by kernel_rfl⟩
 obtain ⟨x13,hx13,h⟩ := bind_some h
 refine x_rg (rg0 [hE,hN (.cal [] (.bool x13) true)] (⟨[(0,pI mode),(4,pI mode),(8,pB x13)],[],0⟩) (kc (c61 hx13) .nil)) ?_
 refine x_if h rfl (fun hc14 h => ?_) (fun hc14 h => ?_)
 ·refine x_rgt (rgn [hE,hE,hE] (⟨[(0,pI mode),(4,pI (IntKind.wrap .i64 (mode - 16)))],[],0⟩)) ?_
  refine x_tn ?_
  exact ⟨(IntKind.wrap .i64 (mode - 16)),h,by kernel_rfl⟩
 refine kw0 (⟨[(0,pI mode),(4,pI mode)],[],0⟩) ?_
 refine x_skip (x_tn ?_)
 exact ⟨mode,h,by kernel_rfl⟩
theorem c33 {part : Int} {r : Int} (h : procfs_mode part = some r) : CallOK Tryd.prog 33 [.int .i64 part] (.int .i64 r) true := by
 apply ok33
 unfold procfs_mode at h
 refine x_rg (rgn [hE] (⟨[(0,pI part)],[],0⟩)) ?_
 refine x_seq ?_
 refine x_rg (rgn [hE] (⟨[(3,pI part)],[],0⟩)) ?_
 refine x_block ?_
 refine x_rg (rgn [hE,hE] (⟨[(3,pI part),(4,pB (decide (part = 0)))],[],0⟩)) ?_
 refine x_if h rfl (fun hc1 h => ?_) (fun hc1 h => ?_)
 ·refine x_rg (rgn [hE] (⟨[(2,pI 2147484013)],[],0⟩)) ?_
  refine x_toret (x_br (x_tr ?_))
  obtain rfl := sj h
  exact ret0 (.int .i64 2147484013) (.refl _) (fun _ => rfl)
 refine x_join (τ := Bool) (fun t => procfs_mode_K2 part t = some r) (fun t => { tm := [(3,.pv (.int .i64 part)),(6,.pv (.bool t))],hp := [],nx := 0 }) ?_ ?_
 ·rintro p3 h
  replace h : procfs_mode_K2 part p3 = some r := h
  unfold procfs_mode_K2 at h
  refine x_if h rfl (fun hc4 h => ?_) (fun hc4 h => ?_)
  ·refine x_rg (rgn [hE] (⟨[(2,pI 128)],[],0⟩)) ?_
   refine x_toret (x_br (x_tr ?_))
   obtain rfl := sj h
   exact ret0 (.int .i64 128) (.refl _) (fun _ => rfl)
  refine x_rg (rgn [hE,hE] (⟨[(9,pB (decide (part = 4)))],[],0⟩)) ?_
  refine x_if h rfl (fun hc5 h => ?_) (fun hc5 h => ?_)
  ·refine x_rg (rgn [hE] (⟨[(2,pI 256)],[],0⟩)) ?_
   refine x_toret (x_br (x_tr ?_))
   obtain rfl := sj h
   exact ret0 (.int .i64 256) (.refl _) (fun _ => rfl)
  refine x_kk (x_skip (x_bn (x_tn ?_)))
  refine x_rg (rgn [hE] (⟨[(2,pI 292)],[],0⟩)) ?_
  refine x_toret ?_
  obtain rfl := sj h
  exact ret0 (.int .i64 292) (.refl _) (fun _ => rfl)
 refine x_rg (rgn [hE,hE] (⟨[(3,pI part),(6,pB (decide (part = 1)))],[],0⟩)) ?_
 refine x_if h rfl (fun hc6 h => ?_) (fun hc6 h => ?_)
 ·refine kw0 (⟨[(3,pI part),(6,pB (decide (part = 1)))],[],0⟩) ?_
  refine x_skip (x_tn ?_)
  exact ⟨(decide (part = 1)),h,by kernel_rfl⟩
 refine x_rgt (rgn [hE,hE] (⟨[(3,pI part),(6,pB (decide (part = 3)))],[],0⟩)) ?_
 refine x_tn ?_
 exact ⟨(decide (part = 3)),h,by kernel_rfl⟩
theorem c11 {p : api_Procs} {user : Str} {id : Int} {how : Int} {r : Int} (h : procfs_Open p user id how = some r) : CallOK Tryd.prog 11 [zE3 p,.str user,.int .i64 id,.int .i64 how] (.int .i64 r) true := by
 apply ok11
 unfold procfs_Open at h
 refine x_rg (rgn [hE,hE] (⟨[(1,pS user),(2,pI id),(3,pI how),oP 4 0],[rP 0 3 (zE3 p)],1⟩)) ?_
 obtain ⟨x1,hx1,h⟩ := bind_some h
 refine x_rg (rg0 [hE,hE,hN (.cal [] (.tup [(gA3 x1.1),.int .i64 x1.2.1,.bool x1.2.2]) true),hE,hE,hE,hE,hE,hE,hE,hE] (⟨[(1,pS user),(3,pI how),oP 9 0,(10,pI x1.2.1),(11,pB x1.2.2)],[rH 0 13 (gA5 x1.1 1 2),(1,rL none PV.str x1.1.Notes),(2,rL (some 2) zE1 x1.1.Waits)],3⟩) (kc (c31 hx1) .nil)) ?_
 refine x_seq ?_
 refine x_rg (rgn [hE,hE] (⟨[(1,pS user),(3,pI how),oP 9 0,(10,pI x1.2.1),(23,pB (!x1.2.2))],[rH 0 13 (gA5 x1.1 1 2),(1,rL none PV.str x1.1.Notes),(2,rL (some 2) zE1 x1.1.Waits)],3⟩)) ?_
 refine x_if h rfl (fun hc2 h => ?_) (fun hc2 h => ?_)
 ·refine x_rg (rgn [hE] (⟨[(8,pI 8)],[],0⟩)) ?_
  refine x_toret (x_tr ?_)
  obtain rfl := sj h
  exact ret0 (.int .i64 8) (.refl _) (fun _ => rfl)
 refine x_kk (x_skip (x_tn ?_))
 obtain ⟨x3,hx3,h⟩ := bind_some h
 refine x_rg (rg0 [hE,hN (.cal [] (.tup [.int .i64 x3.1,.int .i64 x3.2]) true),hE,hE,hE,hE,hE] (⟨[(1,pS user),(3,pI how),oP 9 0,(10,pI x1.2.1),(12,pI x3.1),(13,pI x3.2)],[rH 0 13 (gA5 x1.1 1 2),(1,rL none PV.str x1.1.Notes),(2,rL (some 2) zE1 x1.1.Waits)],3⟩) (kc (c32 hx3) .nil)) ?_
 refine x_seq ?_
 refine x_rg (rgn [hE,hE] (⟨[(1,pS user),(3,pI how),oP 9 0,(10,pI x1.2.1),(12,pI x3.1),(13,pI x3.2),(30,pB (!decide (x3.2 = 0)))],[rH 0 13 (gA5 x1.1 1 2),(1,rL none PV.str x1.1.Notes),(2,rL (some 2) zE1 x1.1.Waits)],3⟩)) ?_
 refine x_if h rfl (fun hc4 h => ?_) (fun hc4 h => ?_)
 ·refine x_rg (rgn [hE,hE] (⟨[(8,pI x3.2)],[],0⟩)) ?_
  refine x_toret (x_tr ?_)
  obtain rfl := sj h
  exact ret0 (.int .i64 x3.2) (.refl _) (fun _ => rfl)
 refine x_kk (x_skip (x_tn (x_seq ?_)))
 refine x_rgB (fun b_ => (⟨[(1,pS user),(3,pI how),oP 9 0,(10,pI x1.2.1),(12,pI x3.1),(37,pB b_)],[rH 0 13 (gA5 x1.1 1 2),(1,rL none PV.str x1.1.Notes),(2,rL (some 2) zE1 x1.1.Waits)],3⟩ : VSt)) ((decide (x1.2.1 = 0)) && (!decide (how = 0))) ?_ ?_
 ·rcases bq (decide (x1.2.1 = 0)) with hg5 | hg5
  ·exact rb [hE,hE,hE,hY,hY,hN (.pk true)] (!decide (how = 0)) (hk3 hg5 .nil) (by simp only [hg5,bs,reduceIte])
  exact rb [hE,hE,hE,hS,hS,hN (.pk false)] false (hk3 hg5 .nil) (by simp only [hg5,bs,reduceIte])
 refine x_if h rfl (fun hc7 h => ?_) (fun hc7 h => ?_)
 ·refine x_rg (rgn [hE] (⟨[(8,pI 10)],[],0⟩)) ?_
  refine x_toret (x_tr ?_)
  obtain rfl := sj h
  exact ret0 (.int .i64 10) (.refl _) (fun _ => rfl)
 refine x_kk (x_skip (x_tn ?_))
 obtain ⟨x8,hx8,h⟩ := bind_some h
 refine x_rg (rg0 [hE,hN (.cal [] (.int .i64 x8) true),hE,hE] (⟨[(1,pS user),(3,pI how),oP 9 0,(10,pI x1.2.1),(12,pI x3.1),(14,pI (Int.tmod x8 8))],[rH 0 13 (gA5 x1.1 1 2),(1,rL none PV.str x1.1.Notes),(2,rL (some 2) zE1 x1.1.Waits)],3⟩) (kc (c33 hx8) .nil)) ?_
 refine x_join (τ := Int) (fun t => procfs_Open_K9 how x3 t = some r) (fun t => { tm := [(3,.pv (.int .i64 how)),(12,.pv (.int .i64 x3.1)),(14,.pv (.int .i64 t))],hp := [],nx := 0 }) ?_ ?_
 ·rintro p10 h
  replace h : procfs_Open_K9 how x3 p10 = some r := h
  unfold procfs_Open_K9 at h
  refine x_seq ?_
  refine x_rgB (fun b_ => (⟨[(56,pB b_)],[],0⟩ : VSt)) ((decide (64 ≤ how)) || (!decide ((IntKind.wrap .i64 ((BitVec.ofInt (IntKind.bits .i64) x3.1 &&& ~~~ (BitVec.ofInt (IntKind.bits .i64) p10)).toNat : Nat)) = 0))) ?_ ?_
  ·rcases bq (decide (64 ≤ how)) with hg11 | hg11
   ·exact rb [hE,hE,hE,hS,hS,hS,hS,hN (.pk true)] true (hk5 hg11 .nil) (by simp only [hg11,bs,reduceIte])
   exact rb [hE,hE,hE,hY,hY,hY,hY,hN (.pk false)] (!decide ((IntKind.wrap .i64 ((BitVec.ofInt (IntKind.bits .i64) x3.1 &&& ~~~ (BitVec.ofInt (IntKind.bits .i64) p10)).toNat : Nat)) = 0)) (hk5 hg11 .nil) (by simp only [hg11,bs,reduceIte])
  refine x_if h rfl (fun hc13 h => ?_) (fun hc13 h => ?_)
  ·refine x_rg (rgn [hE] (⟨[(8,pI 11)],[],0⟩)) ?_
   refine x_toret (x_tr ?_)
   obtain rfl := sj h
   exact ret0 (.int .i64 11) (.refl _) (fun _ => rfl)
  refine x_kk (x_skip (x_tn ?_))
  refine x_rg (rgn [hE] (⟨[(8,pI 0)],[],0⟩)) ?_
  refine x_toret ?_
  obtain rfl := sj h
  exact ret0 (.int .i64 0) (.refl _) (fun _ => rfl)
 refine x_rg (rgn [hE,hE,hE,hE] (⟨[(3,pI how),(10,pI x1.2.1),(12,pI x3.1),(14,pI (Int.tmod x8 8)),(44,pB (decide (user = x1.1.User)))],[],0⟩)) ?_
 refine x_if h rfl (fun hc14 h => ?_) (fun hc14 h => ?_)
 ·obtain ⟨x15,hx15,h⟩ := bind_some h
  refine x_rgt (rg0 [hE,hN (.cal [] (.int .i64 x15) true),hE,hE,hE] (⟨[(3,pI how),(12,pI x3.1),(14,pI (Int.tmod (IntKind.wrap .i64 (Int.tdiv x15 64)) 8))],[],0⟩) (kc (c33 hx15) .nil)) ?_
  refine x_tn ?_
  exact ⟨(Int.tmod (IntKind.wrap .i64 (Int.tdiv x15 64)) 8),h,by kernel_rfl⟩
 refine kw0 (⟨[(3,pI how),(12,pI x3.1),(14,pI (Int.tmod x8 8))],[],0⟩) ?_
 refine x_skip (x_tn ?_)
 exact ⟨(Int.tmod x8 8),h,by kernel_rfl⟩
theorem c10 {r : Bool} (h : law31_awake = some r) : CallOK Tryd.prog 10 [] (.bool r) true := by
 apply ok10
 unfold law31_awake at h
 refine x_rg (rgn [hE] (⟨[],[],0⟩)) ?_
 obtain ⟨x1,hx1,h⟩ := bind_some h
 refine x_rg (rg0 [hN (.cal [] (.tup [zE3 x1.1,.int .i64 x1.2]) false),hE,hE,hE,hE,hE,hE] (⟨[oP 1 0,(2,pI x1.2)],[rP 0 3 (zE3 x1.1)],1⟩) (kc (show CallOK Tryd.prog 28 [.str [97,110,110]] (.tup [zE3 x1.1,.int .i64 x1.2]) false from ((c28 hx1).frz (.tup (.cons (.agg (.cons (.refl _) (.cons (.refl _) (.cons (.usl _ _) .nil)))) (.cons (.refl _) .nil))))) .nil)) ?_
 refine x_seq ?_
 refine x_rg (rgn [hE,hE] (⟨[oP 1 0,(15,pB (!decide (x1.2 = 0)))],[rP 0 3 (zE3 x1.1)],1⟩)) ?_
 refine x_if h rfl (fun hc2 h => ?_) (fun hc2 h => ?_)
 ·refine x_rg (rgn [hE] (⟨[(0,pB false)],[],0⟩)) ?_
  refine x_toret (x_tr ?_)
  obtain rfl := sj h
  exact ret0 (.bool false) (.refl _) (fun _ => rfl)
 refine x_kk (x_skip (x_tn (x_seq ?_)))
 obtain ⟨x3,hx3,h⟩ := bind_some h
 refine x_rg (rg0 [hE,hN (.call [] [gA15] (.str x3) true),hE] (⟨[oP 1 0,(18,pB (!decide (x3 = [114,99,32,97,110,110,32,115,116,111,112,112,101,100,32,49,10])))],[rP 0 3 (zE3 x1.1)],1⟩) (kc (show LesA [.agg [.int .i64 0,.int .i64 1,.int .i64 2,.str [97,110,110],.str [114,99],.int .i64 0,.int .i64 0,.int .i64 0,.str [],.usl none [],.str [],.usl (some 2) [],.bool false]] [gA15] from (.cons (.agg (.cons (.refl _) (.cons (.refl _) (.cons (.refl _) (.cons (.refl _) (.cons (.refl _) (.cons (.refl _) (.cons (.refl _) (.cons (.refl _) (.cons (.refl _) (.cons (.uslSl _) (.cons (.refl _) (.cons (.uslSl _) (.cons (.refl _) .nil)))))))))))))) .nil)) (kc (c14 hx3) .nil))) ?_
 refine x_if h rfl (fun hc4 h => ?_) (fun hc4 h => ?_)
 ·refine x_rg (rgn [hE] (⟨[(0,pB false)],[],0⟩)) ?_
  refine x_toret (x_tr ?_)
  obtain rfl := sj h
  exact ret0 (.bool false) (.refl _) (fun _ => rfl)
 refine x_kk (x_skip (x_tn (x_seq ?_)))
 obtain ⟨x5,hx5,h⟩ := bind_some h
 refine x_rg (rg0 [hE,hN (.cal [] (.tup [(gA1 x5.1),.int .i64 x5.2]) false),hE,hE,hE,hE,hE,hE] (⟨[oP 1 0,(4,pI x5.2)],[rP 0 3 (zE3 x1.1)],1⟩) (kc (c29 hx5) .nil)) ?_
 refine x_rg (rgn [hE,hE] (⟨[oP 1 0,(25,pB (!decide (x5.2 = 11)))],[rP 0 3 (zE3 x1.1)],1⟩)) ?_
 refine x_if h rfl (fun hc6 h => ?_) (fun hc6 h => ?_)
 ·refine x_rg (rgn [hE] (⟨[(0,pB false)],[],0⟩)) ?_
  refine x_toret (x_tr ?_)
  obtain rfl := sj h
  exact ret0 (.bool false) (.refl _) (fun _ => rfl)
 refine x_kk (x_skip (x_tn ?_))
 obtain ⟨x7,hx7,h⟩ := bind_some h
 refine x_rg (rg0 [hE,hN (.cal [] (.tup [zE3 x7.1,.int .i64 x7.2]) false),hE,hE,hE,hE,hE,hE] (⟨[oP 1 0,(2,pI x7.2),oP 5 1],[rP 0 3 (zE3 x1.1),rP 1 3 (zE3 x7.1)],2⟩) (kc (show CallOK Tryd.prog 29 [zE3 x1.1,.str [97,110,110],.int .i64 1,.str [115,116,111,112]] (.tup [zE3 x7.1,.int .i64 x7.2]) false from ((c29 hx7).frz (.tup (.cons (.agg (.cons (.refl _) (.cons (.refl _) (.cons (.usl _ _) .nil)))) (.cons (.refl _) .nil))))) .nil)) ?_
 refine x_seq ?_
 obtain ⟨t11,ht,h⟩ := bind_some h
 refine x_rgB (fun b_ => (⟨[oP 1 0,oP 5 1,(46,pB b_)],[rP 0 3 (zE3 x1.1),rP 1 3 (zE3 x7.1)],2⟩ : VSt)) t11 ?_ ?_
 ·rcases bq (!decide (x7.2 = 0)) with hg8 | hg8
  ·replace ht := ite_t ht hg8
   obtain rfl := sj ht
   exact rb [hE,hE,hE,hS,hS,hS,hS,hN (.pk true),hE,hS,hS,hS,hS,hS,hS,hE] true (hk5 hg8 (hk6 tt .nil)) rfl
  replace ht := ite_f ht hg8
  rcases bq (!decide ((List.length x7.1.L : Int) = 1)) with hg9 | hg9
  ·replace ht := ite_t ht hg9
   obtain rfl := sj ht
   exact rb [hE,hE,hE,hY,hY,(.y,(.len (List.length x7.1.L : Int))),hY,hN (.pk false),hE,hS,hS,hS,hS,hS,hS,hN (.pk true)] true (hk3 hg8 (kc (lenM zE2 x7.1.L) (hk2 hg8 (kc hg9 (hk6 hg9 .nil))))) rfl
  replace ht := ite_f ht hg9
  obtain ⟨x10,hx10,ht⟩ := bind_some ht
  obtain rfl := sj ht
  exact rb [hE,hE,hE,hY,hY,(.y,(.len (List.length x7.1.L : Int))),hY,hN (.pk false),hE,hY,hY,(.y,(.pAt (zE2 x10))),hY,hY,hY,hN (.pk false)] (!decide (x10.State = 2)) (hk3 hg8 (kc (lenM zE2 x7.1.L) (hk2 hg8 (hk3 hg9 (kc (lsAt_map (f := zE2) hx10) (hk4 hg9 .nil)))))) rfl
 clear ht
 refine x_if h rfl (fun hc12 h => ?_) (fun hc12 h => ?_)
 ·refine x_rg (rgn [hE] (⟨[(0,pB false)],[],0⟩)) ?_
  refine x_toret (x_tr ?_)
  obtain rfl := sj h
  exact ret0 (.bool false) (.refl _) (fun _ => rfl)
 refine x_kk (x_skip (x_tn ?_))
 obtain ⟨x13,hx13,h⟩ := bind_some h
 refine x_rg (rg0 [hE,hN (.cal [] (.tup [(gA1 x13.1),.int .i64 x13.2.1,.int .i64 x13.2.2]) false),hE,hE,hE,hE,hE,hE,hE,hE] (⟨[oP 1 0,(2,pI x13.2.2),oP 6 1,(7,pI x13.2.1)],[rP 0 3 (zE3 x1.1),rH 1 3 (gA9 x13.1 2),(2,rL (some 13) zE2 x13.1.L)],3⟩) (kc (c30 hx13) .nil)) ?_
 obtain ⟨x14,hx14,h⟩ := bind_some h
 refine x_rg (rg0 [hE,hN (.cal [] (.tup [.int .i64 x14.1,.int .i64 x14.2]) true),hE,hE,hE,hE,hE] (⟨[oP 1 0,(2,pI x13.2.2),oP 6 1,(7,pI x13.2.1),(8,pI x14.1),(9,pI x14.2)],[rP 0 3 (zE3 x1.1),rH 1 3 (gA9 x13.1 2),(2,rL (some 13) zE2 x13.1.L)],3⟩) (kc (c16 hx14) .nil)) ?_
 obtain ⟨t25,ht,h⟩ := bind_some h
 refine x_rgB (fun b_ => (⟨[(0,pB b_)],[],0⟩ : VSt)) t25 ?_ ?_
 ·rcases bq (decide (x13.2.1 = 6)) with hg15 | hg15
  ·replace ht := ite_t ht hg15
   rcases bq (decide (x13.2.2 = 0)) with hg16 | hg16
   ·replace ht := ite_t ht hg16
    rcases bq (decide ((List.length x13.1.L : Int) = 1)) with hg17 | hg17
    ·replace ht := ite_t ht hg17
     obtain ⟨x18,hx18,ht⟩ := bind_some ht
     rcases bq (decide (x18.State = 1)) with hg19 | hg19
     ·replace ht := ite_t ht hg19
      rcases bq (decide (x14.1 = 16)) with hg20 | hg20
      ·replace ht := ite_t ht hg20
       rcases bq (decide (x14.2 = 0)) with hg21 | hg21
       ·replace ht := ite_t ht hg21
        obtain ⟨x22,hx22,ht⟩ := bind_some ht
        rcases bq (decide (x22 = 0)) with hg23 | hg23
        ·replace ht := ite_t ht hg23
         obtain ⟨x24,hx24,ht⟩ := bind_some ht
         obtain rfl := sj ht
         exact rb [hE,hE,hE,hY,hY,hN (.pk true),hE,hY,hY,(.y,(.len (List.length x13.1.L : Int))),hY,hN (.pk true),hE,hY,hY,(.y,.rAt),hY,(.y,(.ld (zE2 x18))),hY,hN (.pk true),hE,hY,hY,hN (.pk true),hE,hY,hY,hN (.pk true),hE,hY,(.y,(.cal [] (.int .i64 x22) true)),hY,hN (.pk true),hE,hY,(.y,(.cal [] (.int .i64 x24) true)),hY,hN (.pk true),hE] (decide (x24 = 11)) (hk3 hg15 (hk3 hg16 (kc (lenM zE2 x13.1.L) (hk2 hg16 (hk3 hg17 (kc (rAtM (f := zE2) hx18) (hk2 hg17 (kc (ownAt (f := zE2) hx18) (hk2 hg17 (hk3 hg19 (hk3 hg20 (hk2 hg21 (kc (c11 hx22) (hk2 hg21 (hk2 hg23 (kc (c11 hx24) (hk2 hg23 .nil))))))))))))))))) rfl
        replace ht := ite_f ht hg23
        obtain rfl := sj ht
        exact rb [hE,hE,hE,hY,hY,hN (.pk true),hE,hY,hY,(.y,(.len (List.length x13.1.L : Int))),hY,hN (.pk true),hE,hY,hY,(.y,.rAt),hY,(.y,(.ld (zE2 x18))),hY,hN (.pk true),hE,hY,hY,hN (.pk true),hE,hY,hY,hN (.pk true),hE,hY,(.y,(.cal [] (.int .i64 x22) true)),hY,hN (.pk true),hE,hS,hS,hS,hN (.pk false),hE] false (hk3 hg15 (hk3 hg16 (kc (lenM zE2 x13.1.L) (hk2 hg16 (hk3 hg17 (kc (rAtM (f := zE2) hx18) (hk2 hg17 (kc (ownAt (f := zE2) hx18) (hk2 hg17 (hk3 hg19 (hk3 hg20 (hk2 hg21 (kc (c11 hx22) (hk2 hg21 (hk4 hg23 .nil))))))))))))))) rfl
       replace ht := ite_f ht hg21
       obtain rfl := sj ht
       exact rb [hE,hE,hE,hY,hY,hN (.pk true),hE,hY,hY,(.y,(.len (List.length x13.1.L : Int))),hY,hN (.pk true),hE,hY,hY,(.y,.rAt),hY,(.y,(.ld (zE2 x18))),hY,hN (.pk true),hE,hY,hY,hN (.pk true),hE,hY,hY,hN (.pk true),hE,hS,hS,hS,hN (.pk false),hE,hS,hS,hS,hE,hE] false (hk3 hg15 (hk3 hg16 (kc (lenM zE2 x13.1.L) (hk2 hg16 (hk3 hg17 (kc (rAtM (f := zE2) hx18) (hk2 hg17 (kc (ownAt (f := zE2) hx18) (hk2 hg17 (hk3 hg19 (hk3 hg20 (hk4 hg21 (hk3 ff .nil))))))))))))) rfl
      replace ht := ite_f ht hg20
      obtain rfl := sj ht
      exact rb [hE,hE,hE,hY,hY,hN (.pk true),hE,hY,hY,(.y,(.len (List.length x13.1.L : Int))),hY,hN (.pk true),hE,hY,hY,(.y,.rAt),hY,(.y,(.ld (zE2 x18))),hY,hN (.pk true),hE,hY,hY,hN (.pk true),hE,hS,hS,hN (.pk false),hE,hS,hS,hS,hE,hE,hS,hS,hS,hE,hE] false (hk3 hg15 (hk3 hg16 (kc (lenM zE2 x13.1.L) (hk2 hg16 (hk3 hg17 (kc (rAtM (f := zE2) hx18) (hk2 hg17 (kc (ownAt (f := zE2) hx18) (hk2 hg17 (hk3 hg19 (hk3 hg20 (hk6 ff .nil)))))))))))) rfl
     replace ht := ite_f ht hg19
     obtain rfl := sj ht
     exact rb [hE,hE,hE,hY,hY,hN (.pk true),hE,hY,hY,(.y,(.len (List.length x13.1.L : Int))),hY,hN (.pk true),hE,hY,hY,(.y,.rAt),hY,(.y,(.ld (zE2 x18))),hY,hN (.pk true),hE,hS,hS,hN (.pk false),hE,hS,hS,hE,hE,hS,hS,hS,hE,hE,hS,hS,hS,hE,hE] false (hk3 hg15 (hk3 hg16 (kc (lenM zE2 x13.1.L) (hk2 hg16 (hk3 hg17 (kc (rAtM (f := zE2) hx18) (hk2 hg17 (kc (ownAt (f := zE2) hx18) (hk2 hg17 (hk3 hg19 (hk8 ff .nil))))))))))) rfl
    replace ht := ite_f ht hg17
    obtain rfl := sj ht
    exact rb [hE,hE,hE,hY,hY,hN (.pk true),hE,hY,hY,(.y,(.len (List.length x13.1.L : Int))),hY,hN (.pk true),hE,hS,hS,hS,hS,hS,hS,hN (.pk false),hE,hS,hS,hE,hE,hS,hS,hE,hE,hS,hS,hS,hE,hE,hS,hS,hS,hE,hE] false (hk3 hg15 (hk3 hg16 (kc (lenM zE2 x13.1.L) (hk2 hg16 (kc hg17 (hk6 hg17 (hk2 ff (hk8 ff .nil)))))))) rfl
   replace ht := ite_f ht hg16
   obtain rfl := sj ht
   exact rb [hE,hE,hE,hY,hY,hN (.pk true),hE,hS,hS,hS,hS,hN (.pk false),hE,hS,hS,hS,hS,hS,hS,hE,hE,hS,hS,hE,hE,hS,hS,hE,hE,hS,hS,hS,hE,hE,hS,hS,hS,hE,hE] false (hk3 hg15 (hk5 hg16 (hk8 ff (hk8 ff .nil)))) rfl
  replace ht := ite_f ht hg15
  obtain rfl := sj ht
  exact rb [hE,hE,hE,hS,hS,hN (.pk false),hE,hS,hS,hS,hS,hE,hE,hS,hS,hS,hS,hS,hS,hE,hE,hS,hS,hE,hE,hS,hS,hE,hE,hS,hS,hS,hE,hE,hS,hS,hS,hE,hE] false (hk3 hg15 (hk4 ff (hk8 ff (hk8 ff .nil)))) rfl
 clear ht
 refine x_toret ?_
 obtain rfl := sj h
 exact ret0 (.bool t25) (.refl _) (fun _ => rfl)
theorem c44 {p : api_Procs} {id : Int} {r : Int} (h : ref30_index p id = some r) : CallOK Tryd.prog 44 [zE3 p,.int .i64 id] (.int .i64 r) true := by
 apply ok44
 unfold ref30_index at h
 refine x_rg (rgn [hE,hE] (⟨[(1,pI id),oP 2 0],[rP 0 3 (zE3 p)],1⟩)) ?_
 refine x_seq ?_
 refine x_rg (rgn [hE] (⟨[(1,pI id),oP 2 0,(5,pI 0)],[rP 0 3 (zE3 p)],1⟩)) ?_
 refine x_block ?_
 refine kw0 (⟨[(1,pI id),oP 2 0,(5,pI 0)],[rP 0 3 (zE3 p)],1⟩) ?_
 refine x_loop (σ := Int) h (fun s => ⟨[(1,pI id),oP 2 0,(5,pI s)],[rP 0 3 (zE3 p)],1⟩) (by kernel_rfl) ?_ ?_
 ·rintro i
  kernel_rfl
 rintro i x5 h hx5
 replace h : ref30_index_L5 p id i = some x5 := h
 unfold ref30_index_L5 at h
 refine x_seq ?_
 refine x_rg (rg0 [hE,hE,hE,hN (.len (List.length p.L : Int)),hE] (⟨[(1,pI id),oP 2 0,(5,pI i),(10,pB (decide (i < (List.length p.L : Int))))],[rP 0 3 (zE3 p)],1⟩) (kc (lenM zE2 p.L) .nil)) ?_
 refine x_if h rfl (fun hc6 h => ?_) (fun hc6 h => ?_)
 ·refine x_kk (x_skip (x_tn (x_seq (x_block ?_))))
  obtain ⟨x7,hx7,h⟩ := bind_some h
  refine x_rg (rg0 [hE,hE,hE,hN (.pAt (zE2 x7)),hE,hE,hE,hE] (⟨[(1,pI id),oP 2 0,(5,pI i),(20,pB (decide (x7.Id = id)))],[rP 0 3 (zE3 p)],1⟩) (kc (lsAt_map (f := zE2) hx7) .nil)) ?_
  refine x_if h rfl (fun hc8 h => ?_) (fun hc8 h => ?_)
  ·refine x_rg (rgn [hE,hE] (⟨[(4,pI i)],[],0⟩)) ?_
   refine x_toret (x_br (x_tr (x_tr ?_)))
   replace h := done_leaf h hx5
   refine x_br (x_tr ?_)
   obtain rfl := sj h
   exact ret0 (.int .i64 i) (.refl _) (fun _ => rfl)
  refine x_kk (x_skip (x_bn (x_tn ?_)))
  refine x_rgt (rgn [hE,hE,hE] (⟨[(1,pI id),oP 2 0,(5,pI (IntKind.wrap .i64 (i + 1)))],[rP 0 3 (zE3 p)],1⟩)) ?_
  refine x_tn ?_
  exact ⟨_,(sj h).symm,by kernel_rfl⟩
 refine kw0 (⟨[],[],0⟩) ?_
 refine x_exit ?_
 refine x_te (x_te ?_)
 replace h := done_leaf h hx5
 refine x_bh ?_
 refine x_tn ?_
 refine x_rg (rgn [hE] (⟨[(4,pI (-1))],[],0⟩)) ?_
 refine x_toret ?_
 obtain rfl := sj h
 exact ret0 (.int .i64 (-1)) (.refl _) (fun _ => rfl)
theorem c23 {p : api_Procs} {id : Int} {r : (api_Proc × Bool)} (h : ref30_Find p id = some r) : CallOK Tryd.prog 23 [zE3 p,.int .i64 id] (.tup [zE2 r.1,.bool r.2]) false := by
 apply ok23
 unfold ref30_Find at h
 refine x_rg (st2 := { tm := [(1,.pv (.int .i64 id)),oP 2 0,oP 4 1],hp := [rP 0 3 (zE3 p),rP 1 13 (.agg [.int .i64 0,.int .i64 0,.int .i64 0,.str [],.str [],.int .i64 0,.int .i64 0,.int .i64 0,.str [],.sl none (List.map PV.str ([] : List Str)),.str [],.sl (some 2) (List.map zE1 ([] : List api_Wait)),.bool false])],nx := 2 }) (rg [hE,hE,hE] ({ tm := [(1,.pv (.int .i64 id)),oP 2 0,oP 4 1],hp := [rP 0 3 (zE3 p),rP 1 13 gA4],nx := 2 }) .nil (((Sub.keep (ks := [1,2,4]) (st := ⟨[(1,.pv (.int .i64 id)),oP 2 0,oP 4 1],rP 1 13 (.agg [.int .i64 0,.int .i64 0,.int .i64 0,.str [],.str [],.int .i64 0,.int .i64 0,.int .i64 0,.str [],.sl none (List.map PV.str ([] : List Str)),.str [],.sl (some 2) (List.map zE1 ([] : List api_Wait)),.bool false]) :: [rP 0 3 (zE3 p),rP 1 13 gA16],2⟩) (st' := { tm := [(1,.pv (.int .i64 id)),oP 2 0,oP 4 1],hp := [rP 0 3 (zE3 p),rP 1 13 (.agg [.int .i64 0,.int .i64 0,.int .i64 0,.str [],.str [],.int .i64 0,.int .i64 0,.int .i64 0,.str [],.sl none (List.map PV.str ([] : List Str)),.str [],.sl (some 2) (List.map zE1 ([] : List api_Wait)),.bool false])],nx := 2 }) (by kernel_rfl)).trans (Sub.leBx (st := { tm := [(1,.pv (.int .i64 id)),oP 2 0,oP 4 1],hp := [rP 0 3 (zE3 p),rP 1 13 gA16],nx := 2 }) 1 (r := .p (some 13) [gA16]) (r' := .p (some 13) [.agg [.int .i64 0,.int .i64 0,.int .i64 0,.str [],.str [],.int .i64 0,.int .i64 0,.int .i64 0,.str [],.sl none (List.map PV.str ([] : List Str)),.str [],.sl (some 2) (List.map zE1 ([] : List api_Wait)),.bool false]]) rfl rfl rfl rfl rfl rfl (.same (.same (.same (.same (.same (.same (.same (.same (.same (.same (.same (.pv (.uslSl _) (.same .nil))))))))))))) rfl)).trans ((Sub.keep (ks := [1,2,4]) (st := ⟨[(1,.pv (.int .i64 id)),oP 2 0,oP 4 1],rP 1 13 gA16 :: [rP 0 3 (zE3 p),rP 1 13 gA4],2⟩) (st' := { tm := [(1,.pv (.int .i64 id)),oP 2 0,oP 4 1],hp := [rP 0 3 (zE3 p),rP 1 13 gA16],nx := 2 }) (by kernel_rfl)).trans (Sub.leBx (st := { tm := [(1,.pv (.int .i64 id)),oP 2 0,oP 4 1],hp := [rP 0 3 (zE3 p),rP 1 13 gA4],nx := 2 }) 1 (r := .p (some 13) [gA4]) (r' := .p (some 13) [gA16]) rfl rfl rfl rfl rfl rfl (.same (.same (.same (.same (.same (.same (.same (.same (.same (.pv (.uslSl _) (.same (.same (.same .nil))))))))))))) rfl)))) ?_
 obtain ⟨x1,hx1,h⟩ := bind_some h
 refine x_rg (rg0 [hE,hE,hN (.cal [] (.int .i64 x1) true),hE] (⟨[oP 2 0,oP 4 1,(6,pI x1)],[rP 0 3 (zE3 p),rP 1 13 (.agg [.int .i64 0,.int .i64 0,.int .i64 0,.str [],.str [],.int .i64 0,.int .i64 0,.int .i64 0,.str [],.sl none (List.map PV.str ([] : List Str)),.str [],.sl (some 2) (List.map zE1 ([] : List api_Wait)),.bool false])],2⟩) (kc (c44 hx1) .nil)) ?_
 refine x_seq ?_
 refine x_rg (rgn [hE,hE] (⟨[oP 2 0,oP 4 1,(6,pI x1),(11,pB (decide (x1 < 0)))],[rP 0 3 (zE3 p),rP 1 13 (.agg [.int .i64 0,.int .i64 0,.int .i64 0,.str [],.str [],.int .i64 0,.int .i64 0,.int .i64 0,.str [],.sl none (List.map PV.str ([] : List Str)),.str [],.sl (some 2) (List.map zE1 ([] : List api_Wait)),.bool false])],2⟩)) ?_
 refine x_if h rfl (fun hc2 h => ?_) (fun hc2 h => ?_)
 ·refine x_rg (st2 := { tm := [oP 4 0,(5,.pv (.bool false))],hp := [rP 0 13 (.agg [.int .i64 0,.int .i64 0,.int .i64 0,.str [],.str [],.int .i64 0,.int .i64 0,.int .i64 0,.str [],.sl none (List.map PV.str ([] : List Str)),.str [],.sl (some 2) (List.map zE1 ([] : List api_Wait)),.bool false])],nx := 1 }) (rg [hE,hE,hE] ({ tm := [oP 4 0,(5,.pv (.bool false))],hp := [rP 0 13 gA4],nx := 1 }) .nil (((Sub.keep (ks := [4,5]) (st := ⟨[oP 4 0,(5,.pv (.bool false))],rP 0 13 (.agg [.int .i64 0,.int .i64 0,.int .i64 0,.str [],.str [],.int .i64 0,.int .i64 0,.int .i64 0,.str [],.sl none (List.map PV.str ([] : List Str)),.str [],.sl (some 2) (List.map zE1 ([] : List api_Wait)),.bool false]) :: [rP 0 13 gA16],1⟩) (st' := { tm := [oP 4 0,(5,.pv (.bool false))],hp := [rP 0 13 (.agg [.int .i64 0,.int .i64 0,.int .i64 0,.str [],.str [],.int .i64 0,.int .i64 0,.int .i64 0,.str [],.sl none (List.map PV.str ([] : List Str)),.str [],.sl (some 2) (List.map zE1 ([] : List api_Wait)),.bool false])],nx := 1 }) (by kernel_rfl)).trans (Sub.leBx (st := { tm := [oP 4 0,(5,.pv (.bool false))],hp := [rP 0 13 gA16],nx := 1 }) 0 (r := .p (some 13) [gA16]) (r' := .p (some 13) [.agg [.int .i64 0,.int .i64 0,.int .i64 0,.str [],.str [],.int .i64 0,.int .i64 0,.int .i64 0,.str [],.sl none (List.map PV.str ([] : List Str)),.str [],.sl (some 2) (List.map zE1 ([] : List api_Wait)),.bool false]]) rfl rfl rfl rfl rfl rfl (.same (.same (.same (.same (.same (.same (.same (.same (.same (.same (.same (.pv (.uslSl _) (.same .nil))))))))))))) rfl)).trans ((Sub.keep (ks := [4,5]) (st := ⟨[oP 4 0,(5,.pv (.bool false))],rP 0 13 gA16 :: [rP 0 13 gA4],1⟩) (st' := { tm := [oP 4 0,(5,.pv (.bool false))],hp := [rP 0 13 gA16],nx := 1 }) (by kernel_rfl)).trans (Sub.leBx (st := { tm := [oP 4 0,(5,.pv (.bool false))],hp := [rP 0 13 gA4],nx := 1 }) 0 (r := .p (some 13) [gA4]) (r' := .p (some 13) [gA16]) rfl rfl rfl rfl rfl rfl (.same (.same (.same (.same (.same (.same (.same (.same (.same (.pv (.uslSl _) (.same (.same (.same .nil))))))))))))) rfl)))) ?_
  refine x_toret (x_tr ?_)
  obtain rfl := sj h
  exact ret0 (.tup [.agg [.int .i64 0,.int .i64 0,.int .i64 0,.str [],.str [],.int .i64 0,.int .i64 0,.int .i64 0,.str [],.sl none (List.map PV.str ([] : List Str)),.str [],.sl (some 2) (List.map zE1 ([] : List api_Wait)),.bool false],.bool false]) (.tup (.cons (.refl _) (.cons (.refl _) .nil))) (fun h => nomatch h)
 refine x_kk (x_skip (x_tn ?_))
 obtain ⟨x3,hx3,h⟩ := bind_some h
 refine x_rg (rg0 [hE,hE,hE,hN (.pAt (zE2 x3)),hE,hE,hE] (⟨[oP 4 0,(5,pB true)],[rP 0 13 (zE2 x3)],1⟩) (kc (lsAt_map (f := zE2) hx3) .nil)) ?_
 refine x_toret ?_
 obtain rfl := sj h
 exact ret0 (.tup [zE2 x3,.bool true]) (.tup (.cons (.refl _) (.cons (.refl _) .nil))) (fun h => nomatch h)
theorem c34 {p : api_Procs} {id : Int} {r : Bool} (h : ref31_exists p id = some r) : CallOK Tryd.prog 34 [zE3 p,.int .i64 id] (.bool r) true := by
 apply ok34
 unfold ref31_exists at h
 refine x_rg (rgn [hE,hE] (⟨[(1,pI id),oP 2 0],[rP 0 3 (zE3 p)],1⟩)) ?_
 refine x_seq ?_
 refine x_rg (rgn [hE,hE] (⟨[(1,pI id),oP 2 0,(8,pB (decide (id = 1)))],[rP 0 3 (zE3 p)],1⟩)) ?_
 refine x_if h rfl (fun hc1 h => ?_) (fun hc1 h => ?_)
 ·refine x_rg (rgn [hE] (⟨[(4,pB true)],[],0⟩)) ?_
  refine x_toret (x_tr ?_)
  obtain rfl := sj h
  exact ret0 (.bool true) (.refl _) (fun _ => rfl)
 refine x_kk (x_skip (x_tn (x_seq ?_)))
 refine x_rgB (fun b_ => (⟨[(1,pI id),oP 2 0,(15,pB b_)],[rP 0 3 (zE3 p)],1⟩ : VSt)) ((decide (id < 16)) || (decide (5 < (Int.tmod id 16)))) ?_ ?_
 ·rcases bq (decide (id < 16)) with hg2 | hg2
  ·exact rb [hE,hE,hE,hS,hS,hS,hN (.pk true)] true (hk4 hg2 .nil) (by simp only [hg2,bs,reduceIte])
  exact rb [hE,hE,hE,hY,hY,hY,hN (.pk false)] (decide (5 < (Int.tmod id 16))) (hk4 hg2 .nil) (by simp only [hg2,bs,reduceIte])
 refine x_if h rfl (fun hc4 h => ?_) (fun hc4 h => ?_)
 ·refine x_rg (rgn [hE] (⟨[(4,pB false)],[],0⟩)) ?_
  refine x_toret (x_tr ?_)
  obtain rfl := sj h
  exact ret0 (.bool false) (.refl _) (fun _ => rfl)
 refine x_kk (x_skip (x_tn ?_))
 obtain ⟨x5,hx5,h⟩ := bind_some h
 refine x_rg (rg0 [hE,hE,hE,hN (.cal [] (.tup [zE2 x5.1,.bool x5.2]) false),hE,hE,hE,hE,hE,hE] (⟨[(6,pB x5.2)],[],0⟩) (kc (c23 hx5) .nil)) ?_
 refine x_rg (rgn [hE,hE] (⟨[(4,pB x5.2)],[],0⟩)) ?_
 refine x_toret ?_
 obtain rfl := sj h
 exact ret0 (.bool x5.2) (.refl _) (fun _ => rfl)
theorem c37 {id : Int} {r : Bool} (h : ref31_directory id = some r) : CallOK Tryd.prog 37 [.int .i64 id] (.bool r) true := by
 apply ok37
 unfold ref31_directory at h
 refine x_rg (rgn [hE] (⟨[(0,pI id)],[],0⟩)) ?_
 refine x_rgB (fun b_ => (⟨[(2,pB b_)],[],0⟩ : VSt)) ((decide (id = 1)) || ((decide (16 ≤ id)) && (decide ((Int.tmod id 16) = 0)))) ?_ ?_
 ·rcases bq (decide (id = 1)) with hg1 | hg1
  ·exact rb [hE,hE,hE,hS,hS,hS,(.u,.e),(.u,.e),(.u,.e),hS,hN (.pk true),hE] true (hk5 hg1 .nil) (by simp only [hg1,bs,reduceIte])
  rcases bq (decide (16 ≤ id)) with hg2 | hg2
  ·exact rb [hE,hE,hE,hY,hY,hY,hY,hY,hY,(.y,(.pk true)),hN (.pk false),hE] (decide ((Int.tmod id 16) = 0)) (hk3 hg1 (hk3 hg2 (kc hg1 (kc hg2 (kc hg1 .nil))))) (by simp only [hg1,hg2,bs,reduceIte])
  exact rb [hE,hE,hE,hY,hY,hY,hS,hS,hS,(.y,(.pk false)),hN (.pk false),hE] false (hk3 hg1 (hk3 hg2 (kc hg1 (kc hg2 (kc hg1 .nil))))) (by simp only [hg1,hg2,bs,reduceIte])
 refine x_toret ?_
 obtain rfl := sj h
 exact ret0 (.bool ((decide (id = 1)) || ((decide (16 ≤ id)) && (decide ((Int.tmod id 16) = 0))))) (.refl _) (fun _ => rfl)
theorem c36 {id : Int} {r : Int} (h : ref31_mode id = some r) : CallOK Tryd.prog 36 [.int .i64 id] (.int .i64 r) true := by
 apply ok36
 unfold ref31_mode at h
 refine x_rg (rgn [hE] (⟨[(0,pI id)],[],0⟩)) ?_
 refine x_seq (x_block ?_)
 obtain ⟨x1,hx1,h⟩ := bind_some h
 refine x_rg (rg0 [hE,hN (.cal [] (.bool x1) true),hE] (⟨[(0,pI id),(3,pB x1)],[],0⟩) (kc (c37 hx1) .nil)) ?_
 refine x_if h rfl (fun hc2 h => ?_) (fun hc2 h => ?_)
 ·refine x_rg (rgn [hE] (⟨[(2,pI 2147484013)],[],0⟩)) ?_
  refine x_toret (x_br (x_tr ?_))
  obtain rfl := sj h
  exact ret0 (.int .i64 2147484013) (.refl _) (fun _ => rfl)
 refine x_rgB (fun b_ => (⟨[(0,pI id),(6,pB b_)],[],0⟩ : VSt)) ((decide ((Int.tmod id 16) = 1)) || (decide ((Int.tmod id 16) = 3))) ?_ ?_
 ·rcases bq (decide ((Int.tmod id 16) = 1)) with hg3 | hg3
  ·exact rb [hE,hE,hE,hE,hS,hS,hS,hN (.pk true),hE] true (hk4 hg3 .nil) (by simp only [hg3,bs,reduceIte])
  exact rb [hE,hE,hE,hE,hY,hY,hY,hN (.pk false),hE] (decide ((Int.tmod id 16) = 3)) (hk4 hg3 .nil) (by simp only [hg3,bs,reduceIte])
 refine x_if h rfl (fun hc5 h => ?_) (fun hc5 h => ?_)
 ·refine x_rg (rgn [hE] (⟨[(2,pI 128)],[],0⟩)) ?_
  refine x_toret (x_br (x_tr ?_))
  obtain rfl := sj h
  exact ret0 (.int .i64 128) (.refl _) (fun _ => rfl)
 refine x_rg (rgn [hE,hE,hE,hE] (⟨[(15,pB (decide ((Int.tmod id 16) = 4)))],[],0⟩)) ?_
 refine x_if h rfl (fun hc6 h => ?_) (fun hc6 h => ?_)
 ·refine x_rg (rgn [hE] (⟨[(2,pI 256)],[],0⟩)) ?_
  refine x_toret (x_br (x_tr ?_))
  obtain rfl := sj h
  exact ret0 (.int .i64 256) (.refl _) (fun _ => rfl)
 refine x_kk (x_skip (x_bn (x_tn ?_)))
 refine x_rg (rgn [hE] (⟨[(2,pI 292)],[],0⟩)) ?_
 refine x_toret ?_
 obtain rfl := sj h
 exact ret0 (.int .i64 292) (.refl _) (fun _ => rfl)
theorem c65 {base : Int} {r : Bool} (h : ref01_based base = some r) : CallOK Tryd.prog 65 [.int .i64 base] (.bool r) true := by
 apply ok65
 unfold ref01_based at h
 refine x_rg (rgn [hE] (⟨[(0,pI base)],[],0⟩)) ?_
 refine x_rgB (fun b_ => (⟨[(2,pB b_)],[],0⟩ : VSt)) ((decide (base = 8)) || ((decide (base = 10)) || (decide (base = 16)))) ?_ ?_
 ·rcases bq (decide (base = 8)) with hg1 | hg1
  ·exact rb [hE,hE,hE,hS,hS,hN (.pk true),hE,hS,hS,hE,hE] true (hk3 hg1 (hk2 tt .nil)) (by simp only [hg1,bs,reduceIte])
  rcases bq (decide (base = 10)) with hg2 | hg2
  ·exact rb [hE,hE,hE,hY,hY,hN (.pk false),hE,hS,hS,hN (.pk true),hE] true (hk3 hg1 (hk3 hg2 .nil)) (by simp only [hg1,hg2,bs,reduceIte])
  exact rb [hE,hE,hE,hY,hY,hN (.pk false),hE,hY,hY,hN (.pk false),hE] (decide (base = 16)) (hk3 hg1 (hk3 hg2 .nil)) (by simp only [hg1,hg2,bs,reduceIte])
 refine x_toret ?_
 obtain rfl := sj h
 exact ret0 (.bool ((decide (base = 8)) || ((decide (base = 10)) || (decide (base = 16))))) (.refl _) (fun _ => rfl)
theorem c66 {n : Int} {base : Int} {r : Str} (h : ref01_digits n base = some r) : CallOK Tryd.prog 66 [.int .i64 n,.int .i64 base] (.str r) true := by
 apply ok66
 unfold ref01_digits at h
 refine x_rg (rgn [hE] (⟨[(0,pI n),(1,pI base)],[],0⟩)) ?_
 refine x_rg (rgn [hE] (⟨[(0,pI n),(1,pI base),(5,pS [])],[],0⟩)) ?_
 refine x_seq (x_block ?_)
 refine kw0 (⟨[(0,pI n),(1,pI base),(5,pS [])],[],0⟩) ?_
 refine x_loop (σ := (Int × Str)) h (fun s => ⟨[(0,pI s.1),(1,pI base),(5,pS s.2)],[],0⟩) (by kernel_rfl) ?_ ?_
 ·rintro ⟨n_1,s_⟩
  kernel_rfl
 rintro ⟨n_1,s_⟩ x8 h hx8
 replace h : ref01_digits_L8 base n_1 s_ = some x8 := h
 unfold ref01_digits_L8 at h
 refine x_seq ?_
 refine x_rgB (fun b_ => (⟨[(0,pI n_1),(1,pI base),(5,pS s_),(12,pB b_)],[],0⟩ : VSt)) ((decide (n_1 < 0)) || (decide (s_ = []))) ?_ ?_
 ·rcases bq (decide (n_1 < 0)) with hg9 | hg9
  ·exact rb [hE,hE,hE,hS,hS,hN (.pk true)] true (hk3 hg9 .nil) (by simp only [hg9,bs,reduceIte])
  exact rb [hE,hE,hE,hY,hY,hN (.pk false)] (decide (s_ = [])) (hk3 hg9 .nil) (by simp only [hg9,bs,reduceIte])
 refine x_if h rfl (fun hc11 h => ?_) (fun hc11 h => ?_)
 ·refine x_kk (x_skip (x_tn (x_block ?_)))
  obtain ⟨x12,hx12,h⟩ := bind_some h
  refine x_rg (rg0 [hE,hE,hN (.dv x12),hE,hE] (⟨[(0,pI n_1),(1,pI base),(5,pS s_),(6,pI (IntKind.wrap .i64 (0 - x12)))],[],0⟩) (kc hx12 .nil)) ?_
  obtain ⟨x13,hx13,h⟩ := bind_some h
  obtain ⟨x14,hx14,h⟩ := bind_some h
  refine x_rg (rg0 [hE,hE,hE,hN (.cutS x13),hE,hN (.cat x14),hE] (⟨[(0,pI n_1),(1,pI base),(5,pS x14)],[],0⟩) (kc hx13 (kc hx14 .nil))) ?_
  obtain ⟨x15,hx15,h⟩ := bind_some h
  refine x_rgt (rg0 [hE,hE,hN (.dv x15),hE] (⟨[(0,pI x15),(1,pI base),(5,pS x14)],[],0⟩) (kc hx15 .nil)) ?_
  refine x_bn (x_tn ?_)
  exact ⟨_,(sj h).symm,by kernel_rfl⟩
 refine kw0 (⟨[(5,pS s_)],[],0⟩) ?_
 refine x_exit ?_
 refine x_te (x_te ?_)
 replace h := done_leaf h hx8
 refine x_bh ?_
 refine x_tn ?_
 refine x_rg (rgn [hE,hE] (⟨[(4,pS s_)],[],0⟩)) ?_
 refine x_toret ?_
 obtain rfl := sj h
 exact ret0 (.str s_) (.refl _) (fun _ => rfl)
theorem c40 {n : Int} {base : Int} {r : Str} (h : ref01_Text n base = some r) : CallOK Tryd.prog 40 [.int .i64 n,.int .i64 base] (.str r) true := by
 apply ok40
 unfold ref01_Text at h
 refine x_rg (rgn [hE] (⟨[(0,pI n),(1,pI base)],[],0⟩)) ?_
 refine x_seq (x_block ?_)
 obtain ⟨x1,hx1,h⟩ := bind_some h
 refine x_rg (rg0 [hE,hN (.cal [] (.bool x1) true),hE,hE] (⟨[(0,pI n),(1,pI base),(5,pB (!x1))],[],0⟩) (kc (c65 hx1) .nil)) ?_
 refine x_if h rfl (fun hc2 h => ?_) (fun hc2 h => ?_)
 ·refine x_rg (rgn [hE] (⟨[(4,pS [])],[],0⟩)) ?_
  refine x_toret (x_br (x_tr ?_))
  obtain rfl := sj h
  exact ret0 (.str []) (.refl _) (fun _ => rfl)
 refine x_rg (rgn [hE,hE,hE] (⟨[(0,pI n),(1,pI base),(9,pB (decide (n < 0)))],[],0⟩)) ?_
 refine x_if h rfl (fun hc3 h => ?_) (fun hc3 h => ?_)
 ·obtain ⟨x4,hx4,h⟩ := bind_some h
  obtain ⟨x5,hx5,h⟩ := bind_some h
  refine x_rg (rg0 [hE,hE,hN (.cal [] (.str x4) true),hN (.cat x5),hE] (⟨[(4,pS x5)],[],0⟩) (kc (c66 hx4) (kc hx5 .nil))) ?_
  refine x_toret (x_br (x_tr ?_))
  obtain rfl := sj h
  exact ret0 (.str x5) (.refl _) (fun _ => rfl)
 refine x_kk (x_skip (x_bn (x_tn ?_)))
 obtain ⟨x6,hx6,h⟩ := bind_some h
 refine x_rg (rg0 [hE,hE,hE,hN (.cal [] (.str x6) true),hE] (⟨[(4,pS x6)],[],0⟩) (kc (c66 hx6) .nil)) ?_
 refine x_toret ?_
 obtain rfl := sj h
 exact ret0 (.str x6) (.refl _) (fun _ => rfl)
theorem c43 {k : Int} {r : Str} (h : ref31_names k = some r) : CallOK Tryd.prog 43 [.int .i64 k] (.str r) true := by
 apply ok43
 unfold ref31_names at h
 refine x_rg (rgn [hE] (⟨[(0,pI k)],[],0⟩)) ?_
 refine x_seq ?_
 refine x_rg (rgn [hE] (⟨[(3,pI k)],[],0⟩)) ?_
 refine x_block ?_
 refine x_rg (rgn [hE,hE] (⟨[(3,pI k),(4,pB (decide (k = 1)))],[],0⟩)) ?_
 refine x_if h rfl (fun hc1 h => ?_) (fun hc1 h => ?_)
 ·refine x_rg (rgn [hE] (⟨[(2,pS [99,116,108])],[],0⟩)) ?_
  refine x_toret (x_br (x_tr ?_))
  obtain rfl := sj h
  exact ret0 (.str [99,116,108]) (.refl _) (fun _ => rfl)
 refine x_rg (rgn [hE,hE] (⟨[(3,pI k),(6,pB (decide (k = 2)))],[],0⟩)) ?_
 refine x_if h rfl (fun hc2 h => ?_) (fun hc2 h => ?_)
 ·refine x_rg (rgn [hE] (⟨[(2,pS [115,116,97,116,117,115])],[],0⟩)) ?_
  refine x_toret (x_br (x_tr ?_))
  obtain rfl := sj h
  exact ret0 (.str [115,116,97,116,117,115]) (.refl _) (fun _ => rfl)
 refine x_rg (rgn [hE,hE] (⟨[(3,pI k),(8,pB (decide (k = 3)))],[],0⟩)) ?_
 refine x_if h rfl (fun hc3 h => ?_) (fun hc3 h => ?_)
 ·refine x_rg (rgn [hE] (⟨[(2,pS [110,111,116,101])],[],0⟩)) ?_
  refine x_toret (x_br (x_tr ?_))
  obtain rfl := sj h
  exact ret0 (.str [110,111,116,101]) (.refl _) (fun _ => rfl)
 refine x_rg (rgn [hE,hE] (⟨[(10,pB (decide (k = 4)))],[],0⟩)) ?_
 refine x_if h rfl (fun hc4 h => ?_) (fun hc4 h => ?_)
 ·refine x_rg (rgn [hE] (⟨[(2,pS [119,97,105,116])],[],0⟩)) ?_
  refine x_toret (x_br (x_tr ?_))
  obtain rfl := sj h
  exact ret0 (.str [119,97,105,116]) (.refl _) (fun _ => rfl)
 refine x_kk (x_skip (x_bn (x_tn ?_)))
 refine x_rg (rgn [hE] (⟨[(2,pS [99,119,100])],[],0⟩)) ?_
 refine x_toret ?_
 obtain rfl := sj h
 exact ret0 (.str [99,119,100]) (.refl _) (fun _ => rfl)
theorem c17 {p : api_Procs} {id : Int} {name : Str} {r : (Int × Int)} (h : ref31_Walk p id name = some r) : CallOK Tryd.prog 17 [zE3 p,.int .i64 id,.str name] (.tup [.int .i64 r.1,.int .i64 r.2]) true := by
 apply ok17
 unfold ref31_Walk at h
 refine x_rg (rgn [hE,hE,hE] (⟨[(1,pI id),(2,pS name),oP 3 0],[rP 0 3 (zE3 p)],1⟩)) ?_
 refine x_seq (x_block ?_)
 obtain ⟨x1,hx1,h⟩ := bind_some h
 refine x_rg (rg0 [hE,hE,hN (.cal [] (.bool x1) true),hE,hE] (⟨[(1,pI id),(2,pS name),oP 3 0,(10,pB (!x1))],[rP 0 3 (zE3 p)],1⟩) (kc (c34 hx1) .nil)) ?_
 refine x_if h rfl (fun hc2 h => ?_) (fun hc2 h => ?_)
 ·refine x_rg (rgn [hE,hE] (⟨[(6,pI 0),(7,pI 8)],[],0⟩)) ?_
  refine x_toret (x_br (x_tr ?_))
  obtain rfl := sj h
  exact ret0 (.tup [.int .i64 0,.int .i64 8]) (.tup (.cons (.refl _) (.cons (.refl _) .nil))) (fun _ => rfl)
 obtain ⟨x3,hx3,h⟩ := bind_some h
 refine x_rg (rg0 [hE,hN (.cal [] (.bool x3) true),hE,hE] (⟨[(1,pI id),(2,pS name),oP 3 0,(15,pB (!x3))],[rP 0 3 (zE3 p)],1⟩) (kc (c37 hx3) .nil)) ?_
 refine x_if h rfl (fun hc4 h => ?_) (fun hc4 h => ?_)
 ·refine x_rg (rgn [hE,hE] (⟨[(6,pI 0),(7,pI 9)],[],0⟩)) ?_
  refine x_toret (x_br (x_tr ?_))
  obtain rfl := sj h
  exact ret0 (.tup [.int .i64 0,.int .i64 9]) (.tup (.cons (.refl _) (.cons (.refl _) .nil))) (fun _ => rfl)
 refine x_rg (rgn [hE,hE,hE] (⟨[(1,pI id),(2,pS name),oP 3 0,(19,pB (decide (name = [46,46])))],[rP 0 3 (zE3 p)],1⟩)) ?_
 refine x_if h rfl (fun hc5 h => ?_) (fun hc5 h => ?_)
 ·refine x_rg (rgn [hE,hE] (⟨[(6,pI 1),(7,pI 0)],[],0⟩)) ?_
  refine x_toret (x_br (x_tr ?_))
  obtain rfl := sj h
  exact ret0 (.tup [.int .i64 1,.int .i64 0]) (.tup (.cons (.refl _) (.cons (.refl _) .nil))) (fun _ => rfl)
 refine x_kk (x_skip (x_bn (x_tn (x_seq ?_))))
 refine x_rg (rgn [hE] (⟨[(1,pI id),(2,pS name),oP 3 0,(8,pI 1)],[rP 0 3 (zE3 p)],1⟩)) ?_
 refine x_block ?_
 refine kw0 (⟨[(1,pI id),(2,pS name),oP 3 0,(8,pI 1)],[rP 0 3 (zE3 p)],1⟩) ?_
 refine x_loop (σ := Int) h (fun s => ⟨[(1,pI id),(2,pS name),oP 3 0,(8,pI s)],[rP 0 3 (zE3 p)],1⟩) (by kernel_rfl) ?_ ?_
 ·rintro k
  kernel_rfl
 rintro k x10 h hx10
 replace h : ref31_Walk_L10 p id name k = some x10 := h
 unfold ref31_Walk_L10 at h
 refine x_seq ?_
 refine x_rgB (fun b_ => (⟨[(1,pI id),(2,pS name),oP 3 0,(8,pI k),(27,pB b_)],[rP 0 3 (zE3 p)],1⟩ : VSt)) ((decide (k ≤ 5)) && (decide (1 < id))) ?_ ?_
 ·rcases bq (decide (k ≤ 5)) with hg11 | hg11
  ·exact rb [hE,hE,hE,hY,hY,hN (.pk true)] (decide (1 < id)) (hk3 hg11 .nil) (by simp only [hg11,bs,reduceIte])
  exact rb [hE,hE,hE,hS,hS,hN (.pk false)] false (hk3 hg11 .nil) (by simp only [hg11,bs,reduceIte])
 refine x_if h rfl (fun hc13 h => ?_) (fun hc13 h => ?_)
 ·refine x_kk (x_skip (x_tn (x_seq (x_block ?_))))
  obtain ⟨x14,hx14,h⟩ := bind_some h
  refine x_rg (rg0 [hE,hN (.cal [] (.str x14) true),hE,hE] (⟨[(1,pI id),(2,pS name),oP 3 0,(8,pI k),(33,pB (decide (x14 = name)))],[rP 0 3 (zE3 p)],1⟩) (kc (c43 hx14) .nil)) ?_
  refine x_if h rfl (fun hc15 h => ?_) (fun hc15 h => ?_)
  ·refine x_rg (rgn [hE,hE,hE,hE,hE] (⟨[(6,pI (IntKind.wrap .i64 (id + k))),(7,pI 0)],[],0⟩)) ?_
   refine x_toret (x_br (x_tr (x_tr ?_)))
   replace h := done_leaf h hx10
   refine x_br (x_tr ?_)
   obtain rfl := sj h
   exact ret0 (.tup [.int .i64 (IntKind.wrap .i64 (id + k)),.int .i64 0]) (.tup (.cons (.refl _) (.cons (.refl _) .nil))) (fun _ => rfl)
  refine x_kk (x_skip (x_bn (x_tn ?_)))
  refine x_rgt (rgn [hE,hE,hE] (⟨[(1,pI id),(2,pS name),oP 3 0,(8,pI (IntKind.wrap .i64 (k + 1)))],[rP 0 3 (zE3 p)],1⟩)) ?_
  refine x_tn ?_
  exact ⟨_,(sj h).symm,by kernel_rfl⟩
 refine kw0 (⟨[(1,pI id),(2,pS name),oP 3 0],[rP 0 3 (zE3 p)],1⟩) ?_
 refine x_exit ?_
 refine x_te (x_te ?_)
 replace h := done_map h hx10
 refine x_bh ?_
 refine x_tn (x_seq ?_)
 refine x_rg (rgn [hE] (⟨[(1,pI id),(2,pS name),oP 3 0,(9,pI 0)],[rP 0 3 (zE3 p)],1⟩)) ?_
 refine x_block ?_
 refine kw0 (⟨[(1,pI id),(2,pS name),oP 3 0,(9,pI 0)],[rP 0 3 (zE3 p)],1⟩) ?_
 refine x_loop (σ := Int) h (fun s => ⟨[(1,pI id),(2,pS name),oP 3 0,(9,pI s)],[rP 0 3 (zE3 p)],1⟩) (by kernel_rfl) ?_ ?_
 ·rintro i
  kernel_rfl
 rintro i x24 h hx24
 replace h : ref31_Walk_L24 p id name i = some x24 := h
 unfold ref31_Walk_L24 at h
 refine x_seq ?_
 refine x_rgB (fun b_ => (⟨[(1,pI id),(2,pS name),oP 3 0,(9,pI i),(45,pB b_)],[rP 0 3 (zE3 p)],1⟩ : VSt)) ((decide (i < (List.length p.L : Int))) && (decide (id = 1))) ?_ ?_
 ·rcases bq (decide (i < (List.length p.L : Int))) with hg25 | hg25
  ·exact rb [hE,hE,hE,hN (.len (List.length p.L : Int)),hE,hE,hY,hY,hN (.pk true)] (decide (id = 1)) (kc (lenM zE2 p.L) (hk3 hg25 .nil)) (by simp only [hg25,bs,reduceIte])
  exact rb [hE,hE,hE,hN (.len (List.length p.L : Int)),hE,hE,hS,hS,hN (.pk false)] false (kc (lenM zE2 p.L) (hk3 hg25 .nil)) (by simp only [hg25,bs,reduceIte])
 refine x_if h rfl (fun hc27 h => ?_) (fun hc27 h => ?_)
 ·refine x_kk (x_skip (x_tn (x_seq (x_block ?_))))
  obtain ⟨x28,hx28,h⟩ := bind_some h
  obtain ⟨x29,hx29,h⟩ := bind_some h
  refine x_rg (rg0 [hE,hE,hE,hN (.pAt (zE2 x28)),hE,hE,hN (.cal [] (.str x29) true),hE,hE] (⟨[(1,pI id),(2,pS name),oP 3 0,(9,pI i),(56,pB (decide (x29 = name)))],[rP 0 3 (zE3 p)],1⟩) (kc (lsAt_map (f := zE2) hx28) (kc (c40 hx29) .nil))) ?_
  refine x_if h rfl (fun hc30 h => ?_) (fun hc30 h => ?_)
  ·obtain ⟨x31,hx31,h⟩ := bind_some h
   refine x_rg (rg0 [hE,hE,hE,hN (.pAt (zE2 x31)),hE,hE,hE,hE,hE] (⟨[(6,pI (IntKind.wrap .i64 (16 * x31.Id))),(7,pI 0)],[],0⟩) (kc (lsAt_map (f := zE2) hx31) .nil)) ?_
   refine x_toret (x_br (x_tr (x_tr ?_)))
   replace h := done_leaf h hx24
   refine x_br (x_tr ?_)
   obtain rfl := sj h
   exact ret0 (.tup [.int .i64 (IntKind.wrap .i64 (16 * x31.Id)),.int .i64 0]) (.tup (.cons (.refl _) (.cons (.refl _) .nil))) (fun _ => rfl)
  refine x_kk (x_skip (x_bn (x_tn ?_)))
  refine x_rgt (rgn [hE,hE,hE] (⟨[(1,pI id),(2,pS name),oP 3 0,(9,pI (IntKind.wrap .i64 (i + 1)))],[rP 0 3 (zE3 p)],1⟩)) ?_
  refine x_tn ?_
  exact ⟨_,(sj h).symm,by kernel_rfl⟩
 refine kw0 (⟨[],[],0⟩) ?_
 refine x_exit ?_
 refine x_te (x_te ?_)
 replace h := done_leaf h hx24
 refine x_bh ?_
 refine x_tn ?_
 refine x_rg (rgn [hE,hE] (⟨[(6,pI 0),(7,pI 8)],[],0⟩)) ?_
 refine x_toret ?_
 obtain rfl := sj h
 exact ret0 (.tup [.int .i64 0,.int .i64 8]) (.tup (.cons (.refl _) (.cons (.refl _) .nil))) (fun _ => rfl)
theorem c18 {p : api_Procs} {id : Int} {r : (api_Dir × Int)} (h : procfs_Stat p id = some r) : CallOK Tryd.prog 18 [zE3 p,.int .i64 id] (.tup [zE5 r.1,.int .i64 r.2]) true := by
 apply ok18
 unfold procfs_Stat at h
 refine x_rg (rgn [hE,hE,hE] (⟨[(1,pI id),oP 2 0,oP 4 1],[rP 0 3 (zE3 p),rP 1 13 gA17],2⟩)) ?_
 obtain ⟨x1,hx1,h⟩ := bind_some h
 refine x_rg (rg0 [hE,hE,hN (.cal [] (.tup [(gA3 x1.1),.int .i64 x1.2.1,.bool x1.2.2]) true),hE,hE,hE,hE,hE,hE,hE,hE] (⟨[(1,pI id),oP 4 0,oP 6 1,(7,pI x1.2.1),(8,pB x1.2.2)],[rP 0 13 gA17,rH 1 13 (gA5 x1.1 2 3),(2,rL none PV.str x1.1.Notes),(3,rL (some 2) zE1 x1.1.Waits)],4⟩) (kc (c31 hx1) .nil)) ?_
 refine x_seq ?_
 refine x_rg (rgn [hE,hE] (⟨[(1,pI id),oP 4 0,oP 6 1,(7,pI x1.2.1),(18,pB (!x1.2.2))],[rP 0 13 gA17,rH 1 13 (gA5 x1.1 2 3),(2,rL none PV.str x1.1.Notes),(3,rL (some 2) zE1 x1.1.Waits)],4⟩)) ?_
 refine x_if h rfl (fun hc2 h => ?_) (fun hc2 h => ?_)
 ·refine x_rg (rgn [hE,hE,hE] (⟨[oP 4 0,(5,pI 8)],[rP 0 13 gA17],1⟩)) ?_
  refine x_toret (x_tr ?_)
  obtain rfl := sj h
  exact ret0 (.tup [gA17,.int .i64 8]) (.tup (.cons (.refl _) (.cons (.refl _) .nil))) (fun _ => rfl)
 refine x_kk (x_skip (x_tn ?_))
 obtain ⟨x3,hx3,h⟩ := bind_some h
 obtain ⟨x4,hx4,h⟩ := bind_some h
 refine x_rg (rg0 [hE,hE,hE,hN (.cal [] (.int .i64 x3) true),hE,hN (.cal [] (.str x4) true),hE,hE,hE,hE,hE,hE,hE] (⟨[oP 4 0,(7,pI x1.2.1),oP 9 1],[rP 0 13 gA17,rP 1 13 (.agg [.int .i64 9,.int .i64 0,.int .i64 0,.int .i64 0,.int .i64 id,.int .i64 x3,.int .i64 0,.int .i64 0,.int .i64 0,.str x4,.str x1.1.User,.str x1.1.User,.str []])],2⟩) (kc (c33 hx3) (kc (c42 hx4) .nil))) ?_
 refine x_seq ?_
 refine x_rg (rgn [hE,hE] (⟨[oP 4 0,oP 9 1,(32,pB (decide (x1.2.1 = 0)))],[rP 0 13 gA17,rP 1 13 (.agg [.int .i64 9,.int .i64 0,.int .i64 0,.int .i64 0,.int .i64 id,.int .i64 x3,.int .i64 0,.int .i64 0,.int .i64 0,.str x4,.str x1.1.User,.str x1.1.User,.str []])],2⟩)) ?_
 refine x_if h rfl (fun hc5 h => ?_) (fun hc5 h => ?_)
 ·refine x_rgt (rgn [hE,hE,hE] (⟨[oP 4 0,oP 9 1],[rP 0 13 gA17,rP 1 13 (.agg [.int .i64 9,.int .i64 0,.int .i64 128,.int .i64 0,.int .i64 id,.int .i64 x3,.int .i64 0,.int .i64 0,.int .i64 0,.str x4,.str x1.1.User,.str x1.1.User,.str []])],2⟩)) ?_
  refine x_tn ?_
  refine x_rg (rgn [hE,hE,hE] (⟨[oP 4 0,(5,pI 0)],[rP 0 13 (.agg [.int .i64 9,.int .i64 0,.int .i64 128,.int .i64 0,.int .i64 id,.int .i64 x3,.int .i64 0,.int .i64 0,.int .i64 0,.str x4,.str x1.1.User,.str x1.1.User,.str []])],1⟩)) ?_
  refine x_toret ?_
  obtain rfl := sj h
  exact ret0 (.tup [.agg [.int .i64 9,.int .i64 0,.int .i64 128,.int .i64 0,.int .i64 id,.int .i64 x3,.int .i64 0,.int .i64 0,.int .i64 0,.str x4,.str x1.1.User,.str x1.1.User,.str []],.int .i64 0]) (.tup (.cons (.refl _) (.cons (.refl _) .nil))) (fun _ => rfl)
 refine x_kk (x_skip (x_tn ?_))
 refine x_rg (rgn [hE,hE,hE] (⟨[oP 4 0,(5,pI 0)],[rP 0 13 (.agg [.int .i64 9,.int .i64 0,.int .i64 0,.int .i64 0,.int .i64 id,.int .i64 x3,.int .i64 0,.int .i64 0,.int .i64 0,.str x4,.str x1.1.User,.str x1.1.User,.str []])],1⟩)) ?_
 refine x_toret ?_
 obtain rfl := sj h
 exact ret0 (.tup [.agg [.int .i64 9,.int .i64 0,.int .i64 0,.int .i64 0,.int .i64 id,.int .i64 x3,.int .i64 0,.int .i64 0,.int .i64 0,.str x4,.str x1.1.User,.str x1.1.User,.str []],.int .i64 0]) (.tup (.cons (.refl _) (.cons (.refl _) .nil))) (fun _ => rfl)
theorem c19 {p : api_Procs} {id : Int} {r : (api_Dir × Int)} (h : ref31_Stat p id = some r) : CallOK Tryd.prog 19 [zE3 p,.int .i64 id] (.tup [zE5 r.1,.int .i64 r.2]) true := by
 apply ok19
 unfold ref31_Stat at h
 refine x_rg (rgn [hE,hE,hE] (⟨[(1,pI id),oP 2 0,oP 4 1],[rP 0 3 (zE3 p),rP 1 13 gA17],2⟩)) ?_
 refine x_seq ?_
 obtain ⟨x1,hx1,h⟩ := bind_some h
 refine x_rg (rg0 [hE,hE,hN (.cal [] (.bool x1) true),hE] (⟨[(1,pI id),oP 2 0,oP 4 1,(12,pB (!x1))],[rP 0 3 (zE3 p),rP 1 13 gA17],2⟩) (kc (c34 hx1) .nil)) ?_
 refine x_if h rfl (fun hc2 h => ?_) (fun hc2 h => ?_)
 ·refine x_rg (rgn [hE,hE,hE] (⟨[oP 4 0,(5,pI 8)],[rP 0 13 gA17],1⟩)) ?_
  refine x_toret (x_tr ?_)
  obtain rfl := sj h
  exact ret0 (.tup [gA17,.int .i64 8]) (.tup (.cons (.refl _) (.cons (.refl _) .nil))) (fun _ => rfl)
 refine x_kk (x_skip (x_tn ?_))
 obtain ⟨x3,hx3,h⟩ := bind_some h
 refine x_rg (rg0 [hE,hE,hE,hN (.cal [] (.int .i64 x3) true),hE,hE,hE] (⟨[(1,pI id),oP 2 0,oP 4 1,oP 6 2],[rP 0 3 (zE3 p),rP 1 13 gA17,rP 2 13 (.agg [.int .i64 9,.int .i64 0,.int .i64 0,.int .i64 0,.int .i64 id,.int .i64 x3,.int .i64 0,.int .i64 0,.int .i64 0,.str [],.str [],.str [],.str []])],3⟩) (kc (c36 hx3) .nil)) ?_
 refine x_join (τ := Int) (fun t => ref31_Stat_K4 p id x3 t = some r) (fun t => { tm := [(1,.pv (.int .i64 id)),oP 2 0,oP 4 1,oP 6 2],hp := [rP 0 3 (zE3 p),rP 1 13 gA17,rP 2 13 (.agg [.int .i64 9,.int .i64 0,.int .i64 t,.int .i64 0,.int .i64 id,.int .i64 x3,.int .i64 0,.int .i64 0,.int .i64 0,.str [],.str [],.str [],.str []])],nx := 3 }) ?_ ?_
 ·rintro p5 h
  replace h : ref31_Stat_K4 p id x3 p5 = some r := h
  unfold ref31_Stat_K4 at h
  refine x_join (τ := Str) (fun t => ref31_Stat_K6 p id x3 p5 t = some r) (fun t => { tm := [(1,.pv (.int .i64 id)),oP 2 0,oP 4 1,oP 6 2],hp := [rP 0 3 (zE3 p),rP 1 13 gA17,rP 2 13 (.agg [.int .i64 9,.int .i64 0,.int .i64 p5,.int .i64 0,.int .i64 id,.int .i64 x3,.int .i64 0,.int .i64 0,.int .i64 0,.str t,.str [],.str [],.str []])],nx := 3 }) ?_ ?_
  ·rintro p7 h
   replace h : ref31_Stat_K6 p id x3 p5 p7 = some r := h
   unfold ref31_Stat_K6 at h
   obtain ⟨x8,hx8,h⟩ := bind_some h
   refine x_rg (rg0 [hE,hE,hE,hN (.cal [] (.tup [zE2 x8.1,.bool x8.2]) false),hE,hE,hE,hE,hE,hE] (⟨[oP 4 0,oP 6 1,oP 7 2],[rP 0 13 gA17,rP 1 13 (.agg [.int .i64 9,.int .i64 0,.int .i64 p5,.int .i64 0,.int .i64 id,.int .i64 x3,.int .i64 0,.int .i64 0,.int .i64 0,.str p7,.str [],.str [],.str []]),rP 2 13 (zE2 x8.1)],3⟩) (kc (c23 hx8) .nil)) ?_
   refine x_rg (rgn [hE,hE,hE,hE,hE,hE,hE,hE] (⟨[oP 4 0,oP 6 1],[rP 0 13 gA17,rP 1 13 (.agg [.int .i64 9,.int .i64 0,.int .i64 p5,.int .i64 0,.int .i64 id,.int .i64 x3,.int .i64 0,.int .i64 0,.int .i64 0,.str p7,.str x8.1.User,.str x8.1.User,.str []])],2⟩)) ?_
   refine x_rg (rgn [hE,hE,hE] (⟨[oP 4 0,(5,pI 0)],[rP 0 13 (.agg [.int .i64 9,.int .i64 0,.int .i64 p5,.int .i64 0,.int .i64 id,.int .i64 x3,.int .i64 0,.int .i64 0,.int .i64 0,.str p7,.str x8.1.User,.str x8.1.User,.str []])],1⟩)) ?_
   refine x_toret ?_
   obtain rfl := sj h
   exact ret0 (.tup [.agg [.int .i64 9,.int .i64 0,.int .i64 p5,.int .i64 0,.int .i64 id,.int .i64 x3,.int .i64 0,.int .i64 0,.int .i64 0,.str p7,.str x8.1.User,.str x8.1.User,.str []],.int .i64 0]) (.tup (.cons (.refl _) (.cons (.refl _) .nil))) (fun _ => rfl)
  refine x_block ?_
  refine x_rg (rgn [hE,hE,hE] (⟨[(1,pI id),oP 2 0,oP 4 1,oP 6 2,(27,pB (decide (id = 1)))],[rP 0 3 (zE3 p),rP 1 13 gA17,rP 2 13 (.agg [.int .i64 9,.int .i64 0,.int .i64 p5,.int .i64 0,.int .i64 id,.int .i64 x3,.int .i64 0,.int .i64 0,.int .i64 0,.str [],.str [],.str [],.str []])],3⟩)) ?_
  refine x_if h rfl (fun hc9 h => ?_) (fun hc9 h => ?_)
  ·refine x_rg (rgn [hE,hE] (⟨[oP 4 0,oP 6 1],[rP 0 13 gA17,rP 1 13 (.agg [.int .i64 9,.int .i64 0,.int .i64 p5,.int .i64 0,.int .i64 id,.int .i64 x3,.int .i64 0,.int .i64 0,.int .i64 0,.str [47],.str [],.str [],.str []])],2⟩)) ?_
   refine x_rg (rgn [hE,hE,hE] (⟨[oP 4 0,(5,pI 0)],[rP 0 13 (.agg [.int .i64 9,.int .i64 0,.int .i64 p5,.int .i64 0,.int .i64 id,.int .i64 x3,.int .i64 0,.int .i64 0,.int .i64 0,.str [47],.str [],.str [],.str []])],1⟩)) ?_
   refine x_toret (x_br (x_tr ?_))
   obtain rfl := sj h
   exact ret0 (.tup [.agg [.int .i64 9,.int .i64 0,.int .i64 p5,.int .i64 0,.int .i64 id,.int .i64 x3,.int .i64 0,.int .i64 0,.int .i64 0,.str [47],.str [],.str [],.str []],.int .i64 0]) (.tup (.cons (.refl _) (.cons (.refl _) .nil))) (fun _ => rfl)
  obtain ⟨x10,hx10,h⟩ := bind_some h
  refine x_rg (rg0 [hE,hN (.cal [] (.bool x10) true),hE] (⟨[(1,pI id),oP 2 0,oP 4 1,oP 6 2,(32,pB x10)],[rP 0 3 (zE3 p),rP 1 13 gA17,rP 2 13 (.agg [.int .i64 9,.int .i64 0,.int .i64 p5,.int .i64 0,.int .i64 id,.int .i64 x3,.int .i64 0,.int .i64 0,.int .i64 0,.str [],.str [],.str [],.str []])],3⟩) (kc (c37 hx10) .nil)) ?_
  refine x_if h rfl (fun hc11 h => ?_) (fun hc11 h => ?_)
  ·obtain ⟨x12,hx12,h⟩ := bind_some h
   refine x_rgt (rg0 [hE,hE,hN (.cal [] (.str x12) true),hE,hE] (⟨[(1,pI id),oP 2 0,oP 4 1,oP 6 2],[rP 0 3 (zE3 p),rP 1 13 gA17,rP 2 13 (.agg [.int .i64 9,.int .i64 0,.int .i64 p5,.int .i64 0,.int .i64 id,.int .i64 x3,.int .i64 0,.int .i64 0,.int .i64 0,.str x12,.str [],.str [],.str []])],3⟩) (kc (c40 hx12) .nil)) ?_
   refine x_bn (x_tn ?_)
   exact ⟨x12,h,by kernel_rfl⟩
  obtain ⟨x13,hx13,h⟩ := bind_some h
  refine x_rgt (rg0 [hE,hE,hN (.cal [] (.str x13) true),hE,hE] (⟨[(1,pI id),oP 2 0,oP 4 1,oP 6 2],[rP 0 3 (zE3 p),rP 1 13 gA17,rP 2 13 (.agg [.int .i64 9,.int .i64 0,.int .i64 p5,.int .i64 0,.int .i64 id,.int .i64 x3,.int .i64 0,.int .i64 0,.int .i64 0,.str x13,.str [],.str [],.str []])],3⟩) (kc (c43 hx13) .nil)) ?_
  refine x_bn (x_tn ?_)
  exact ⟨x13,h,by kernel_rfl⟩
 obtain ⟨x14,hx14,h⟩ := bind_some h
 refine x_rg (rg0 [hE,hN (.cal [] (.bool x14) true)] (⟨[(1,pI id),oP 2 0,oP 4 1,oP 6 2,(20,pB x14)],[rP 0 3 (zE3 p),rP 1 13 gA17,rP 2 13 (.agg [.int .i64 9,.int .i64 0,.int .i64 0,.int .i64 0,.int .i64 id,.int .i64 x3,.int .i64 0,.int .i64 0,.int .i64 0,.str [],.str [],.str [],.str []])],3⟩) (kc (c37 hx14) .nil)) ?_
 refine x_if h rfl (fun hc15 h => ?_) (fun hc15 h => ?_)
 ·refine x_rgt (rgn [hE,hE,hE] (⟨[(1,pI id),oP 2 0,oP 4 1,oP 6 2],[rP 0 3 (zE3 p),rP 1 13 gA17,rP 2 13 (.agg [.int .i64 9,.int .i64 0,.int .i64 128,.int .i64 0,.int .i64 id,.int .i64 x3,.int .i64 0,.int .i64 0,.int .i64 0,.str [],.str [],.str [],.str []])],3⟩)) ?_
  refine x_tn ?_
  exact ⟨128,h,by kernel_rfl⟩
 refine kw0 (⟨[(1,pI id),oP 2 0,oP 4 1,oP 6 2],[rP 0 3 (zE3 p),rP 1 13 gA17,rP 2 13 (.agg [.int .i64 9,.int .i64 0,.int .i64 0,.int .i64 0,.int .i64 id,.int .i64 x3,.int .i64 0,.int .i64 0,.int .i64 0,.str [],.str [],.str [],.str []])],3⟩) ?_
 refine x_skip (x_tn ?_)
 exact ⟨0,h,by kernel_rfl⟩
end Go.Proofs.YtgmlbldjdhonjaaDoor
