import Derived.Test.YtgmlbldjdhonjaaDoorC
import Derived.Test.YtgmlbldjdhonjaaDoorS
import Derived.Test.YtgmlbldjdhonjaaDoorShelf
import Derived.Test.YtgmlbldjdhonjaaDoorVmB
import Derived.Test.YtgmlbldjdhonjaaDoorVmI
namespace Go.Proofs.YtgmlbldjdhonjaaDoor
open Go.Vm
set_option autoImplicit false
set_option linter.unusedVariables false
set_option linter.unusedSimpArgs false
set_option maxRecDepth 100000
theorem c45 {a : api_Proc} {b : api_Proc} {r : Bool} (h : ref31_SameProc a b = some r) : CallOK Tryd.prog 45 [zE2 a,zE2 b] (.bool r) true := by
 apply ok45
 unfold ref31_SameProc at h
 refine x_rg (rgn [hE,hE,hE] (⟨[oP 2 0,oP 3 1],[rP 0 13 (zE2 a),rP 1 13 (zE2 b)],2⟩)) ?_
 refine x_seq ?_
 refine x_rgB (fun b_ => (⟨[oP 2 0,oP 3 1,(23,pB b_)],[rP 0 13 (zE2 a),rP 1 13 (zE2 b)],2⟩ : VSt)) ((!decide ((List.length a.Notes : Int) = (List.length b.Notes : Int))) || (!decide ((List.length a.Waits : Int) = (List.length b.Waits : Int)))) ?_ ?_
 ·rcases bq (!decide ((List.length a.Notes : Int) = (List.length b.Notes : Int))) with hg1 | hg1
  ·exact rb [hE,hE,hN (.len (List.length a.Notes : Int)),hE,hE,hN (.len (List.length b.Notes : Int)),hE,hE,hS,hS,hS,hS,hS,hS,hS,hN (.pk true)] true (kc (lenM PV.str a.Notes) (kc (lenM PV.str b.Notes) (hk8 hg1 .nil))) (by simp only [hg1,bs,reduceIte])
  exact rb [hE,hE,hN (.len (List.length a.Notes : Int)),hE,hE,hN (.len (List.length b.Notes : Int)),hE,hE,hY,hY,(.y,(.len (List.length a.Waits : Int))),hY,hY,(.y,(.len (List.length b.Waits : Int))),hY,hN (.pk false)] (!decide ((List.length a.Waits : Int) = (List.length b.Waits : Int))) (kc (lenM PV.str a.Notes) (kc (lenM PV.str b.Notes) (hk3 hg1 (kc (lenM zE1 a.Waits) (hk3 hg1 (kc (lenM zE1 b.Waits) (hk2 hg1 .nil))))))) (by simp only [hg1,bs,reduceIte])
 refine x_if h rfl (fun hc3 h => ?_) (fun hc3 h => ?_)
 ·refine x_rg (rgn [hE] (⟨[(4,pB false)],[],0⟩)) ?_
  refine x_toret (x_tr ?_)
  obtain rfl := sj h
  exact ret0 (.bool false) (.refl _) (fun _ => rfl)
 refine x_kk (x_skip (x_tn (x_seq ?_)))
 refine x_rg (rg0 [hE,hE,hN (.len (List.length a.Notes : Int)),hE] (⟨[oP 2 0,oP 3 1,(26,pI (List.length a.Notes : Int)),(27,pI 0)],[rP 0 13 (zE2 a),rP 1 13 (zE2 b)],2⟩) (kc (lenM PV.str a.Notes) .nil)) ?_
 refine x_block ?_
 refine kw0 (⟨[oP 2 0,oP 3 1,(26,pI (List.length a.Notes : Int)),(27,pI 0)],[rP 0 13 (zE2 a),rP 1 13 (zE2 b)],2⟩) ?_
 refine x_loop (σ := Int) h (fun s => ⟨[oP 2 0,oP 3 1,(26,pI (List.length a.Notes : Int)),(27,pI s)],[rP 0 13 (zE2 a),rP 1 13 (zE2 b)],2⟩) (by kernel_rfl) ?_ ?_
 ·rintro v8
  kernel_rfl
 rintro v8 x9 h hx9
 replace h : ref31_SameProc_L9 a b v8 = some x9 := h
 unfold ref31_SameProc_L9 at h
 refine x_rg (rgn [hE] (⟨[oP 2 0,oP 3 1,(26,pI (List.length a.Notes : Int)),(27,pI v8),(28,pB (decide (v8 < (List.length a.Notes : Int))))],[rP 0 13 (zE2 a),rP 1 13 (zE2 b)],2⟩)) ?_
 refine x_seq ?_
 refine x_if h rfl (fun hc10 h => ?_) (fun hc10 h => ?_)
 ·refine x_kk (x_skip (x_tn (x_seq (x_block ?_))))
  refine x_rg (rgn [hE,hE] (⟨[oP 2 0,oP 3 1,(5,pI v8),(26,pI (List.length a.Notes : Int)),(27,pI v8)],[rP 0 13 (zE2 a),rP 1 13 (zE2 b)],2⟩)) ?_
  obtain ⟨x11,hx11,h⟩ := bind_some h
  obtain ⟨x12,hx12,h⟩ := bind_some h
  refine x_rg (rg0 [hE,hE,hE,hN (.pAt (.str x11)),hE,hE,hE,hE,hN (.pAt (.str x12)),hE,hE] (⟨[oP 2 0,oP 3 1,(26,pI (List.length a.Notes : Int)),(27,pI v8),(40,pB (!decide (x11 = x12)))],[rP 0 13 (zE2 a),rP 1 13 (zE2 b)],2⟩) (kc (lsAt_map (f := PV.str) hx11) (kc (lsAt_map (f := PV.str) hx12) .nil))) ?_
  refine x_if h rfl (fun hc13 h => ?_) (fun hc13 h => ?_)
  ·refine x_rg (rgn [hE] (⟨[(4,pB false)],[],0⟩)) ?_
   refine x_toret (x_br (x_tr (x_tr ?_)))
   replace h := done_leaf h hx9
   refine x_br (x_tr ?_)
   obtain rfl := sj h
   exact ret0 (.bool false) (.refl _) (fun _ => rfl)
  refine x_kk (x_skip (x_bn (x_tn ?_)))
  refine x_rgt (rgn [hE,hE] (⟨[oP 2 0,oP 3 1,(26,pI (List.length a.Notes : Int)),(27,pI (IntKind.wrap .i64 (v8 + 1)))],[rP 0 13 (zE2 a),rP 1 13 (zE2 b)],2⟩)) ?_
  refine x_tn ?_
  exact ⟨_,(sj h).symm,by kernel_rfl⟩
 refine kw0 (⟨[oP 2 0,oP 3 1],[rP 0 13 (zE2 a),rP 1 13 (zE2 b)],2⟩) ?_
 refine x_exit ?_
 refine x_te (x_te ?_)
 replace h := done_map h hx9
 refine x_bh ?_
 refine x_tn (x_seq ?_)
 refine x_rg (rg0 [hE,hE,hN (.len (List.length a.Waits : Int)),hE] (⟨[oP 2 0,oP 3 1,(44,pI (List.length a.Waits : Int)),(45,pI 0)],[rP 0 13 (zE2 a),rP 1 13 (zE2 b)],2⟩) (kc (lenM zE1 a.Waits) .nil)) ?_
 refine x_block ?_
 refine kw0 (⟨[oP 2 0,oP 3 1,(44,pI (List.length a.Waits : Int)),(45,pI 0)],[rP 0 13 (zE2 a),rP 1 13 (zE2 b)],2⟩) ?_
 refine x_loop (σ := Int) h (fun s => ⟨[oP 2 0,oP 3 1,(44,pI (List.length a.Waits : Int)),(45,pI s)],[rP 0 13 (zE2 a),rP 1 13 (zE2 b)],2⟩) (by kernel_rfl) ?_ ?_
 ·rintro v18
  kernel_rfl
 rintro v18 x19 h hx19
 replace h : ref31_SameProc_L19 a b v18 = some x19 := h
 unfold ref31_SameProc_L19 at h
 refine x_rg (rgn [hE] (⟨[oP 2 0,oP 3 1,(44,pI (List.length a.Waits : Int)),(45,pI v18),(46,pB (decide (v18 < (List.length a.Waits : Int))))],[rP 0 13 (zE2 a),rP 1 13 (zE2 b)],2⟩)) ?_
 refine x_seq ?_
 refine x_if h rfl (fun hc20 h => ?_) (fun hc20 h => ?_)
 ·refine x_kk (x_skip (x_tn (x_seq (x_block ?_))))
  refine x_rg (rgn [hE,hE] (⟨[oP 2 0,oP 3 1,(6,pI v18),(44,pI (List.length a.Waits : Int)),(45,pI v18)],[rP 0 13 (zE2 a),rP 1 13 (zE2 b)],2⟩)) ?_
  obtain ⟨x21,hx21,h⟩ := bind_some h
  obtain ⟨x22,hx22,h⟩ := bind_some h
  refine x_rg (rg0 [hE,hE,hE,hN (.pAt (zE1 x21)),hE,hE,hE,hE,hN (.pAt (zE1 x22)),hE,hE] (⟨[oP 2 0,oP 3 1,(44,pI (List.length a.Waits : Int)),(45,pI v18),(58,pB (!(decide (x21.Id = x22.Id) && (decide (x21.Status = x22.Status) && true))))],[rP 0 13 (zE2 a),rP 1 13 (zE2 b)],2⟩) (kc (lsAt_map (f := zE1) hx21) (kc (lsAt_map (f := zE1) hx22) .nil))) ?_
  refine x_if h rfl (fun hc23 h => ?_) (fun hc23 h => ?_)
  ·refine x_rg (rgn [hE] (⟨[(4,pB false)],[],0⟩)) ?_
   refine x_toret (x_br (x_tr (x_tr ?_)))
   replace h := done_leaf h hx19
   refine x_br (x_tr ?_)
   obtain rfl := sj h
   exact ret0 (.bool false) (.refl _) (fun _ => rfl)
  refine x_kk (x_skip (x_bn (x_tn ?_)))
  refine x_rgt (rgn [hE,hE] (⟨[oP 2 0,oP 3 1,(44,pI (List.length a.Waits : Int)),(45,pI (IntKind.wrap .i64 (v18 + 1)))],[rP 0 13 (zE2 a),rP 1 13 (zE2 b)],2⟩)) ?_
  refine x_tn ?_
  exact ⟨_,(sj h).symm,by kernel_rfl⟩
 refine kw0 (⟨[oP 2 0,oP 3 1],[rP 0 13 (zE2 a),rP 1 13 (zE2 b)],2⟩) ?_
 refine x_exit ?_
 refine x_te (x_te ?_)
 replace h := done_leaf h hx19
 refine x_bh ?_
 refine x_tn ?_
 refine x_rgB (fun b_ => (⟨[oP 2 0,oP 3 1,(7,pB b_)],[rP 0 13 (zE2 a),rP 1 13 (zE2 b)],2⟩ : VSt)) ((decide (a.Ns = b.Ns)) && ((decide (a.Env = b.Env)) && ((decide (a.Fds = b.Fds)) && (decide (a.Alone = b.Alone))))) ?_ ?_
 ·rcases bq (decide (a.Ns = b.Ns)) with hg24 | hg24
  ·rcases bq (decide (a.Env = b.Env)) with hg25 | hg25
   ·rcases bq (decide (a.Fds = b.Fds)) with hg26 | hg26
    ·exact rb [hE,hE,hE,hE,hE,hE,hY,hY,hY,hY,hY,hN (.pk true),hE,hY,hY,hY,hY,hY,hN (.pk true),hE,hY,hY,hY,hY,hY,hN (.pk true),hE] (decide (a.Alone = b.Alone)) (hk6 hg24 (hk6 hg25 (hk6 hg26 .nil))) (by simp only [hg24,hg25,hg26,bs,reduceIte])
    exact rb [hE,hE,hE,hE,hE,hE,hY,hY,hY,hY,hY,hN (.pk true),hE,hY,hY,hY,hY,hY,hN (.pk true),hE,hS,hS,hS,hS,hS,hN (.pk false),hE] false (hk6 hg24 (hk6 hg25 (hk6 hg26 .nil))) (by simp only [hg24,hg25,hg26,bs,reduceIte])
   exact rb [hE,hE,hE,hE,hE,hE,hY,hY,hY,hY,hY,hN (.pk true),hE,hS,hS,hS,hS,hS,hN (.pk false),hE,hS,hS,hS,hS,hS,hE,hE] false (hk6 hg24 (hk6 hg25 (hk5 ff .nil))) (by simp only [hg24,hg25,bs,reduceIte])
  exact rb [hE,hE,hE,hE,hE,hE,hS,hS,hS,hS,hS,hN (.pk false),hE,hS,hS,hS,hS,hS,hE,hE,hS,hS,hS,hS,hS,hE,hE] false (hk6 hg24 (hk2 ff (hk8 ff .nil))) (by simp only [hg24,bs,reduceIte])
 refine x_rgB (fun b_ => (⟨[(4,pB b_)],[],0⟩ : VSt)) (((decide (a.Ns = b.Ns)) && ((decide (a.Env = b.Env)) && ((decide (a.Fds = b.Fds)) && (decide (a.Alone = b.Alone))))) && ((decide (a.Id = b.Id)) && ((decide (a.Parent = b.Parent)) && ((decide (a.State = b.State)) && ((decide (a.User = b.User)) && ((decide (a.Name = b.Name)) && ((decide (a.Cwd = b.Cwd)) && (decide (a.Status = b.Status))))))))) ?_ ?_
 ·rcases bq ((decide (a.Ns = b.Ns)) && ((decide (a.Env = b.Env)) && ((decide (a.Fds = b.Fds)) && (decide (a.Alone = b.Alone))))) with hg28 | hg28
  ·rcases bq (decide (a.Id = b.Id)) with hg29 | hg29
   ·rcases bq (decide (a.Parent = b.Parent)) with hg30 | hg30
    ·rcases bq (decide (a.State = b.State)) with hg31 | hg31
     ·rcases bq (decide (a.User = b.User)) with hg32 | hg32
      ·rcases bq (decide (a.Name = b.Name)) with hg33 | hg33
       ·rcases bq (decide (a.Cwd = b.Cwd)) with hg34 | hg34
        ·exact rb [hE,hE,hY,hY,hY,hY,hY,hN (.pk true),hE,hY,hY,hY,hY,hY,hN (.pk true),hE,hY,hY,hY,hY,hY,hN (.pk true),hE,hY,hY,hY,hY,hY,hN (.pk true),hE,hY,hY,hY,hY,hY,hN (.pk true),hE,hY,hY,hY,hY,hY,hN (.pk true),hE,hY,hY,hY,hY,hY,hN (.pk true),hE] (decide (a.Status = b.Status)) (hk6 hg28 (hk6 hg29 (hk6 hg30 (hk6 hg31 (hk6 hg32 (hk6 hg33 (hk6 hg34 .nil))))))) (by simp only [hg28,hg29,hg30,hg31,hg32,hg33,hg34,bs,reduceIte])
        exact rb [hE,hE,hY,hY,hY,hY,hY,hN (.pk true),hE,hY,hY,hY,hY,hY,hN (.pk true),hE,hY,hY,hY,hY,hY,hN (.pk true),hE,hY,hY,hY,hY,hY,hN (.pk true),hE,hY,hY,hY,hY,hY,hN (.pk true),hE,hY,hY,hY,hY,hY,hN (.pk true),hE,hS,hS,hS,hS,hS,hN (.pk false),hE] false (hk6 hg28 (hk6 hg29 (hk6 hg30 (hk6 hg31 (hk6 hg32 (hk6 hg33 (hk6 hg34 .nil))))))) (by simp only [hg28,hg29,hg30,hg31,hg32,hg33,hg34,bs,reduceIte])
       exact rb [hE,hE,hY,hY,hY,hY,hY,hN (.pk true),hE,hY,hY,hY,hY,hY,hN (.pk true),hE,hY,hY,hY,hY,hY,hN (.pk true),hE,hY,hY,hY,hY,hY,hN (.pk true),hE,hY,hY,hY,hY,hY,hN (.pk true),hE,hS,hS,hS,hS,hS,hN (.pk false),hE,hS,hS,hS,hS,hS,hE,hE] false (hk6 hg28 (hk6 hg29 (hk6 hg30 (hk6 hg31 (hk6 hg32 (hk6 hg33 (hk5 ff .nil))))))) (by simp only [hg28,hg29,hg30,hg31,hg32,hg33,bs,reduceIte])
      exact rb [hE,hE,hY,hY,hY,hY,hY,hN (.pk true),hE,hY,hY,hY,hY,hY,hN (.pk true),hE,hY,hY,hY,hY,hY,hN (.pk true),hE,hY,hY,hY,hY,hY,hN (.pk true),hE,hS,hS,hS,hS,hS,hN (.pk false),hE,hS,hS,hS,hS,hS,hE,hE,hS,hS,hS,hS,hS,hE,hE] false (hk6 hg28 (hk6 hg29 (hk6 hg30 (hk6 hg31 (hk6 hg32 (hk2 ff (hk8 ff .nil))))))) (by simp only [hg28,hg29,hg30,hg31,hg32,bs,reduceIte])
     exact rb [hE,hE,hY,hY,hY,hY,hY,hN (.pk true),hE,hY,hY,hY,hY,hY,hN (.pk true),hE,hY,hY,hY,hY,hY,hN (.pk true),hE,hS,hS,hS,hS,hS,hN (.pk false),hE,hS,hS,hS,hS,hS,hE,hE,hS,hS,hS,hS,hS,hE,hE,hS,hS,hS,hS,hS,hE,hE] false (hk6 hg28 (hk6 hg29 (hk6 hg30 (hk6 hg31 (kc ff (hk6 ff (hk8 ff .nil))))))) (by simp only [hg28,hg29,hg30,hg31,bs,reduceIte])
    exact rb [hE,hE,hY,hY,hY,hY,hY,hN (.pk true),hE,hY,hY,hY,hY,hY,hN (.pk true),hE,hS,hS,hS,hS,hS,hN (.pk false),hE,hS,hS,hS,hS,hS,hE,hE,hS,hS,hS,hS,hS,hE,hE,hS,hS,hS,hS,hS,hE,hE,hS,hS,hS,hS,hS,hE,hE] false (hk6 hg28 (hk6 hg29 (hk6 hg30 (hk4 ff (hk8 ff (hk8 ff .nil)))))) (by simp only [hg28,hg29,hg30,bs,reduceIte])
   exact rb [hE,hE,hY,hY,hY,hY,hY,hN (.pk true),hE,hS,hS,hS,hS,hS,hN (.pk false),hE,hS,hS,hS,hS,hS,hE,hE,hS,hS,hS,hS,hS,hE,hE,hS,hS,hS,hS,hS,hE,hE,hS,hS,hS,hS,hS,hE,hE,hS,hS,hS,hS,hS,hE,hE] false (hk6 hg28 (hk6 hg29 (kc ff (hk8 ff (hk8 ff (hk8 ff .nil)))))) (by simp only [hg28,hg29,bs,reduceIte])
  exact rb [hE,hE,hS,hS,hS,hS,hS,hN (.pk false),hE,hS,hS,hS,hS,hS,hE,hE,hS,hS,hS,hS,hS,hE,hE,hS,hS,hS,hS,hS,hE,hE,hS,hS,hS,hS,hS,hE,hE,hS,hS,hS,hS,hS,hE,hE,hS,hS,hS,hS,hS,hE,hE] false (hk6 hg28 (hk6 ff (hk8 ff (hk8 ff (hk8 ff .nil))))) (by simp only [hg28,bs,reduceIte])
 refine x_toret ?_
 obtain rfl := sj h
 exact ret0 (.bool (((decide (a.Ns = b.Ns)) && ((decide (a.Env = b.Env)) && ((decide (a.Fds = b.Fds)) && (decide (a.Alone = b.Alone))))) && ((decide (a.Id = b.Id)) && ((decide (a.Parent = b.Parent)) && ((decide (a.State = b.State)) && ((decide (a.User = b.User)) && ((decide (a.Name = b.Name)) && ((decide (a.Cwd = b.Cwd)) && (decide (a.Status = b.Status)))))))))) (.refl _) (fun _ => rfl)
theorem c25 {a : api_Procs} {b : api_Procs} {r : Bool} (h : ref31_Same a b = some r) : CallOK Tryd.prog 25 [zE3 a,zE3 b] (.bool r) true := by
 apply ok25
 unfold ref31_Same at h
 refine x_rg (rgn [hE,hE,hE] (⟨[oP 2 0,oP 3 1],[rP 0 3 (zE3 a),rP 1 3 (zE3 b)],2⟩)) ?_
 refine x_seq ?_
 refine x_rgB (fun b_ => (⟨[oP 2 0,oP 3 1,(26,pB b_)],[rP 0 3 (zE3 a),rP 1 3 (zE3 b)],2⟩ : VSt)) ((!decide (a.Next = b.Next)) || ((!decide (a.Group = b.Group)) || (!decide ((List.length a.L : Int) = (List.length b.L : Int))))) ?_ ?_
 ·rcases bq (!decide (a.Next = b.Next)) with hg1 | hg1
  ·exact rb [hE,hE,hE,hE,hE,hE,hS,hS,hS,hS,hS,hN (.pk true),hE,hS,hS,hS,hS,hS,hS,hS,hE] true (hk6 hg1 (kc tt (hk6 tt .nil))) (by simp only [hg1,bs,reduceIte])
  rcases bq (!decide (a.Group = b.Group)) with hg2 | hg2
  ·exact rb [hE,hE,hE,hE,hE,hE,hY,hY,hY,hY,hY,hN (.pk false),hE,hS,hS,hS,hS,hS,hS,hS,hN (.pk true)] true (hk6 hg1 (hk8 hg2 .nil)) (by simp only [hg1,hg2,bs,reduceIte])
  exact rb [hE,hE,hE,hE,hE,hE,hY,hY,hY,hY,hY,hN (.pk false),hE,hY,hY,(.y,(.len (List.length a.L : Int))),hY,hY,(.y,(.len (List.length b.L : Int))),hY,hN (.pk false)] (!decide ((List.length a.L : Int) = (List.length b.L : Int))) (hk6 hg1 (hk3 hg2 (kc (lenM zE2 a.L) (hk3 hg2 (kc (lenM zE2 b.L) (hk2 hg2 .nil)))))) (by simp only [hg1,hg2,bs,reduceIte])
 refine x_if h rfl (fun hc4 h => ?_) (fun hc4 h => ?_)
 ·refine x_rg (rgn [hE] (⟨[(4,pB false)],[],0⟩)) ?_
  refine x_toret (x_tr ?_)
  obtain rfl := sj h
  exact ret0 (.bool false) (.refl _) (fun _ => rfl)
 refine x_kk (x_skip (x_tn (x_seq ?_)))
 refine x_rg (rg0 [hE,hE,hN (.len (List.length a.L : Int)),hE] (⟨[oP 2 0,oP 3 1,(29,pI (List.length a.L : Int)),(30,pI 0)],[rP 0 3 (zE3 a),rP 1 3 (zE3 b)],2⟩) (kc (lenM zE2 a.L) .nil)) ?_
 refine x_block ?_
 refine kw0 (⟨[oP 2 0,oP 3 1,(29,pI (List.length a.L : Int)),(30,pI 0)],[rP 0 3 (zE3 a),rP 1 3 (zE3 b)],2⟩) ?_
 refine x_loop (σ := Int) h (fun s => ⟨[oP 2 0,oP 3 1,(29,pI (List.length a.L : Int)),(30,pI s)],[rP 0 3 (zE3 a),rP 1 3 (zE3 b)],2⟩) (by kernel_rfl) ?_ ?_
 ·rintro v10
  kernel_rfl
 rintro v10 x11 h hx11
 replace h : ref31_Same_L11 a b v10 = some x11 := h
 unfold ref31_Same_L11 at h
 refine x_rg (rgn [hE] (⟨[oP 2 0,oP 3 1,(29,pI (List.length a.L : Int)),(30,pI v10),(31,pB (decide (v10 < (List.length a.L : Int))))],[rP 0 3 (zE3 a),rP 1 3 (zE3 b)],2⟩)) ?_
 refine x_seq ?_
 refine x_if h rfl (fun hc12 h => ?_) (fun hc12 h => ?_)
 ·refine x_kk (x_skip (x_tn (x_seq (x_block ?_))))
  refine x_rg (rgn [hE,hE] (⟨[oP 2 0,oP 3 1,(5,pI v10),(29,pI (List.length a.L : Int)),(30,pI v10)],[rP 0 3 (zE3 a),rP 1 3 (zE3 b)],2⟩)) ?_
  obtain ⟨x13,hx13,h⟩ := bind_some h
  obtain ⟨x14,hx14,h⟩ := bind_some h
  obtain ⟨x15,hx15,h⟩ := bind_some h
  refine x_rg (rg0 [hE,hE,hE,hN (.pAt (zE2 x13)),hE,hE,hE,hE,hN (.pAt (zE2 x14)),hE,hN (.cal [] (.bool x15) true),hE] (⟨[oP 2 0,oP 3 1,(29,pI (List.length a.L : Int)),(30,pI v10),(44,pB (!x15))],[rP 0 3 (zE3 a),rP 1 3 (zE3 b)],2⟩) (kc (lsAt_map (f := zE2) hx13) (kc (lsAt_map (f := zE2) hx14) (kc (c45 hx15) .nil)))) ?_
  refine x_if h rfl (fun hc16 h => ?_) (fun hc16 h => ?_)
  ·refine x_rg (rgn [hE] (⟨[(4,pB false)],[],0⟩)) ?_
   refine x_toret (x_br (x_tr (x_tr ?_)))
   replace h := done_leaf h hx11
   refine x_br (x_tr ?_)
   obtain rfl := sj h
   exact ret0 (.bool false) (.refl _) (fun _ => rfl)
  refine x_kk (x_skip (x_bn (x_tn ?_)))
  refine x_rgt (rgn [hE,hE] (⟨[oP 2 0,oP 3 1,(29,pI (List.length a.L : Int)),(30,pI (IntKind.wrap .i64 (v10 + 1)))],[rP 0 3 (zE3 a),rP 1 3 (zE3 b)],2⟩)) ?_
  refine x_tn ?_
  exact ⟨_,(sj h).symm,by kernel_rfl⟩
 refine kw0 (⟨[],[],0⟩) ?_
 refine x_exit ?_
 refine x_te (x_te ?_)
 replace h := done_leaf h hx11
 refine x_bh ?_
 refine x_tn ?_
 refine x_rg (rgn [hE] (⟨[(4,pB true)],[],0⟩)) ?_
 refine x_toret ?_
 obtain rfl := sj h
 exact ret0 (.bool true) (.refl _) (fun _ => rfl)
theorem c7 {p : api_Procs} {id : Int} {offset : Int} {count : Int} {r : Bool} (h : law31_ProcfsBlocks p id offset count = some r) : CallOK Tryd.prog 7 [zE3 p,.int .i64 id,.int .i64 offset,.int .i64 count] (.bool r) true := by
 apply ok7
 unfold law31_ProcfsBlocks at h
 refine x_rg (rgn [hE,hE] (⟨[(1,pI id),(2,pI offset),(3,pI count),oP 4 0],[rP 0 3 (zE3 p)],1⟩)) ?_
 refine x_seq ?_
 obtain ⟨x1,hx1,h⟩ := bind_some h
 obtain ⟨t4,ht,h⟩ := bind_some h
 refine x_rgB (fun b_ => (⟨[(1,pI id),(2,pI offset),(3,pI count),oP 4 0,(20,pB b_)],[rP 0 3 (zE3 p)],1⟩ : VSt)) t4 ?_ ?_
 ·rcases bq (!x1) with hg2 | hg2
  ·replace ht := ite_t ht hg2
   obtain rfl := sj ht
   exact rb [hE,hN (.cal [] (.bool x1) true),hE,hE,hS,hS,hS,hN (.pk true)] true (kc (c8 hx1) (hk4 hg2 .nil)) rfl
  replace ht := ite_f ht hg2
  obtain ⟨x3,hx3,ht⟩ := bind_some ht
  obtain rfl := sj ht
  exact rb [hE,hN (.cal [] (.bool x1) true),hE,hE,hY,(.y,(.cal [] (.bool x3) true)),hY,hN (.pk false)] (!x3) (kc (c8 hx1) (hk2 hg2 (kc (c9 hx3) (hk2 hg2 .nil)))) rfl
 clear ht
 refine x_if h rfl (fun hc5 h => ?_) (fun hc5 h => ?_)
 ·obtain ⟨x6,hx6,h⟩ := bind_some h
  refine x_rg (rg0 [hN (.cal [] (.bool x6) true),hE] (⟨[(8,pB x6)],[],0⟩) (kc (c10 hx6) .nil)) ?_
  refine x_toret (x_tr ?_)
  obtain rfl := sj h
  exact ret0 (.bool x6) (.refl _) (fun _ => rfl)
 refine x_kk (x_skip (x_tn ?_))
 obtain ⟨x7,hx7,h⟩ := bind_some h
 refine x_rg (rg0 [hE,hE,hE,hE,hN (.cal [] (.tup [(gA1 x7.1),.str x7.2.1,.bool x7.2.2.1,.int .i64 x7.2.2.2]) false),hE,hE,hE,hE,hE,hE,hE,hE,hE,hE] (⟨[(1,pI id),(3,pI count),oP 4 0,oP 9 1,(10,pS x7.2.1),(11,pB x7.2.2.1),(12,pI x7.2.2.2)],[rP 0 3 (zE3 p),rH 1 3 (gA9 x7.1 2),(2,rL (some 13) zE2 x7.1.L)],3⟩) (kc (c26 hx7) .nil)) ?_
 refine x_seq ?_
 refine x_rgB (fun b_ => (⟨[(1,pI id),(3,pI count),oP 4 0,oP 9 1,(10,pS x7.2.1),(11,pB x7.2.2.1),(12,pI x7.2.2.2),(36,pB b_)],[rP 0 3 (zE3 p),rH 1 3 (gA9 x7.1 2),(2,rL (some 13) zE2 x7.1.L)],3⟩ : VSt)) (x7.2.2.1 || (!decide (x7.2.2.2 = 0))) ?_ ?_
 ·rcases bq x7.2.2.1 with hg8 | hg8
  ·exact rb [hE,hE,hS,hS,hN (.pk true)] true (hk3 hg8 .nil) (by simp only [hg8,bs,reduceIte])
  exact rb [hE,hE,hY,hY,hN (.pk false)] (!decide (x7.2.2.2 = 0)) (hk3 hg8 .nil) (by simp only [hg8,bs,reduceIte])
 refine x_if h rfl (fun hc10 h => ?_) (fun hc10 h => ?_)
 ·obtain ⟨t19,ht,h⟩ := bind_some h
  refine x_rgB (fun b_ => (⟨[(8,pB b_)],[],0⟩ : VSt)) t19 ?_ ?_
  ·rcases bq (decide (x7.2.1 = [])) with hg11 | hg11
   ·replace ht := ite_t ht hg11
    obtain ⟨x12,hx12,ht⟩ := bind_some ht
    rcases bq x12 with hg13 | hg13
    ·replace ht := ite_t ht hg13
     rcases bq (!x7.2.2.1) with hg14 | hg14
     ·replace ht := ite_t ht hg14
      obtain ⟨x15,hx15,ht⟩ := bind_some ht
      obtain rfl := sj ht
      exact rb [hE,hE,hE,hY,hY,(.y,(.call [] [(gA10 x7.1),zE3 p] (.bool x12) true)),hN (.pk true),hE,hY,hY,hY,hS,hS,hS,(.u,.e),(.u,.e),(.u,.e),hS,(.y,(.pk true)),hN (.pk true),hE,(.y,(.cal [] (.bool x15) true)),hE,hE] x15 (hk3 hg11 (kc (show LesA [(gA11 x7.1),zE3 p] [(gA10 x7.1),zE3 p] from (.cons (.agg (.cons (.refl _) (.cons (.refl _) (.cons (.of_eq (by rw [List.drop_zero,List.take_length])) .nil)))) (.cons (.refl _) .nil))) (kc (c25 hx12) (kc (le0 (List.map zE2 x7.1.L)) (kc hg11 (hk3 hg13 (hk4 hg14 (kc hg13 (kc hg14 (kc hg13 (kc tt (kc (c10 hx15) .nil)))))))))))) rfl
     replace ht := ite_f ht hg14
     rcases bq (decide (x7.2.2.2 = 0)) with hg16 | hg16
     ·replace ht := ite_t ht hg16
      rcases bq (decide ((Int.tmod id 16) = 4)) with hg17 | hg17
      ·replace ht := ite_t ht hg17
       obtain ⟨x18,hx18,ht⟩ := bind_some ht
       obtain rfl := sj ht
       exact rb [hE,hE,hE,hY,hY,(.y,(.call [] [(gA10 x7.1),zE3 p] (.bool x12) true)),hN (.pk true),hE,hY,hY,hY,hY,hY,hY,hY,hY,hY,(.y,(.pk true)),(.y,(.pk false)),hN (.pk true),hE,(.y,(.cal [] (.bool x18) true)),hN (.pk true),hE] x18 (hk3 hg11 (kc (show LesA [(gA11 x7.1),zE3 p] [(gA10 x7.1),zE3 p] from (.cons (.agg (.cons (.refl _) (.cons (.refl _) (.cons (.of_eq (by rw [List.drop_zero,List.take_length])) .nil)))) (.cons (.refl _) .nil))) (kc (c25 hx12) (kc (le0 (List.map zE2 x7.1.L)) (kc hg11 (hk3 hg13 (hk3 hg14 (hk3 hg16 (kc hg14 (kc hg16 (kc hg13 (kc hg14 (kc hg13 (kc hg17 (kc (c10 hx18) (kc hg17 .nil)))))))))))))))) rfl
      replace ht := ite_f ht hg17
      obtain rfl := sj ht
      exact rb [hE,hE,hE,hY,hY,(.y,(.call [] [(gA10 x7.1),zE3 p] (.bool x12) true)),hN (.pk true),hE,hY,hY,hY,hY,hY,hY,hY,hY,hY,(.y,(.pk true)),(.y,(.pk false)),hN (.pk true),hE,hS,hN (.pk false),hE] false (hk3 hg11 (kc (show LesA [(gA11 x7.1),zE3 p] [(gA10 x7.1),zE3 p] from (.cons (.agg (.cons (.refl _) (.cons (.refl _) (.cons (.of_eq (by rw [List.drop_zero,List.take_length])) .nil)))) (.cons (.refl _) .nil))) (kc (c25 hx12) (kc (le0 (List.map zE2 x7.1.L)) (kc hg11 (hk3 hg13 (hk3 hg14 (hk3 hg16 (kc hg14 (kc hg16 (kc hg13 (kc hg14 (kc hg13 (hk2 hg17 .nil)))))))))))))) rfl
     replace ht := ite_f ht hg16
     obtain rfl := sj ht
     exact rb [hE,hE,hE,hY,hY,(.y,(.call [] [(gA10 x7.1),zE3 p] (.bool x12) true)),hN (.pk true),hE,hY,hY,hY,hY,hY,hY,hS,hS,hS,(.y,(.pk false)),(.y,(.pk false)),hN (.pk true),hE,hS,hE,hE] false (hk3 hg11 (kc (show LesA [(gA11 x7.1),zE3 p] [(gA10 x7.1),zE3 p] from (.cons (.agg (.cons (.refl _) (.cons (.refl _) (.cons (.of_eq (by rw [List.drop_zero,List.take_length])) .nil)))) (.cons (.refl _) .nil))) (kc (c25 hx12) (kc (le0 (List.map zE2 x7.1.L)) (kc hg11 (hk3 hg13 (hk3 hg14 (hk3 hg16 (kc hg14 (kc hg16 (kc hg13 (kc hg14 (kc hg13 (kc ff .nil)))))))))))))) rfl
    replace ht := ite_f ht hg13
    obtain rfl := sj ht
    exact rb [hE,hE,hE,hY,hY,(.y,(.call [] [(gA10 x7.1),zE3 p] (.bool x12) true)),hN (.pk true),hE,hS,hS,hS,(.u,.e),(.u,.e),(.u,.e),(.u,.e),(.u,.e),(.u,.e),(.u,.e),hS,hN (.pk false),hE,hS,hE,hE] false (hk3 hg11 (kc (show LesA [(gA11 x7.1),zE3 p] [(gA10 x7.1),zE3 p] from (.cons (.agg (.cons (.refl _) (.cons (.refl _) (.cons (.of_eq (by rw [List.drop_zero,List.take_length])) .nil)))) (.cons (.refl _) .nil))) (kc (c25 hx12) (kc (le0 (List.map zE2 x7.1.L)) (kc hg11 (hk5 hg13 (kc ff .nil))))))) rfl
   replace ht := ite_f ht hg11
   obtain rfl := sj ht
   exact rb [hE,hE,hE,hS,hS,hS,hN (.pk false),hE,hS,hS,hS,(.u,.e),(.u,.e),(.u,.e),(.u,.e),(.u,.e),(.u,.e),(.u,.e),hS,hE,hE,hS,hE,hE] false (hk4 hg11 (hk5 ff .nil)) rfl
  clear ht
  refine x_toret (x_tr ?_)
  obtain rfl := sj h
  exact ret0 (.bool t19) (.refl _) (fun _ => rfl)
 refine x_kk (x_skip (x_tn ?_))
 obtain ⟨t26,ht,h⟩ := bind_some h
 refine x_rgB (fun b_ => (⟨[(8,pB b_)],[],0⟩ : VSt)) t26 ?_ ?_
 ·rcases bq (decide ((List.length x7.2.1 : Int) ≤ count)) with hg20 | hg20
  ·replace ht := ite_t ht hg20
   rcases bq (decide ((Int.tmod id 16) = 4)) with hg21 | hg21
   ·replace ht := ite_t ht hg21
    obtain ⟨x22,hx22,ht⟩ := bind_some ht
    obtain rfl := sj ht
    exact rb [hE,hE,hE,hE,hE,hY,hY,hY,hY,hS,hS,hS,(.y,(.pk true)),hN (.pk true),hE,(.y,(.cal [] (.bool x22) true)),hE,hE] x22 (hk4 hg20 (hk3 hg21 (kc hg20 (kc hg21 (kc hg20 (kc tt (kc (c10 hx22) .nil))))))) rfl
   replace ht := ite_f ht hg21
   obtain ⟨x23,hx23,ht⟩ := bind_some ht
   rcases bq x23 with hg24 | hg24
   ·replace ht := ite_t ht hg24
    obtain ⟨x25,hx25,ht⟩ := bind_some ht
    obtain rfl := sj ht
    exact rb [hE,hE,hE,hE,hE,hY,hY,hY,hY,hY,hY,(.y,(.call [] [(gA10 x7.1),zE3 p] (.bool x23) true)),(.y,(.pk false)),hN (.pk true),hE,(.y,(.cal [] (.bool x25) true)),hN (.pk true),hE] x25 (hk4 hg20 (hk3 hg21 (kc (show LesA [(gA11 x7.1),zE3 p] [(gA10 x7.1),zE3 p] from (.cons (.agg (.cons (.refl _) (.cons (.refl _) (.cons (.of_eq (by rw [List.drop_zero,List.take_length])) .nil)))) (.cons (.refl _) .nil))) (kc (c25 hx23) (kc (le0 (List.map zE2 x7.1.L)) (kc hg20 (kc hg21 (kc hg20 (kc hg24 (kc (c10 hx25) (kc hg24 .nil))))))))))) rfl
   replace ht := ite_f ht hg24
   obtain rfl := sj ht
   exact rb [hE,hE,hE,hE,hE,hY,hY,hY,hY,hY,hY,(.y,(.call [] [(gA10 x7.1),zE3 p] (.bool x23) true)),(.y,(.pk false)),hN (.pk true),hE,hS,hN (.pk false),hE] false (hk4 hg20 (hk3 hg21 (kc (show LesA [(gA11 x7.1),zE3 p] [(gA10 x7.1),zE3 p] from (.cons (.agg (.cons (.refl _) (.cons (.refl _) (.cons (.of_eq (by rw [List.drop_zero,List.take_length])) .nil)))) (.cons (.refl _) .nil))) (kc (c25 hx23) (kc (le0 (List.map zE2 x7.1.L)) (kc hg20 (kc hg21 (kc hg20 (hk2 hg24 .nil))))))))) rfl
  replace ht := ite_f ht hg20
  obtain rfl := sj ht
  exact rb [hE,hE,hE,hE,hE,hS,hS,hS,hS,(.u,.e),(.u,.e),(.u,.e),hS,hN (.pk false),hE,hS,hE,hE] false (hk6 hg20 (kc ff .nil)) rfl
 clear ht
 refine x_toret ?_
 obtain rfl := sj h
 exact ret0 (.bool t26) (.refl _) (fun _ => rfl)
end Go.Proofs.YtgmlbldjdhonjaaDoor
