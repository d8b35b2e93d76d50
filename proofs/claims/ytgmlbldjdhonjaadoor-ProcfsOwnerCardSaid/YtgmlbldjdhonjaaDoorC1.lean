import Derived.Test.YtgmlbldjdhonjaaDoorC
import Derived.Test.YtgmlbldjdhonjaaDoorS
import Derived.Test.YtgmlbldjdhonjaaDoorShelf
import Derived.Test.YtgmlbldjdhonjaaDoorVmB
import Derived.Test.YtgmlbldjdhonjaaDoorVmI
namespace Go.Proofs.YtgmlbldjdhonjaaDoor
open Go.Vm
set_option autoImplicit false
set_option linter.unusedVariables false
set_option linter.unusedSimpArgs false
set_option maxRecDepth 100000
theorem c24 {p : api_Procs} {o : law31_Op} {r : (api_Procs × law31_Out)} (h : law31_did p o = some r) : CallOK Tryd.prog 24 [zE3 p,zE6 o] (.tup [zE3 r.1,zE7 r.2]) false := by
 apply ok24
 unfold law31_did at h
 refine x_rg (rgn [hE,hE,hE,hE] (⟨[oP 2 0,oP 3 1,oP 4 2,oP 5 3],[rP 0 3 (zE3 p),rP 1 6 (zE6 o),rP 2 3 gA2,rP 3 4 gA18],4⟩)) ?_
 refine x_rg (rgn [hE] (⟨[oP 2 0,oP 3 1,oP 4 2,oP 5 3,oP 6 4],[rP 0 3 (zE3 p),rP 1 6 (zE6 o),rP 2 3 gA2,rP 3 4 gA18,rP 4 4 gA18],5⟩)) ?_
 refine x_join (τ := (api_Procs × law31_Out)) (fun t => law31_did_K1 t.1 t.2 = some r) (fun t => { tm := [oP 2 0,oP 4 1,oP 5 2,oP 6 3],hp := [rP 0 3 (zE3 t.1),rP 1 3 gA2,rP 2 4 gA18,rP 3 4 (zE7 t.2)],nx := 4 }) ?_ ?_
 ·rintro ⟨p2,p3⟩ h
  replace h : law31_did_K1 p2 p3 = some r := h
  unfold law31_did_K1 at h
  refine x_rg (rgn [hE,hE,hE,hE] (⟨[oP 4 0,oP 5 1],[rP 0 3 (zE3 p2),rP 1 4 (zE7 p3)],2⟩)) ?_
  refine x_toret ?_
  obtain rfl := sj h
  exact ret0 (.tup [zE3 p2,zE7 p3]) (.tup (.cons (.refl _) (.cons (.refl _) .nil))) (fun h => nomatch h)
 refine x_rg (rgn [hE,hE] (⟨[oP 2 0,oP 3 1,oP 4 2,oP 5 3,oP 6 4,(8,pI o.Kind)],[rP 0 3 (zE3 p),rP 1 6 (zE6 o),rP 2 3 gA2,rP 3 4 gA18,rP 4 4 gA18],5⟩)) ?_
 refine x_block ?_
 refine x_rg (rgn [hE,hE] (⟨[oP 2 0,oP 3 1,oP 4 2,oP 5 3,oP 6 4,(8,pI o.Kind),(9,pB (decide (o.Kind = 1)))],[rP 0 3 (zE3 p),rP 1 6 (zE6 o),rP 2 3 gA2,rP 3 4 gA18,rP 4 4 gA18],5⟩)) ?_
 refine x_if h rfl (fun hc4 h => ?_) (fun hc4 h => ?_)
 ·obtain ⟨x5,hx5,h⟩ := bind_some h
  refine x_rgt (rg0 [hE,hE,hE,hE,hE,hE,hE,hN (.cal [] (.tup [zE3 x5.1,.int .i64 x5.2]) false),hE,hE,hE,hE,hE,hE] (⟨[oP 2 0,oP 4 1,oP 5 2,oP 6 3],[rP 0 3 (zE3 x5.1),rP 1 3 gA2,rP 2 4 gA18,rP 3 4 (.agg [.int .i64 0,.str [],.bool false,.int .i64 x5.2])],4⟩) (kc (show CallOK Tryd.prog 29 [zE3 p,.str o.User,.int .i64 o.Id,.str o.Text] (.tup [zE3 x5.1,.int .i64 x5.2]) false from ((c29 hx5).frz (.tup (.cons (.agg (.cons (.refl _) (.cons (.refl _) (.cons (.usl _ _) .nil)))) (.cons (.refl _) .nil))))) .nil)) ?_
  refine x_bn (x_tn ?_)
  exact ⟨(x5.1,(law31_Out.mk 0 [] false x5.2)),h,by kernel_rfl⟩
 refine x_rg (rgn [hE,hE] (⟨[oP 2 0,oP 3 1,oP 4 2,oP 5 3,oP 6 4,(8,pI o.Kind),(23,pB (decide (o.Kind = 2)))],[rP 0 3 (zE3 p),rP 1 6 (zE6 o),rP 2 3 gA2,rP 3 4 gA18,rP 4 4 gA18],5⟩)) ?_
 refine x_if h rfl (fun hc6 h => ?_) (fun hc6 h => ?_)
 ·obtain ⟨x7,hx7,h⟩ := bind_some h
  refine x_rgt (rg0 [hE,hE,hE,hE,hE,hE,hE,hN (.cal [] (.tup [zE3 x7.1,.str x7.2.1,.bool x7.2.2.1,.int .i64 x7.2.2.2]) false),hE,hE,hE,hE,hE,hE,hE,hE,hE,hE,hE,hE] (⟨[oP 2 0,oP 4 1,oP 5 2,oP 6 3],[rP 0 3 (zE3 x7.1),rP 1 3 gA2,rP 2 4 gA18,rP 3 4 (.agg [.int .i64 0,.str x7.2.1,.bool x7.2.2.1,.int .i64 x7.2.2.2])],4⟩) (kc (show CallOK Tryd.prog 26 [zE3 p,.int .i64 o.Id,.int .i64 o.Offset,.int .i64 o.Count] (.tup [zE3 x7.1,.str x7.2.1,.bool x7.2.2.1,.int .i64 x7.2.2.2]) false from ((c26 hx7).frz (.tup (.cons (.agg (.cons (.refl _) (.cons (.refl _) (.cons (.usl _ _) .nil)))) (.cons (.refl _) (.cons (.refl _) (.cons (.refl _) .nil))))))) .nil)) ?_
  refine x_bn (x_tn ?_)
  exact ⟨(x7.1,(law31_Out.mk 0 x7.2.1 x7.2.2.1 x7.2.2.2)),h,by kernel_rfl⟩
 refine x_rg (rgn [hE,hE] (⟨[oP 2 0,oP 3 1,oP 4 2,oP 5 3,oP 6 4,(41,pB (decide (o.Kind = 3)))],[rP 0 3 (zE3 p),rP 1 6 (zE6 o),rP 2 3 gA2,rP 3 4 gA18,rP 4 4 gA18],5⟩)) ?_
 refine x_if h rfl (fun hc8 h => ?_) (fun hc8 h => ?_)
 ·obtain ⟨x9,hx9,h⟩ := bind_some h
  refine x_rgt (rg0 [hE,hE,hE,hE,hE,hE,hE,hN (.cal [] (.tup [zE3 x9.1,.int .i64 x9.2.1,.int .i64 x9.2.2]) false),hE,hE,hE,hE,hE,hE,hE,hE,hE] (⟨[oP 2 0,oP 4 1,oP 5 2,oP 6 3],[rP 0 3 (zE3 x9.1),rP 1 3 gA2,rP 2 4 gA18,rP 3 4 (.agg [.int .i64 x9.2.1,.str [],.bool false,.int .i64 x9.2.2])],4⟩) (kc (show CallOK Tryd.prog 30 [zE3 p,.str o.User,.int .i64 o.Id,.str o.Text] (.tup [zE3 x9.1,.int .i64 x9.2.1,.int .i64 x9.2.2]) false from ((c30 hx9).frz (.tup (.cons (.agg (.cons (.refl _) (.cons (.refl _) (.cons (.usl _ _) .nil)))) (.cons (.refl _) (.cons (.refl _) .nil)))))) .nil)) ?_
  refine x_bn (x_tn ?_)
  exact ⟨(x9.1,(law31_Out.mk x9.2.1 [] false x9.2.2)),h,by kernel_rfl⟩
 refine kw0 (⟨[oP 2 0,oP 4 1,oP 5 2,oP 6 3],[rP 0 3 (zE3 p),rP 1 3 gA2,rP 2 4 gA18,rP 3 4 gA18],4⟩) ?_
 refine x_skip (x_bn (x_tn ?_))
 exact ⟨(p,(law31_Out.mk 0 [] false 0)),h,by kernel_rfl⟩
theorem c45 {a : api_Proc} {b : api_Proc} {r : Bool} (h : ref31_SameProc a b = some r) : CallOK Tryd.prog 45 [zE2 a,zE2 b] (.bool r) true := by
 apply ok45
 unfold ref31_SameProc at h
 refine x_rg (rgn [hE,hE,hE] (⟨[oP 2 0,oP 3 1],[rP 0 13 (zE2 a),rP 1 13 (zE2 b)],2⟩)) ?_
 refine x_seq ?_
 refine x_rgB (fun b_ => (⟨[oP 2 0,oP 3 1,(23,pB b_)],[rP 0 13 (zE2 a),rP 1 13 (zE2 b)],2⟩ : VSt)) ((!decide ((List.length a.Notes : Int) = (List.length b.Notes : Int))) || (!decide ((List.length a.Waits : Int) = (List.length b.Waits : Int)))) ?_ ?_
 ·rcases bq (!decide ((List.length a.Notes : Int) = (List.length b.Notes : Int))) with hg1 | hg1
  ·exact rb [hE,hE,hN (.len (List.length a.Notes : Int)),hE,hE,hN (.len (List.length b.Notes : Int)),hE,hE,hS,hS,hS,hS,hS,hS,hS,hN (.pk true)] true (kc (lenM PV.str a.Notes) (kc (lenM PV.str b.Notes) (hk8 hg1 .nil))) (by simp only [hg1,bs,reduceIte])
  exact rb [hE,hE,hN (.len (List.length a.Notes : Int)),hE,hE,hN (.len (List.length b.Notes : Int)),hE,hE,hY,hY,(.y,(.len (List.length a.Waits : Int))),hY,hY,(.y,(.len (List.length b.Waits : Int))),hY,hN (.pk false)] (!decide ((List.length a.Waits : Int) = (List.length b.Waits : Int))) (kc (lenM PV.str a.Notes) (kc (lenM PV.str b.Notes) (hk3 hg1 (kc (lenM zE1 a.Waits) (hk3 hg1 (kc (lenM zE1 b.Waits) (hk2 hg1 .nil))))))) (by simp only [hg1,bs,reduceIte])
 refine x_if h rfl (fun hc3 h => ?_) (fun hc3 h => ?_)
 ·refine x_rg (rgn [hE] (⟨[(4,pB false)],[],0⟩)) ?_
  refine x_toret (x_tr ?_)
  obtain rfl := sj h
  exact ret0 (.bool false) (.refl _) (fun _ => rfl)
 refine x_kk (x_skip (x_tn (x_seq ?_)))
 refine x_rg (rg0 [hE,hE,hN (.len (List.length a.Notes : Int)),hE] (⟨[oP 2 0,oP 3 1,(26,pI (List.length a.Notes : Int)),(27,pI 0)],[rP 0 13 (zE2 a),rP 1 13 (zE2 b)],2⟩) (kc (lenM PV.str a.Notes) .nil)) ?_
 refine x_block ?_
 refine kw0 (⟨[oP 2 0,oP 3 1,(26,pI (List.length a.Notes : Int)),(27,pI 0)],[rP 0 13 (zE2 a),rP 1 13 (zE2 b)],2⟩) ?_
 refine x_loop (σ := Int) h (fun s => ⟨[oP 2 0,oP 3 1,(26,pI (List.length a.Notes : Int)),(27,pI s)],[rP 0 13 (zE2 a),rP 1 13 (zE2 b)],2⟩) (by kernel_rfl) ?_ ?_
 ·rintro v8
  kernel_rfl
 rintro v8 x9 h hx9
 replace h : ref31_SameProc_L9 a b v8 = some x9 := h
 unfold ref31_SameProc_L9 at h
 refine x_rg (rgn [hE] (⟨[oP 2 0,oP 3 1,(26,pI (List.length a.Notes : Int)),(27,pI v8),(28,pB (decide (v8 < (List.length a.Notes : Int))))],[rP 0 13 (zE2 a),rP 1 13 (zE2 b)],2⟩)) ?_
 refine x_seq ?_
 refine x_if h rfl (fun hc10 h => ?_) (fun hc10 h => ?_)
 ·refine x_kk (x_skip (x_tn (x_seq (x_block ?_))))
  refine x_rg (rgn [hE,hE] (⟨[oP 2 0,oP 3 1,(5,pI v8),(26,pI (List.length a.Notes : Int)),(27,pI v8)],[rP 0 13 (zE2 a),rP 1 13 (zE2 b)],2⟩)) ?_
  obtain ⟨x11,hx11,h⟩ := bind_some h
  obtain ⟨x12,hx12,h⟩ := bind_some h
  refine x_rg (rg0 [hE,hE,hE,hN (.pAt (.str x11)),hE,hE,hE,hE,hN (.pAt (.str x12)),hE,hE] (⟨[oP 2 0,oP 3 1,(26,pI (List.length a.Notes : Int)),(27,pI v8),(40,pB (!decide (x11 = x12)))],[rP 0 13 (zE2 a),rP 1 13 (zE2 b)],2⟩) (kc (lsAt_map (f := PV.str) hx11) (kc (lsAt_map (f := PV.str) hx12) .nil))) ?_
  refine x_if h rfl (fun hc13 h => ?_) (fun hc13 h => ?_)
  ·refine x_rg (rgn [hE] (⟨[(4,pB false)],[],0⟩)) ?_
   refine x_toret (x_br (x_tr (x_tr ?_)))
   replace h := done_leaf h hx9
   refine x_br (x_tr ?_)
   obtain rfl := sj h
   exact ret0 (.bool false) (.refl _) (fun _ => rfl)
  refine x_kk (x_skip (x_bn (x_tn ?_)))
  refine x_rgt (rgn [hE,hE] (⟨[oP 2 0,oP 3 1,(26,pI (List.length a.Notes : Int)),(27,pI (IntKind.wrap .i64 (v8 + 1)))],[rP 0 13 (zE2 a),rP 1 13 (zE2 b)],2⟩)) ?_
  refine x_tn ?_
  exact ⟨_,(sj h).symm,by kernel_rfl⟩
 refine kw0 (⟨[oP 2 0,oP 3 1],[rP 0 13 (zE2 a),rP 1 13 (zE2 b)],2⟩) ?_
 refine x_exit ?_
 refine x_te (x_te ?_)
 replace h := done_map h hx9
 refine x_bh ?_
 refine x_tn (x_seq ?_)
 refine x_rg (rg0 [hE,hE,hN (.len (List.length a.Waits : Int)),hE] (⟨[oP 2 0,oP 3 1,(44,pI (List.length a.Waits : Int)),(45,pI 0)],[rP 0 13 (zE2 a),rP 1 13 (zE2 b)],2⟩) (kc (lenM zE1 a.Waits) .nil)) ?_
 refine x_block ?_
 refine kw0 (⟨[oP 2 0,oP 3 1,(44,pI (List.length a.Waits : Int)),(45,pI 0)],[rP 0 13 (zE2 a),rP 1 13 (zE2 b)],2⟩) ?_
 refine x_loop (σ := Int) h (fun s => ⟨[oP 2 0,oP 3 1,(44,pI (List.length a.Waits : Int)),(45,pI s)],[rP 0 13 (zE2 a),rP 1 13 (zE2 b)],2⟩) (by kernel_rfl) ?_ ?_
 ·rintro v18
  kernel_rfl
 rintro v18 x19 h hx19
 replace h : ref31_SameProc_L19 a b v18 = some x19 := h
 unfold ref31_SameProc_L19 at h
 refine x_rg (rgn [hE] (⟨[oP 2 0,oP 3 1,(44,pI (List.length a.Waits : Int)),(45,pI v18),(46,pB (decide (v18 < (List.length a.Waits : Int))))],[rP 0 13 (zE2 a),rP 1 13 (zE2 b)],2⟩)) ?_
 refine x_seq ?_
 refine x_if h rfl (fun hc20 h => ?_) (fun hc20 h => ?_)
 ·refine x_kk (x_skip (x_tn (x_seq (x_block ?_))))
  refine x_rg (rgn [hE,hE] (⟨[oP 2 0,oP 3 1,(6,pI v18),(44,pI (List.length a.Waits : Int)),(45,pI v18)],[rP 0 13 (zE2 a),rP 1 13 (zE2 b)],2⟩)) ?_
  obtain ⟨x21,hx21,h⟩ := bind_some h
  obtain ⟨x22,hx22,h⟩ := bind_some h
  refine x_rg (rg0 [hE,hE,hE,hN (.pAt (zE1 x21)),hE,hE,hE,hE,hN (.pAt (zE1 x22)),hE,hE] (⟨[oP 2 0,oP 3 1,(44,pI (List.length a.Waits : Int)),(45,pI v18),(58,pB (!(decide (x21.Id = x22.Id) && (decide (x21.Status = x22.Status) && true))))],[rP 0 13 (zE2 a),rP 1 13 (zE2 b)],2⟩) (kc (lsAt_map (f := zE1) hx21) (kc (lsAt_map (f := zE1) hx22) .nil))) ?_
  refine x_if h rfl (fun hc23 h => ?_) (fun hc23 h => ?_)
  ·refine x_rg (rgn [hE] (⟨[(4,pB false)],[],0⟩)) ?_
   refine x_toret (x_br (x_tr (x_tr ?_)))
   replace h := done_leaf h hx19
   refine x_br (x_tr ?_)
   obtain rfl := sj h
   exact ret0 (.bool false) (.refl _) (fun _ => rfl)
  refine x_kk (x_skip (x_bn (x_tn ?_)))
  refine x_rgt (rgn [hE,hE] (⟨[oP 2 0,oP 3 1,(44,pI (List.length a.Waits : Int)),(45,pI (IntKind.wrap .i64 (v18 + 1)))],[rP 0 13 (zE2 a),rP 1 13 (zE2 b)],2⟩)) ?_
  refine x_tn ?_
  exact ⟨_,(sj h).symm,by kernel_rfl⟩
 refine kw0 (⟨[oP 2 0,oP 3 1],[rP 0 13 (zE2 a),rP 1 13 (zE2 b)],2⟩) ?_
 refine x_exit ?_
 refine x_te (x_te ?_)
 replace h := done_leaf h hx19
 refine x_bh ?_
 refine x_tn ?_
 refine x_rgB (fun b_ => (⟨[oP 2 0,oP 3 1,(7,pB b_)],[rP 0 13 (zE2 a),rP 1 13 (zE2 b)],2⟩ : VSt)) ((decide (a.Ns = b.Ns)) && ((decide (a.Env = b.Env)) && ((decide (a.Fds = b.Fds)) && (decide (a.Alone = b.Alone))))) ?_ ?_
 ·rcases bq (decide (a.Ns = b.Ns)) with hg24 | hg24
  ·rcases bq (decide (a.Env = b.Env)) with hg25 | hg25
   ·rcases bq (decide (a.Fds = b.Fds)) with hg26 | hg26
    ·exact rb [hE,hE,hE,hE,hE,hE,hY,hY,hY,hY,hY,hN (.pk true),hE,hY,hY,hY,hY,hY,hN (.pk true),hE,hY,hY,hY,hY,hY,hN (.pk true),hE] (decide (a.Alone = b.Alone)) (hk6 hg24 (hk6 hg25 (hk6 hg26 .nil))) (by simp only [hg24,hg25,hg26,bs,reduceIte])
    exact rb [hE,hE,hE,hE,hE,hE,hY,hY,hY,hY,hY,hN (.pk true),hE,hY,hY,hY,hY,hY,hN (.pk true),hE,hS,hS,hS,hS,hS,hN (.pk false),hE] false (hk6 hg24 (hk6 hg25 (hk6 hg26 .nil))) (by simp only [hg24,hg25,hg26,bs,reduceIte])
   exact rb [hE,hE,hE,hE,hE,hE,hY,hY,hY,hY,hY,hN (.pk true),hE,hS,hS,hS,hS,hS,hN (.pk false),hE,hS,hS,hS,hS,hS,hE,hE] false (hk6 hg24 (hk6 hg25 (hk5 ff .nil))) (by simp only [hg24,hg25,bs,reduceIte])
  exact rb [hE,hE,hE,hE,hE,hE,hS,hS,hS,hS,hS,hN (.pk false),hE,hS,hS,hS,hS,hS,hE,hE,hS,hS,hS,hS,hS,hE,hE] false (hk6 hg24 (hk2 ff (hk8 ff .nil))) (by simp only [hg24,bs,reduceIte])
 refine x_rgB (fun b_ => (⟨[(4,pB b_)],[],0⟩ : VSt)) (((decide (a.Ns = b.Ns)) && ((decide (a.Env = b.Env)) && ((decide (a.Fds = b.Fds)) && (decide (a.Alone = b.Alone))))) && ((decide (a.Id = b.Id)) && ((decide (a.Parent = b.Parent)) && ((decide (a.State = b.State)) && ((decide (a.User = b.User)) && ((decide (a.Name = b.Name)) && ((decide (a.Cwd = b.Cwd)) && (decide (a.Status = b.Status))))))))) ?_ ?_
 ·rcases bq ((decide (a.Ns = b.Ns)) && ((decide (a.Env = b.Env)) && ((decide (a.Fds = b.Fds)) && (decide (a.Alone = b.Alone))))) with hg28 | hg28
  ·rcases bq (decide (a.Id = b.Id)) with hg29 | hg29
   ·rcases bq (decide (a.Parent = b.Parent)) with hg30 | hg30
    ·rcases bq (decide (a.State = b.State)) with hg31 | hg31
     ·rcases bq (decide (a.User = b.User)) with hg32 | hg32
      ·rcases bq (decide (a.Name = b.Name)) with hg33 | hg33
       ·rcases bq (decide (a.Cwd = b.Cwd)) with hg34 | hg34
        ·exact rb [hE,hE,hY,hY,hY,hY,hY,hN (.pk true),hE,hY,hY,hY,hY,hY,hN (.pk true),hE,hY,hY,hY,hY,hY,hN (.pk true),hE,hY,hY,hY,hY,hY,hN (.pk true),hE,hY,hY,hY,hY,hY,hN (.pk true),hE,hY,hY,hY,hY,hY,hN (.pk true),hE,hY,hY,hY,hY,hY,hN (.pk true),hE] (decide (a.Status = b.Status)) (hk6 hg28 (hk6 hg29 (hk6 hg30 (hk6 hg31 (hk6 hg32 (hk6 hg33 (hk6 hg34 .nil))))))) (by simp only [hg28,hg29,hg30,hg31,hg32,hg33,hg34,bs,reduceIte])
        exact rb [hE,hE,hY,hY,hY,hY,hY,hN (.pk true),hE,hY,hY,hY,hY,hY,hN (.pk true),hE,hY,hY,hY,hY,hY,hN (.pk true),hE,hY,hY,hY,hY,hY,hN (.pk true),hE,hY,hY,hY,hY,hY,hN (.pk true),hE,hY,hY,hY,hY,hY,hN (.pk true),hE,hS,hS,hS,hS,hS,hN (.pk false),hE] false (hk6 hg28 (hk6 hg29 (hk6 hg30 (hk6 hg31 (hk6 hg32 (hk6 hg33 (hk6 hg34 .nil))))))) (by simp only [hg28,hg29,hg30,hg31,hg32,hg33,hg34,bs,reduceIte])
       exact rb [hE,hE,hY,hY,hY,hY,hY,hN (.pk true),hE,hY,hY,hY,hY,hY,hN (.pk true),hE,hY,hY,hY,hY,hY,hN (.pk true),hE,hY,hY,hY,hY,hY,hN (.pk true),hE,hY,hY,hY,hY,hY,hN (.pk true),hE,hS,hS,hS,hS,hS,hN (.pk false),hE,hS,hS,hS,hS,hS,hE,hE] false (hk6 hg28 (hk6 hg29 (hk6 hg30 (hk6 hg31 (hk6 hg32 (hk6 hg33 (hk5 ff .nil))))))) (by simp only [hg28,hg29,hg30,hg31,hg32,hg33,bs,reduceIte])
      exact rb [hE,hE,hY,hY,hY,hY,hY,hN (.pk true),hE,hY,hY,hY,hY,hY,hN (.pk true),hE,hY,hY,hY,hY,hY,hN (.pk true),hE,hY,hY,hY,hY,hY,hN (.pk true),hE,hS,hS,hS,hS,hS,hN (.pk false),hE,hS,hS,hS,hS,hS,hE,hE,hS,hS,hS,hS,hS,hE,hE] false (hk6 hg28 (hk6 hg29 (hk6 hg30 (hk6 hg31 (hk6 hg32 (hk2 ff (hk8 ff .nil))))))) (by simp only [hg28,hg29,hg30,hg31,hg32,bs,reduceIte])
     exact rb [hE,hE,hY,hY,hY,hY,hY,hN (.pk true),hE,hY,hY,hY,hY,hY,hN (.pk true),hE,hY,hY,hY,hY,hY,hN (.pk true),hE,hS,hS,hS,hS,hS,hN (.pk false),hE,hS,hS,hS,hS,hS,hE,hE,hS,hS,hS,hS,hS,hE,hE,hS,hS,hS,hS,hS,hE,hE] false (hk6 hg28 (hk6 hg29 (hk6 hg30 (hk6 hg31 (kc ff (hk6 ff (hk8 ff .nil))))))) (by simp only [hg28,hg29,hg30,hg31,bs,reduceIte])
    exact rb [hE,hE,hY,hY,hY,hY,hY,hN (.pk true),hE,hY,hY,hY,hY,hY,hN (.pk true),hE,hS,hS,hS,hS,hS,hN (.pk false),hE,hS,hS,hS,hS,hS,hE,hE,hS,hS,hS,hS,hS,hE,hE,hS,hS,hS,hS,hS,hE,hE,hS,hS,hS,hS,hS,hE,hE] false (hk6 hg28 (hk6 hg29 (hk6 hg30 (hk4 ff (hk8 ff (hk8 ff .nil)))))) (by simp only [hg28,hg29,hg30,bs,reduceIte])
   exact rb [hE,hE,hY,hY,hY,hY,hY,hN (.pk true),hE,hS,hS,hS,hS,hS,hN (.pk false),hE,hS,hS,hS,hS,hS,hE,hE,hS,hS,hS,hS,hS,hE,hE,hS,hS,hS,hS,hS,hE,hE,hS,hS,hS,hS,hS,hE,hE,hS,hS,hS,hS,hS,hE,hE] false (hk6 hg28 (hk6 hg29 (kc ff (hk8 ff (hk8 ff (hk8 ff .nil)))))) (by simp only [hg28,hg29,bs,reduceIte])
  exact rb [hE,hE,hS,hS,hS,hS,hS,hN (.pk false),hE,hS,hS,hS,hS,hS,hE,hE,hS,hS,hS,hS,hS,hE,hE,hS,hS,hS,hS,hS,hE,hE,hS,hS,hS,hS,hS,hE,hE,hS,hS,hS,hS,hS,hE,hE,hS,hS,hS,hS,hS,hE,hE] false (hk6 hg28 (hk6 ff (hk8 ff (hk8 ff (hk8 ff .nil))))) (by simp only [hg28,bs,reduceIte])
 refine x_toret ?_
 obtain rfl := sj h
 exact ret0 (.bool (((decide (a.Ns = b.Ns)) && ((decide (a.Env = b.Env)) && ((decide (a.Fds = b.Fds)) && (decide (a.Alone = b.Alone))))) && ((decide (a.Id = b.Id)) && ((decide (a.Parent = b.Parent)) && ((decide (a.State = b.State)) && ((decide (a.User = b.User)) && ((decide (a.Name = b.Name)) && ((decide (a.Cwd = b.Cwd)) && (decide (a.Status = b.Status)))))))))) (.refl _) (fun _ => rfl)
theorem c25 {a : api_Procs} {b : api_Procs} {r : Bool} (h : ref31_Same a b = some r) : CallOK Tryd.prog 25 [zE3 a,zE3 b] (.bool r) true := by
 apply ok25
 unfold ref31_Same at h
 refine x_rg (rgn [hE,hE,hE] (⟨[oP 2 0,oP 3 1],[rP 0 3 (zE3 a),rP 1 3 (zE3 b)],2⟩)) ?_
 refine x_seq ?_
 refine x_rgB (fun b_ => (⟨[oP 2 0,oP 3 1,(26,pB b_)],[rP 0 3 (zE3 a),rP 1 3 (zE3 b)],2⟩ : VSt)) ((!decide (a.Next = b.Next)) || ((!decide (a.Group = b.Group)) || (!decide ((List.length a.L : Int) = (List.length b.L : Int))))) ?_ ?_
 ·rcases bq (!decide (a.Next = b.Next)) with hg1 | hg1
  ·exact rb [hE,hE,hE,hE,hE,hE,hS,hS,hS,hS,hS,hN (.pk true),hE,hS,hS,hS,hS,hS,hS,hS,hE] true (hk6 hg1 (kc tt (hk6 tt .nil))) (by simp only [hg1,bs,reduceIte])
  rcases bq (!decide (a.Group = b.Group)) with hg2 | hg2
  ·exact rb [hE,hE,hE,hE,hE,hE,hY,hY,hY,hY,hY,hN (.pk false),hE,hS,hS,hS,hS,hS,hS,hS,hN (.pk true)] true (hk6 hg1 (hk8 hg2 .nil)) (by simp only [hg1,hg2,bs,reduceIte])
  exact rb [hE,hE,hE,hE,hE,hE,hY,hY,hY,hY,hY,hN (.pk false),hE,hY,hY,(.y,(.len (List.length a.L : Int))),hY,hY,(.y,(.len (List.length b.L : Int))),hY,hN (.pk false)] (!decide ((List.length a.L : Int) = (List.length b.L : Int))) (hk6 hg1 (hk3 hg2 (kc (lenM zE2 a.L) (hk3 hg2 (kc (lenM zE2 b.L) (hk2 hg2 .nil)))))) (by simp only [hg1,hg2,bs,reduceIte])
 refine x_if h rfl (fun hc4 h => ?_) (fun hc4 h => ?_)
 ·refine x_rg (rgn [hE] (⟨[(4,pB false)],[],0⟩)) ?_
  refine x_toret (x_tr ?_)
  obtain rfl := sj h
  exact ret0 (.bool false) (.refl _) (fun _ => rfl)
 refine x_kk (x_skip (x_tn (x_seq ?_)))
 refine x_rg (rg0 [hE,hE,hN (.len (List.length a.L : Int)),hE] (⟨[oP 2 0,oP 3 1,(29,pI (List.length a.L : Int)),(30,pI 0)],[rP 0 3 (zE3 a),rP 1 3 (zE3 b)],2⟩) (kc (lenM zE2 a.L) .nil)) ?_
 refine x_block ?_
 refine kw0 (⟨[oP 2 0,oP 3 1,(29,pI (List.length a.L : Int)),(30,pI 0)],[rP 0 3 (zE3 a),rP 1 3 (zE3 b)],2⟩) ?_
 refine x_loop (σ := Int) h (fun s => ⟨[oP 2 0,oP 3 1,(29,pI (List.length a.L : Int)),(30,pI s)],[rP 0 3 (zE3 a),rP 1 3 (zE3 b)],2⟩) (by kernel_rfl) ?_ ?_
 ·rintro v10
  kernel_rfl
 rintro v10 x11 h hx11
 replace h : ref31_Same_L11 a b v10 = some x11 := h
 unfold ref31_Same_L11 at h
 refine x_rg (rgn [hE] (⟨[oP 2 0,oP 3 1,(29,pI (List.length a.L : Int)),(30,pI v10),(31,pB (decide (v10 < (List.length a.L : Int))))],[rP 0 3 (zE3 a),rP 1 3 (zE3 b)],2⟩)) ?_
 refine x_seq ?_
 refine x_if h rfl (fun hc12 h => ?_) (fun hc12 h => ?_)
 ·refine x_kk (x_skip (x_tn (x_seq (x_block ?_))))
  refine x_rg (rgn [hE,hE] (⟨[oP 2 0,oP 3 1,(5,pI v10),(29,pI (List.length a.L : Int)),(30,pI v10)],[rP 0 3 (zE3 a),rP 1 3 (zE3 b)],2⟩)) ?_
  obtain ⟨x13,hx13,h⟩ := bind_some h
  obtain ⟨x14,hx14,h⟩ := bind_some h
  obtain ⟨x15,hx15,h⟩ := bind_some h
  refine x_rg (rg0 [hE,hE,hE,hN (.pAt (zE2 x13)),hE,hE,hE,hE,hN (.pAt (zE2 x14)),hE,hN (.cal [] (.bool x15) true),hE] (⟨[oP 2 0,oP 3 1,(29,pI (List.length a.L : Int)),(30,pI v10),(44,pB (!x15))],[rP 0 3 (zE3 a),rP 1 3 (zE3 b)],2⟩) (kc (lsAt_map (f := zE2) hx13) (kc (lsAt_map (f := zE2) hx14) (kc (c45 hx15) .nil)))) ?_
  refine x_if h rfl (fun hc16 h => ?_) (fun hc16 h => ?_)
  ·refine x_rg (rgn [hE] (⟨[(4,pB false)],[],0⟩)) ?_
   refine x_toret (x_br (x_tr (x_tr ?_)))
   replace h := done_leaf h hx11
   refine x_br (x_tr ?_)
   obtain rfl := sj h
   exact ret0 (.bool false) (.refl _) (fun _ => rfl)
  refine x_kk (x_skip (x_bn (x_tn ?_)))
  refine x_rgt (rgn [hE,hE] (⟨[oP 2 0,oP 3 1,(29,pI (List.length a.L : Int)),(30,pI (IntKind.wrap .i64 (v10 + 1)))],[rP 0 3 (zE3 a),rP 1 3 (zE3 b)],2⟩)) ?_
  refine x_tn ?_
  exact ⟨_,(sj h).symm,by kernel_rfl⟩
 refine kw0 (⟨[],[],0⟩) ?_
 refine x_exit ?_
 refine x_te (x_te ?_)
 replace h := done_leaf h hx11
 refine x_bh ?_
 refine x_tn ?_
 refine x_rg (rgn [hE] (⟨[(4,pB true)],[],0⟩)) ?_
 refine x_toret ?_
 obtain rfl := sj h
 exact ret0 (.bool true) (.refl _) (fun _ => rfl)
theorem c6 {p : api_Procs} {o : law31_Op} {r : Bool} (h : law31_ProcfsOwner p o = some r) : CallOK Tryd.prog 6 [zE3 p,zE6 o] (.bool r) true := by
 apply ok6
 unfold law31_ProcfsOwner at h
 refine x_rg (rgn [hE,hE,hE] (⟨[oP 2 0,oP 3 1],[rP 0 3 (zE3 p),rP 1 6 (zE6 o)],2⟩)) ?_
 refine x_seq ?_
 obtain ⟨x1,hx1,h⟩ := bind_some h
 obtain ⟨t8,ht,h⟩ := bind_some h
 refine x_rgB (fun b_ => (⟨[oP 2 0,oP 3 1,(39,pB b_)],[rP 0 3 (zE3 p),rP 1 6 (zE6 o)],2⟩ : VSt)) t8 ?_ ?_
 ·rcases bq (!x1) with hg2 | hg2
  ·replace ht := ite_t ht hg2
   obtain rfl := sj ht
   exact rb [hE,hN (.cal [] (.bool x1) true),hE,hE,hS,hS,hS,hS,hN (.pk true),hE,hS,hS,hS,hS,hE,hE,hS,hS,hS,hE,hE,hS,hS,hS,hS,(.u,.e),(.u,.e),(.u,.e),hS,hE] true (kc (c8 hx1) (hk5 hg2 (hk4 tt (hk8 tt .nil)))) rfl
  replace ht := ite_f ht hg2
  rcases bq (decide (5000 < (List.length o.Text : Int))) with hg3 | hg3
  ·replace ht := ite_t ht hg3
   obtain rfl := sj ht
   exact rb [hE,hN (.cal [] (.bool x1) true),hE,hE,hY,hY,hY,hY,hN (.pk false),hE,hS,hS,hS,hS,hN (.pk true),hE,hS,hS,hS,hE,hE,hS,hS,hS,hS,(.u,.e),(.u,.e),(.u,.e),hS,hE] true (kc (c8 hx1) (hk5 hg2 (hk5 hg3 (hk8 tt .nil)))) rfl
  replace ht := ite_f ht hg3
  rcases bq (decide (200 < (List.length o.User : Int))) with hg4 | hg4
  ·replace ht := ite_t ht hg4
   obtain rfl := sj ht
   exact rb [hE,hN (.cal [] (.bool x1) true),hE,hE,hY,hY,hY,hY,hN (.pk false),hE,hY,hY,hY,hY,hN (.pk false),hE,hS,hS,hS,hN (.pk true),hE,hS,hS,hS,hS,(.u,.e),(.u,.e),(.u,.e),hS,hE] true (kc (c8 hx1) (hk5 hg2 (hk5 hg3 (hk4 hg4 (hk5 tt .nil))))) rfl
  replace ht := ite_f ht hg4
  obtain ⟨x5,hx5,ht⟩ := bind_some ht
  rcases bq (!x5) with hg6 | hg6
  ·replace ht := ite_t ht hg6
   obtain rfl := sj ht
   exact rb [hE,hN (.cal [] (.bool x1) true),hE,hE,hY,hY,hY,hY,hN (.pk false),hE,hY,hY,hY,hY,hN (.pk false),hE,hY,(.y,(.cal [] (.bool x5) true)),hY,hN (.pk false),hE,hS,hS,hS,hS,(.u,.e),(.u,.e),(.u,.e),hS,hN (.pk true)] true (kc (c8 hx1) (hk5 hg2 (hk5 hg3 (hk2 hg4 (kc (c9 hx5) (hk2 hg4 (hk6 hg6 .nil))))))) rfl
  replace ht := ite_f ht hg6
  rcases bq (!decide (o.Kind = 1)) with hg7 | hg7
  ·replace ht := ite_t ht hg7
   obtain rfl := sj ht
   exact rb [hE,hN (.cal [] (.bool x1) true),hE,hE,hY,hY,hY,hY,hN (.pk false),hE,hY,hY,hY,hY,hN (.pk false),hE,hY,(.y,(.cal [] (.bool x5) true)),hY,hN (.pk false),hE,hY,hY,hY,hY,hY,hY,hY,(.y,(.pk true)),hN (.pk false)] (!decide (o.Kind = 3)) (kc (c8 hx1) (hk5 hg2 (hk5 hg3 (hk2 hg4 (kc (c9 hx5) (hk2 hg4 (hk4 hg6 (hk3 hg7 (kc hg6 (kc hg7 (kc hg6 .nil))))))))))) rfl
  replace ht := ite_f ht hg7
  obtain rfl := sj ht
  exact rb [hE,hN (.cal [] (.bool x1) true),hE,hE,hY,hY,hY,hY,hN (.pk false),hE,hY,hY,hY,hY,hN (.pk false),hE,hY,(.y,(.cal [] (.bool x5) true)),hY,hN (.pk false),hE,hY,hY,hY,hY,hS,hS,hS,(.y,(.pk false)),hN (.pk false)] false (kc (c8 hx1) (hk5 hg2 (hk5 hg3 (hk2 hg4 (kc (c9 hx5) (hk2 hg4 (hk4 hg6 (hk3 hg7 (kc hg6 (kc hg7 (kc hg6 .nil))))))))))) rfl
 clear ht
 refine x_if h rfl (fun hc9 h => ?_) (fun hc9 h => ?_)
 ·obtain ⟨x10,hx10,h⟩ := bind_some h
  refine x_rg (rg0 [hN (.cal [] (.bool x10) true),hE] (⟨[(4,pB x10)],[],0⟩) (kc (c10 hx10) .nil)) ?_
  refine x_toret (x_tr ?_)
  obtain rfl := sj h
  exact ret0 (.bool x10) (.refl _) (fun _ => rfl)
 refine x_kk (x_skip (x_tn ?_))
 refine x_rg (rgn [hE,hE,hE] (⟨[oP 2 0,oP 3 1,(5,pI o.Id)],[rP 0 3 (zE3 p),rP 1 6 (zE6 o)],2⟩)) ?_
 refine x_join (τ := Int) (fun t => law31_ProcfsOwner_K11 p o t = some r) (fun t => { tm := [oP 2 0,oP 3 1,(5,.pv (.int .i64 t))],hp := [rP 0 3 (zE3 p),rP 1 6 (zE6 o)],nx := 2 }) ?_ ?_
 ·rintro p12 h
  replace h : law31_ProcfsOwner_K11 p o p12 = some r := h
  unfold law31_ProcfsOwner_K11 at h
  obtain ⟨x13,hx13,h⟩ := bind_some h
  refine x_rg (rg0 [hE,hE,hN (.cal [] (.tup [zE2 x13.1,.bool x13.2]) false),hE,hE,hE,hE,hE,hE] (⟨[oP 2 0,oP 3 1,oP 6 2,(7,pB x13.2)],[rP 0 3 (zE3 p),rP 1 6 (zE6 o),rP 2 13 (zE2 x13.1)],3⟩) (kc (c23 hx13) .nil)) ?_
  refine x_seq ?_
  refine x_rgB (fun b_ => (⟨[oP 2 0,oP 3 1,(62,pB b_)],[rP 0 3 (zE3 p),rP 1 6 (zE6 o)],2⟩ : VSt)) (x13.2 && (decide (x13.1.User = o.User))) ?_ ?_
  ·rcases bq x13.2 with hg14 | hg14
   ·exact rb [hE,hE,hY,hY,hY,hY,hY,hN (.pk true)] (decide (x13.1.User = o.User)) (hk6 hg14 .nil) (by simp only [hg14,bs,reduceIte])
   exact rb [hE,hE,hS,hS,hS,hS,hS,hN (.pk false)] false (hk6 hg14 .nil) (by simp only [hg14,bs,reduceIte])
  refine x_if h rfl (fun hc16 h => ?_) (fun hc16 h => ?_)
  ·obtain ⟨x17,hx17,h⟩ := bind_some h
   refine x_rg (rg0 [hN (.cal [] (.bool x17) true),hE] (⟨[(4,pB x17)],[],0⟩) (kc (c10 hx17) .nil)) ?_
   refine x_toret (x_tr ?_)
   obtain rfl := sj h
   exact ret0 (.bool x17) (.refl _) (fun _ => rfl)
  refine x_kk (x_skip (x_tn ?_))
  obtain ⟨x18,hx18,h⟩ := bind_some h
  refine x_rg (rg0 [hE,hE,hN (.cal [] (.tup [zE3 x18.1,zE7 x18.2]) false),hE,hE,hE,hE,hE,hE,hE] (⟨[oP 2 0,oP 8 1,oP 9 2],[rP 0 3 (zE3 p),rP 1 3 (zE3 x18.1),rP 2 4 (zE7 x18.2)],3⟩) (kc (c24 hx18) .nil)) ?_
  obtain ⟨t24,ht,h⟩ := bind_some h
  refine x_rgB (fun b_ => (⟨[(4,pB b_)],[],0⟩ : VSt)) t24 ?_ ?_
  ·rcases bq (!decide (x18.2.Err = 0)) with hg19 | hg19
   ·replace ht := ite_t ht hg19
    rcases bq (decide (x18.2.N = 0)) with hg20 | hg20
    ·replace ht := ite_t ht hg20
     obtain ⟨x21,hx21,ht⟩ := bind_some ht
     rcases bq x21 with hg22 | hg22
     ·replace ht := ite_t ht hg22
      obtain ⟨x23,hx23,ht⟩ := bind_some ht
      obtain rfl := sj ht
      exact rb [hE,hE,hE,hE,hY,hY,hY,hN (.pk true),hE,hY,hY,(.y,(.cal [] (.bool x21) true)),hN (.pk true),hE,(.y,(.cal [] (.bool x23) true)),hN (.pk true),hE] x23 (hk4 hg19 (hk3 hg20 (kc (c25 hx21) (kc hg20 (kc hg22 (kc (c10 hx23) (kc hg22 .nil))))))) rfl
     replace ht := ite_f ht hg22
     obtain rfl := sj ht
     exact rb [hE,hE,hE,hE,hY,hY,hY,hN (.pk true),hE,hY,hY,(.y,(.cal [] (.bool x21) true)),hN (.pk true),hE,hS,hN (.pk false),hE] false (hk4 hg19 (hk3 hg20 (kc (c25 hx21) (kc hg20 (hk2 hg22 .nil))))) rfl
    replace ht := ite_f ht hg20
    obtain rfl := sj ht
    exact rb [hE,hE,hE,hE,hY,hY,hY,hN (.pk true),hE,hS,hS,hS,hN (.pk false),hE,hS,hE,hE] false (hk4 hg19 (hk4 hg20 (kc ff .nil))) rfl
   replace ht := ite_f ht hg19
   obtain rfl := sj ht
   exact rb [hE,hE,hE,hE,hS,hS,hS,hN (.pk false),hE,hS,hS,hS,hE,hE,hS,hE,hE] false (hk4 hg19 (hk4 ff .nil)) rfl
  clear ht
  refine x_toret ?_
  obtain rfl := sj h
  exact ret0 (.bool t24) (.refl _) (fun _ => rfl)
 refine x_rg (rgn [hE,hE,hE] (⟨[oP 2 0,oP 3 1,(5,pI o.Id),(45,pB (decide (o.Kind = 3)))],[rP 0 3 (zE3 p),rP 1 6 (zE6 o)],2⟩)) ?_
 refine x_if h rfl (fun hc25 h => ?_) (fun hc25 h => ?_)
 ·refine x_rgt (rgn [hE,hE,hE,hE] (⟨[oP 2 0,oP 3 1,(5,pI (IntKind.wrap .i64 (Int.tdiv o.Id 16)))],[rP 0 3 (zE3 p),rP 1 6 (zE6 o)],2⟩)) ?_
  refine x_tn ?_
  exact ⟨(IntKind.wrap .i64 (Int.tdiv o.Id 16)),h,by kernel_rfl⟩
 refine kw0 (⟨[oP 2 0,oP 3 1,(5,pI o.Id)],[rP 0 3 (zE3 p),rP 1 6 (zE6 o)],2⟩) ?_
 refine x_skip (x_tn ?_)
 exact ⟨o.Id,h,by kernel_rfl⟩
end Go.Proofs.YtgmlbldjdhonjaaDoor
