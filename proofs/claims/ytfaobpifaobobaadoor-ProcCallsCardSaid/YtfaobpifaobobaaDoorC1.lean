import Derived.Test.YtfaobpifaobobaaDoorC
import Derived.Test.YtfaobpifaobobaaDoorS
import Derived.Test.YtfaobpifaobobaaDoorShelf
import Derived.Test.YtfaobpifaobobaaDoorVmB
import Derived.Test.YtfaobpifaobobaaDoorF
namespace Go.Proofs.YtfaobpifaobobaaDoor
open Go.Vm
set_option autoImplicit false
set_option linter.unusedVariables false
set_option linter.unusedSimpArgs false
set_option maxRecDepth 100000
theorem c16 {p : api_Procs} {r : Bool} (h : ref30_Right p = some r) : CallOK Tryd.prog 16 [zE3 p] (.bool r) true := by
 apply ok16
 unfold ref30_Right at h
 refine x_rg (rgn [hE,hE] (⟨[oP 1 0],[rP 0 3 (zE3 p)],1⟩)) ?_
 refine x_rg (rg0 [hE,hE,hN (.len (List.length p.L : Int)),hE] (⟨[oP 1 0,(3,pI (List.length p.L : Int))],[rP 0 3 (zE3 p)],1⟩) (kc (lenM zE2 p.L) .nil)) ?_
 refine x_seq ?_
 obtain ⟨t11,ht,h⟩ := bind_some h
 refine x_rgB (fun b_ => (⟨[oP 1 0,(3,pI (List.length p.L : Int)),(58,pB b_)],[rP 0 3 (zE3 p)],1⟩ : VSt)) t11 ?_ ?_
 ·rcases bq (decide ((List.length p.L : Int) < 1)) with hg1 | hg1
  ·replace ht := ite_t ht hg1
   obtain rfl := sj ht
   exact rb [hE,hE,hE,hS,hS,hN (.pk true),hE,hS,hS,hS,hS,hS,hS,hE,hE,hS,hS,hS,hS,hS,hS,hE,hE,hS,hS,hS,hS,hS,hS,hS,hS,hS,hS,hE,hE,hS,hS,hS,hE,hE,hS,hS,hS,hE,hE,hS,hS,hS,hE] true (hk3 hg1 (kc tt (hk6 tt (hk8 tt (hk8 tt (hk8 tt .nil)))))) rfl
  replace ht := ite_f ht hg1
  rcases bq (decide (64 < (List.length p.L : Int))) with hg2 | hg2
  ·replace ht := ite_t ht hg2
   obtain rfl := sj ht
   exact rb [hE,hE,hE,hY,hY,hN (.pk false),hE,hS,hS,hS,hS,hS,hS,hN (.pk true),hE,hS,hS,hS,hS,hS,hS,hE,hE,hS,hS,hS,hS,hS,hS,hS,hS,hS,hS,hE,hE,hS,hS,hS,hE,hE,hS,hS,hS,hE,hE,hS,hS,hS,hE] true (hk3 hg1 (kc hg2 (hk6 hg2 (kc tt (hk8 tt (hk8 tt (hk8 tt .nil))))))) rfl
  replace ht := ite_f ht hg2
  obtain ⟨x3,hx3,ht⟩ := bind_some ht
  rcases bq (!decide (x3.Id = 1)) with hg4 | hg4
  ·replace ht := ite_t ht hg4
   obtain rfl := sj ht
   exact rb [hE,hE,hE,hY,hY,hN (.pk false),hE,hY,hY,(.y,(.pAt (zE2 x3))),hY,hY,hY,hN (.pk false),hE,hS,hS,hS,hS,hS,hS,hN (.pk true),hE,hS,hS,hS,hS,hS,hS,hS,hS,hS,hS,hE,hE,hS,hS,hS,hE,hE,hS,hS,hS,hE,hE,hS,hS,hS,hE] true (hk3 hg1 (hk3 hg2 (kc (lsAt_map (f := zE2) hx3) (hk4 hg2 (kc hg4 (hk6 hg4 (hk3 tt (hk8 tt (hk8 tt .nil))))))))) rfl
  replace ht := ite_f ht hg4
  obtain ⟨x5,hx5,ht⟩ := bind_some ht
  rcases bq (!decide (x5.Parent = 0)) with hg6 | hg6
  ·replace ht := ite_t ht hg6
   obtain rfl := sj ht
   exact rb [hE,hE,hE,hY,hY,hN (.pk false),hE,hY,hY,(.y,(.pAt (zE2 x3))),hY,hY,hY,hN (.pk false),hE,hY,hY,(.y,(.pAt (zE2 x5))),hY,hY,hY,hN (.pk false),hE,hS,hS,hS,hS,hS,hS,hS,hS,hS,hS,hN (.pk true),hE,hS,hS,hS,hE,hE,hS,hS,hS,hE,hE,hS,hS,hS,hE] true (hk3 hg1 (hk3 hg2 (kc (lsAt_map (f := zE2) hx3) (hk4 hg2 (hk3 hg4 (kc (lsAt_map (f := zE2) hx5) (hk4 hg4 (hk3 hg6 (hk8 hg6 (kc tt (hk8 tt .nil))))))))))) rfl
  replace ht := ite_f ht hg6
  obtain ⟨x7,hx7,ht⟩ := bind_some ht
  rcases bq (decide (p.Next ≤ x7.Id)) with hg8 | hg8
  ·replace ht := ite_t ht hg8
   obtain rfl := sj ht
   exact rb [hE,hE,hE,hY,hY,hN (.pk false),hE,hY,hY,(.y,(.pAt (zE2 x3))),hY,hY,hY,hN (.pk false),hE,hY,hY,(.y,(.pAt (zE2 x5))),hY,hY,hY,hN (.pk false),hE,hY,hY,hY,hY,hY,hY,(.y,(.pAt (zE2 x7))),hY,hY,hY,hN (.pk false),hE,hS,hS,hS,hN (.pk true),hE,hS,hS,hS,hE,hE,hS,hS,hS,hE] true (hk3 hg1 (hk3 hg2 (kc (lsAt_map (f := zE2) hx3) (hk4 hg2 (hk3 hg4 (kc (lsAt_map (f := zE2) hx5) (hk4 hg4 (kc hg6 (hk6 hg6 (kc (lsAt_map (f := zE2) hx7) (hk4 hg6 (hk4 hg8 (hk6 tt .nil))))))))))))) rfl
  replace ht := ite_f ht hg8
  rcases bq (decide (1048576 < p.Next)) with hg9 | hg9
  ·replace ht := ite_t ht hg9
   obtain rfl := sj ht
   exact rb [hE,hE,hE,hY,hY,hN (.pk false),hE,hY,hY,(.y,(.pAt (zE2 x3))),hY,hY,hY,hN (.pk false),hE,hY,hY,(.y,(.pAt (zE2 x5))),hY,hY,hY,hN (.pk false),hE,hY,hY,hY,hY,hY,hY,(.y,(.pAt (zE2 x7))),hY,hY,hY,hN (.pk false),hE,hY,hY,hY,hN (.pk false),hE,hS,hS,hS,hN (.pk true),hE,hS,hS,hS,hE] true (hk3 hg1 (hk3 hg2 (kc (lsAt_map (f := zE2) hx3) (hk4 hg2 (hk3 hg4 (kc (lsAt_map (f := zE2) hx5) (hk4 hg4 (kc hg6 (hk6 hg6 (kc (lsAt_map (f := zE2) hx7) (hk4 hg6 (hk4 hg8 (hk4 hg9 (hk3 tt .nil)))))))))))))) rfl
  replace ht := ite_f ht hg9
  rcases bq (decide (p.Group < 2)) with hg10 | hg10
  ·replace ht := ite_t ht hg10
   obtain rfl := sj ht
   exact rb [hE,hE,hE,hY,hY,hN (.pk false),hE,hY,hY,(.y,(.pAt (zE2 x3))),hY,hY,hY,hN (.pk false),hE,hY,hY,(.y,(.pAt (zE2 x5))),hY,hY,hY,hN (.pk false),hE,hY,hY,hY,hY,hY,hY,(.y,(.pAt (zE2 x7))),hY,hY,hY,hN (.pk false),hE,hY,hY,hY,hN (.pk false),hE,hY,hY,hY,hN (.pk false),hE,hS,hS,hS,hN (.pk true)] true (hk3 hg1 (hk3 hg2 (kc (lsAt_map (f := zE2) hx3) (hk4 hg2 (hk3 hg4 (kc (lsAt_map (f := zE2) hx5) (hk4 hg4 (kc hg6 (hk6 hg6 (kc (lsAt_map (f := zE2) hx7) (hk4 hg6 (hk4 hg8 (hk4 hg9 (hk4 hg10 .nil)))))))))))))) rfl
  replace ht := ite_f ht hg10
  obtain rfl := sj ht
  exact rb [hE,hE,hE,hY,hY,hN (.pk false),hE,hY,hY,(.y,(.pAt (zE2 x3))),hY,hY,hY,hN (.pk false),hE,hY,hY,(.y,(.pAt (zE2 x5))),hY,hY,hY,hN (.pk false),hE,hY,hY,hY,hY,hY,hY,(.y,(.pAt (zE2 x7))),hY,hY,hY,hN (.pk false),hE,hY,hY,hY,hN (.pk false),hE,hY,hY,hY,hN (.pk false),hE,hY,hY,hY,hN (.pk false)] (decide (1099511627777 < p.Group)) (hk3 hg1 (hk3 hg2 (kc (lsAt_map (f := zE2) hx3) (hk4 hg2 (hk3 hg4 (kc (lsAt_map (f := zE2) hx5) (hk4 hg4 (kc hg6 (hk6 hg6 (kc (lsAt_map (f := zE2) hx7) (hk4 hg6 (hk4 hg8 (hk4 hg9 (hk4 hg10 .nil)))))))))))))) rfl
 clear ht
 refine x_if h rfl (fun hc12 h => ?_) (fun hc12 h => ?_)
 ·refine x_rg (rgn [hE] (⟨[(2,pB false)],[],0⟩)) ?_
  refine x_toret (x_tr ?_)
  obtain rfl := sj h
  exact ret0 (.bool false) (.refl _) (fun _ => rfl)
 refine x_kk (x_skip (x_tn (x_seq ?_)))
 refine x_rg (rgn [hE] (⟨[oP 1 0,(3,pI (List.length p.L : Int)),(4,pI 0)],[rP 0 3 (zE3 p)],1⟩)) ?_
 refine x_block ?_
 refine kw0 (⟨[oP 1 0,(3,pI (List.length p.L : Int)),(4,pI 0)],[rP 0 3 (zE3 p)],1⟩) ?_
 refine x_loop (σ := Int) h (fun s => ⟨[oP 1 0,(3,pI (List.length p.L : Int)),(4,pI s)],[rP 0 3 (zE3 p)],1⟩) (by kernel_rfl) ?_ ?_
 ·rintro i
  kernel_rfl
 rintro i x19 h hx19
 replace h : ref30_Right_L19 p i = some x19 := h
 unfold ref30_Right_L19 at h
 refine x_seq ?_
 refine x_rg (rgn [hE,hE,hE] (⟨[oP 1 0,(3,pI (List.length p.L : Int)),(4,pI i),(61,pB (decide (i < (List.length p.L : Int))))],[rP 0 3 (zE3 p)],1⟩)) ?_
 refine x_if h rfl (fun hc20 h => ?_) (fun hc20 h => ?_)
 ·refine x_kk (x_skip (x_tn (x_seq (x_block (x_seq ?_)))))
  obtain ⟨x21,hx21,h⟩ := bind_some h
  obtain ⟨x22,hx22,h⟩ := bind_some h
  refine x_rg (rg0 [hE,hE,hE,hE,hN (.pAt (zE2 x21)),hE,hN (.cal [] (.bool x22) true),hE] (⟨[oP 1 0,(3,pI (List.length p.L : Int)),(4,pI i),(71,pB (!x22))],[rP 0 3 (zE3 p)],1⟩) (kc (lsAt_map (f := zE2) hx21) (kc (c30 hx22) .nil))) ?_
  refine x_if h rfl (fun hc23 h => ?_) (fun hc23 h => ?_)
  ·refine x_rg (rgn [hE] (⟨[(2,pB false)],[],0⟩)) ?_
   refine x_toret (x_tr (x_br (x_tr (x_tr ?_))))
   replace h := done_leaf h hx19
   refine x_br (x_tr ?_)
   obtain rfl := sj h
   exact ret0 (.bool false) (.refl _) (fun _ => rfl)
  refine x_kk (x_skip (x_tn ?_))
  refine x_rg (rgn [hE,hE,hE] (⟨[oP 1 0,(3,pI (List.length p.L : Int)),(4,pI i),(5,pB (decide (i = 0)))],[rP 0 3 (zE3 p)],1⟩)) ?_
  refine x_seq ?_
  refine x_rg (rgn [hE] (⟨[oP 1 0,(3,pI (List.length p.L : Int)),(4,pI i),(5,pB (decide (i = 0))),(6,pI 0)],[rP 0 3 (zE3 p)],1⟩)) ?_
  refine x_block ?_
  refine kw0 (⟨[oP 1 0,(3,pI (List.length p.L : Int)),(4,pI i),(5,pB (decide (i = 0))),(6,pI 0)],[rP 0 3 (zE3 p)],1⟩) ?_
  refine x_loop (σ := (Bool × Int)) h (fun s => ⟨[oP 1 0,(3,pI (List.length p.L : Int)),(4,pI i),(5,pB s.1),(6,pI s.2)],[rP 0 3 (zE3 p)],1⟩) (by kernel_rfl) ?_ ?_
  ·rintro ⟨found,k⟩
   kernel_rfl
  rintro ⟨found,k⟩ x31 h hx31
  replace h : ref30_Right_L31 p i found k = some x31 := h
  unfold ref30_Right_L31 at h
  refine x_seq ?_
  refine x_rg (rgn [hE,hE,hE] (⟨[oP 1 0,(3,pI (List.length p.L : Int)),(4,pI i),(5,pB found),(6,pI k),(76,pB (decide (k < i)))],[rP 0 3 (zE3 p)],1⟩)) ?_
  refine x_if h rfl (fun hc32 h => ?_) (fun hc32 h => ?_)
  ·refine x_kk (x_skip (x_tn (x_seq (x_block ?_))))
   obtain ⟨t36,ht,h⟩ := bind_some h
   refine x_rgtB (fun b_ => (⟨[oP 1 0,(3,pI (List.length p.L : Int)),(4,pI i),(5,pB b_),(6,pI k)],[rP 0 3 (zE3 p)],1⟩ : VSt)) t36 ?_ ?_
   ·rcases bq found with hg33 | hg33
    ·replace ht := ite_t ht hg33
     obtain rfl := sj ht
     exact rb [hE,hE,hS,hS,hS,hS,hS,hS,hS,hS,hS,hS,hS,hS,hS,hN (.pk true),hE] true (hk6 hg33 (hk8 hg33 .nil)) rfl
    replace ht := ite_f ht hg33
    obtain ⟨x34,hx34,ht⟩ := bind_some ht
    obtain ⟨x35,hx35,ht⟩ := bind_some ht
    obtain rfl := sj ht
    exact rb [hE,hE,hY,hY,hY,(.y,(.pAt (zE2 x34))),hY,hY,hY,hY,hY,(.y,(.pAt (zE2 x35))),hY,hY,hY,hN (.pk false),hE] (decide (x34.Id = x35.Parent)) (hk4 hg33 (kc (lsAt_map (f := zE2) hx34) (hk6 hg33 (kc (lsAt_map (f := zE2) hx35) (hk4 hg33 .nil))))) rfl
   clear ht
   refine x_bn (x_tn ?_)
   refine x_rgt (rgn [hE,hE,hE] (⟨[oP 1 0,(3,pI (List.length p.L : Int)),(4,pI i),(5,pB t36),(6,pI (IntKind.wrap .i64 (k + 1)))],[rP 0 3 (zE3 p)],1⟩)) ?_
   refine x_tn ?_
   exact ⟨_,(sj h).symm,by kernel_rfl⟩
  refine kw0 (⟨[oP 1 0,(3,pI (List.length p.L : Int)),(4,pI i),(5,pB found)],[rP 0 3 (zE3 p)],1⟩) ?_
  refine x_exit ?_
  refine x_te (x_te ?_)
  replace h := done_map h hx31
  unfold ref30_Right_A43 at h
  refine x_bh ?_
  refine x_tn ?_
  obtain ⟨t41,ht,h⟩ := bind_some h
  refine x_rgB (fun b_ => (⟨[oP 1 0,(3,pI (List.length p.L : Int)),(4,pI i),(116,pB b_)],[rP 0 3 (zE3 p)],1⟩ : VSt)) t41 ?_ ?_
  ·rcases bq (!found) with hg37 | hg37
   ·replace ht := ite_t ht hg37
    obtain rfl := sj ht
    exact rb [hE,hE,hE,hS,hS,hS,(.u,.e),(.u,.e),(.u,.e),(.u,.e),(.u,.e),(.u,.e),(.u,.e),(.u,.e),(.u,.e),(.u,.e),(.u,.e),(.u,.e),(.u,.e),(.u,.e),hS,hN (.pk true)] true (hk5 hg37 .nil) rfl
   replace ht := ite_f ht hg37
   rcases bq (decide (0 < i)) with hg38 | hg38
   ·replace ht := ite_t ht hg38
    obtain ⟨x39,hx39,ht⟩ := bind_some ht
    obtain ⟨x40,hx40,ht⟩ := bind_some ht
    obtain rfl := sj ht
    exact rb [hE,hE,hE,hY,hY,hY,hY,hY,hY,(.y,(.pAt (zE2 x39))),hY,hY,hY,hY,hY,hY,(.y,(.pAt (zE2 x40))),hY,hY,hY,(.y,(.pk true)),hN (.pk false)] (decide (x39.Id ≤ x40.Id)) (hk3 hg37 (hk4 hg38 (kc (lsAt_map (f := zE2) hx39) (kc hg38 (hk6 hg38 (kc (lsAt_map (f := zE2) hx40) (hk3 hg38 (kc hg37 (kc hg38 (kc hg37 .nil)))))))))) rfl
   replace ht := ite_f ht hg38
   obtain rfl := sj ht
   exact rb [hE,hE,hE,hY,hY,hY,hS,hS,hS,hS,hS,hS,hS,hS,hS,hS,hS,hS,hS,hS,(.y,(.pk false)),hN (.pk false)] false (hk3 hg37 (hk6 hg38 (hk8 hg38 (kc hg37 (kc hg38 (kc hg37 .nil)))))) rfl
  clear ht
  refine x_if h rfl (fun hc42 h => ?_) (fun hc42 h => ?_)
  ·refine x_rg (rgn [hE] (⟨[(2,pB false)],[],0⟩)) ?_
   refine x_toret (x_br (x_tr (x_tr ?_)))
   replace h := done_leaf h hx19
   refine x_br (x_tr ?_)
   obtain rfl := sj h
   exact ret0 (.bool false) (.refl _) (fun _ => rfl)
  refine x_kk (x_skip (x_bn (x_tn ?_)))
  refine x_rgt (rgn [hE,hE,hE] (⟨[oP 1 0,(3,pI (List.length p.L : Int)),(4,pI (IntKind.wrap .i64 (i + 1)))],[rP 0 3 (zE3 p)],1⟩)) ?_
  refine x_tn ?_
  exact ⟨_,(sj h).symm,by kernel_rfl⟩
 refine kw0 (⟨[],[],0⟩) ?_
 refine x_exit ?_
 refine x_te (x_te ?_)
 replace h := done_leaf h hx19
 refine x_bh ?_
 refine x_tn ?_
 refine x_rg (rgn [hE] (⟨[(2,pB true)],[],0⟩)) ?_
 refine x_toret ?_
 obtain rfl := sj h
 exact ret0 (.bool true) (.refl _) (fun _ => rfl)
theorem c38 {p : api_Procs} {id : Int} {note : Str} {r : (api_Procs × Int)} (h : proc_Note p id note = some r) : CallOK Tryd.prog 38 [zE3 p,.int .i64 id,.str note] (.tup [(gA1 r.1),.int .i64 r.2]) false := by
 apply ok38
 unfold proc_Note at h
 refine x_rg (rgn [hE,hE,hE] (⟨[(1,pI id),(2,pS note),oP 3 0,oP 6 1],[rP 0 3 (zE3 p),rP 1 3 gA2],2⟩)) ?_
 obtain ⟨x1,hx1,h⟩ := bind_some h
 refine x_rg (rg0 [hE,hN (.cal [] (gA5 x1) false),hE,hE] (⟨[(1,pI id),(2,pS note),oP 6 0,oP 8 1],[rP 0 3 gA2,rH 1 3 (gA7 x1 2),(2,some (.p (some 13) (List.map zE2 x1.L) [(9,none),(11,none)]))],3⟩) (kc (c31 hx1) .nil)) ?_
 obtain ⟨x2,hx2,h⟩ := bind_some h
 refine x_rg (rg0 [hE,hE,hN (.call [] [(gA8 x1),.int .i64 id] (.int .i64 x2) true),hE] (⟨[(2,pS note),oP 6 0,oP 8 1,(9,pI x2)],[rP 0 3 gA2,rH 1 3 (gA7 x1 2),(2,some (.p (some 13) (List.map zE2 x1.L) [(9,none),(11,none)]))],3⟩) (kc (show LesA [(gA9 x1),.int .i64 id] [(gA8 x1),.int .i64 id] from (.cons (.agg (.cons (.refl _) (.cons (.refl _) (.cons (.of_eq (by rw [List.drop_zero,List.take_length])) .nil)))) (.cons (.refl _) .nil))) (kc (c25 hx2) (kc (le0 (List.map zE2 x1.L)) .nil)))) ?_
 refine x_seq (x_block ?_)
 refine x_rg (rgn [hE,hE,hE] (⟨[(2,pS note),oP 6 0,oP 8 1,(9,pI x2),(15,pB (decide (x2 < 0)))],[rP 0 3 gA2,rH 1 3 (gA7 x1 2),(2,some (.p (some 13) (List.map zE2 x1.L) [(9,none),(11,none)]))],3⟩)) ?_
 refine x_if h rfl (fun hc3 h => ?_) (fun hc3 h => ?_)
 ·refine x_rg (rgn [hE,hE,hE] (⟨[oP 6 0,(7,pI 42)],[rH 0 3 (gA7 x1 1),(1,some (.p (some 13) (List.map zE2 x1.L) [(9,none),(11,none)]))],2⟩)) ?_
  refine x_toret (x_br (x_tr ?_))
  obtain rfl := sj h
  exact x_ret (.tup [(gA5 x1),.int .i64 42]) [1] [(List.map zE2 x1.L).length = List.length (List.map zE2 x1.L)] (by kernel_rfl) (.cons rfl .nil) (by decide) (.tup (.cons (.agg (.cons (.refl _) (.cons (.refl _) (.cons (.dslU _ _ _) .nil)))) (.cons (.refl _) .nil))) (fun h => nomatch h)
 obtain ⟨x4,hx4,h⟩ := bind_some h
 refine x_rg (rg0 [hE,hN (.cal [] (.bool x4) true),hE,hE] (⟨[(2,pS note),oP 6 0,oP 8 1,(9,pI x2),(19,pB (!x4))],[rP 0 3 gA2,rH 1 3 (gA7 x1 2),(2,some (.p (some 13) (List.map zE2 x1.L) [(9,none),(11,none)]))],3⟩) (kc (c32 hx4) .nil)) ?_
 refine x_if h rfl (fun hc5 h => ?_) (fun hc5 h => ?_)
 ·refine x_rg (rgn [hE,hE,hE] (⟨[oP 6 0,(7,pI 4)],[rH 0 3 (gA7 x1 1),(1,some (.p (some 13) (List.map zE2 x1.L) [(9,none),(11,none)]))],2⟩)) ?_
  refine x_toret (x_br (x_tr ?_))
  obtain rfl := sj h
  exact x_ret (.tup [(gA5 x1),.int .i64 4]) [1] [(List.map zE2 x1.L).length = List.length (List.map zE2 x1.L)] (by kernel_rfl) (.cons rfl .nil) (by decide) (.tup (.cons (.agg (.cons (.refl _) (.cons (.refl _) (.cons (.dslU _ _ _) .nil)))) (.cons (.refl _) .nil))) (fun h => nomatch h)
 obtain ⟨x6,hx6,h⟩ := bind_some h
 refine x_rg (rg0 [hE,hE,hE,hN .rAt,hE,hN (.ld (zE2 x6)),hN (.len (List.length x6.Notes : Int)),hE,hE] (⟨[(2,pS note),oP 6 0,oP 8 1,(9,pI x2),(24,pB (decide (8 ≤ (List.length x6.Notes : Int))))],[rP 0 3 gA2,rH 1 3 (gA7 x1 2),(2,some (.p (some 13) (List.map zE2 x1.L) [(9,none),(11,none)]))],3⟩) (kc (rAtM (f := zE2) hx6) (kc (ownAt (f := zE2) hx6) (kc (lenM PV.str x6.Notes) .nil)))) ?_
 refine x_if h rfl (fun hc7 h => ?_) (fun hc7 h => ?_)
 ·refine x_rg (rgn [hE,hE,hE] (⟨[oP 6 0,(7,pI 22)],[rH 0 3 (gA7 x1 1),(1,some (.p (some 13) (List.map zE2 x1.L) [(9,none),(11,none)]))],2⟩)) ?_
  refine x_toret (x_br (x_tr ?_))
  obtain rfl := sj h
  exact x_ret (.tup [(gA5 x1),.int .i64 22]) [1] [(List.map zE2 x1.L).length = List.length (List.map zE2 x1.L)] (by kernel_rfl) (.cons rfl .nil) (by decide) (.tup (.cons (.agg (.cons (.refl _) (.cons (.refl _) (.cons (.dslU _ _ _) .nil)))) (.cons (.refl _) .nil))) (fun h => nomatch h)
 refine x_kk (x_skip (x_bn (x_tn ?_)))
 obtain ⟨x8,hx8,h⟩ := bind_some h
 obtain ⟨x9,hx9,h⟩ := bind_some h
 obtain ⟨x10,hx10,h⟩ := bind_some h
 refine x_rg (st2 := { tm := [oP 6 0,oP 8 1],hp := [rP 0 3 gA2,rH 1 3 (.agg [.pv (.int .i64 x1.Next),.pv (.int .i64 x1.Group),.osl 2 0 (List.map zE2 (List.set x1.L (Int.toNat x2) (api_Proc.mk x10.Id x10.Parent x10.State x10.User x10.Name x10.Ns x10.Env x10.Fds x10.Cwd x9 x10.Status x10.Waits x10.Alone))).length]),(2,some (.p (some 13) (List.map zE2 (List.set x1.L (Int.toNat x2) (api_Proc.mk x10.Id x10.Parent x10.State x10.User x10.Name x10.Ns x10.Env x10.Fds x10.Cwd x9 x10.Status x10.Waits x10.Alone)))))],nx := 3 }) (rg [hE,hE,hE,hE,hE,hE,hN .rAt,hE,hN (.tko (gA6 x8)),hE,hE,hN (.appR (List.map PV.str x9)),hN .rAt,hE,hN (.set (zE2 x10) (List.map zE2 (List.set x1.L (Int.toNat x2) (api_Proc.mk x10.Id x10.Parent x10.State x10.User x10.Name x10.Ns x10.Env x10.Fds x10.Cwd x9 x10.Status x10.Waits x10.Alone))))] ({ tm := [oP 6 0,oP 8 1],hp := [rP 0 3 gA2,rH 1 3 (gA11 x1),(2,some (.p (some 13) (List.map zE2 (List.set x1.L (Int.toNat x2) (api_Proc.mk x10.Id x10.Parent x10.State x10.User x10.Name x10.Ns x10.Env x10.Fds x10.Cwd x9 x10.Status x10.Waits x10.Alone)))))],nx := 3 }) (kc (rAtM (f := zE2) hx8) (kc (ownAt (f := zE2) hx8) (kc (show (List.map PV.str x8.Notes).length = List.length (List.map PV.str x8.Notes) from rfl) (kc (show (List.map PV.str x8.Notes) ++ List.take 1 (List.drop 0 ([.str note] : List PV)) = (List.map PV.str x9) from (app_ob hx9 (.rfl _) (.rfl _))) (kc (show List.length (List.map PV.str x9) * 16 ≤ 140737488355328 from (by rw [List.length_map]; exact (appL_ok hx9).2.1)) (kc (show List.length (List.map PV.str x9) ≤ 9223372036854775807 from (by rw [List.length_map]; exact (appL_ok hx9).2.2)) (kc (show 0 + 1 ≤ List.length ([.str note] : List PV) from (by simp)) (kc (rAtM (f := zE2) hx10) (kc (ownAt (f := zE2) hx10) (kc (show List.set (List.map zE2 x1.L) (0 + Int.toNat x2) (.agg [.int .i64 x10.Id,.int .i64 x10.Parent,.int .i64 x10.State,.str x10.User,.str x10.Name,.int .i64 x10.Ns,.int .i64 x10.Env,.int .i64 x10.Fds,.str x10.Cwd,.sl none (List.map PV.str x9),.str x10.Status,.sl (some 2) (List.map zE1 x10.Waits),.bool x10.Alone]) = (List.map zE2 (List.set x1.L (Int.toNat x2) (api_Proc.mk x10.Id x10.Parent x10.State x10.User x10.Name x10.Ns x10.Env x10.Fds x10.Cwd x9 x10.Status x10.Waits x10.Alone))) from (by rw [Nat.zero_add,List.map_set]; try rfl)) .nil)))))))))) (Sub.of_eq (by simp only [List.length_map,List.length_set,gA11]))) ?_
 refine x_rg (rgn [hE,hE,hE] (⟨[oP 6 0,(7,pI 0)],[rH 0 3 (.agg [pI x1.Next,pI x1.Group,oL 1 zE2 (List.set x1.L (Int.toNat x2) (api_Proc.mk x10.Id x10.Parent x10.State x10.User x10.Name x10.Ns x10.Env x10.Fds x10.Cwd x9 x10.Status x10.Waits x10.Alone))]),(1,rL (some 13) zE2 (List.set x1.L (Int.toNat x2) (api_Proc.mk x10.Id x10.Parent x10.State x10.User x10.Name x10.Ns x10.Env x10.Fds x10.Cwd x9 x10.Status x10.Waits x10.Alone)))],2⟩)) ?_
 refine x_toret ?_
 obtain rfl := sj h
 exact x_ret (.tup [.agg [.int .i64 x1.Next,.int .i64 x1.Group,.usl (some 13) (List.take (List.map zE2 (List.set x1.L (Int.toNat x2) (api_Proc.mk x10.Id x10.Parent x10.State x10.User x10.Name x10.Ns x10.Env x10.Fds x10.Cwd x9 x10.Status x10.Waits x10.Alone))).length (List.map zE2 (List.set x1.L (Int.toNat x2) (api_Proc.mk x10.Id x10.Parent x10.State x10.User x10.Name x10.Ns x10.Env x10.Fds x10.Cwd x9 x10.Status x10.Waits x10.Alone))))],.int .i64 0]) [1] [(List.map zE2 (List.set x1.L (Int.toNat x2) (api_Proc.mk x10.Id x10.Parent x10.State x10.User x10.Name x10.Ns x10.Env x10.Fds x10.Cwd x9 x10.Status x10.Waits x10.Alone))).length ≤ List.length (List.map zE2 (List.set x1.L (Int.toNat x2) (api_Proc.mk x10.Id x10.Parent x10.State x10.User x10.Name x10.Ns x10.Env x10.Fds x10.Cwd x9 x10.Status x10.Waits x10.Alone)))] (by kernel_rfl) (.cons (Nat.le_refl _) .nil) (by decide) (.tup (.cons (.agg (.cons (.refl _) (.cons (.refl _) (.cons (.of_eq (by rw [List.take_length])) .nil)))) (.cons (.refl _) .nil))) (fun h => nomatch h)
theorem c39 {p : api_Procs} {id : Int} {r : (api_Procs × Str × Bool × Int)} (h : proc_Take p id = some r) : CallOK Tryd.prog 39 [zE3 p,.int .i64 id] (.tup [(gA1 r.1),.str r.2.1,.bool r.2.2.1,.int .i64 r.2.2.2]) false := by
 apply ok39
 unfold proc_Take at h
 refine x_rg (rgn [hE,hE,hE,hE,hE] (⟨[(1,pI id),oP 2 0,oP 4 1],[rP 0 3 (zE3 p),rP 1 3 gA2],2⟩)) ?_
 obtain ⟨x1,hx1,h⟩ := bind_some h
 refine x_rg (rg0 [hE,hN (.cal [] (gA5 x1) false),hE,hE] (⟨[(1,pI id),oP 4 0,oP 8 1],[rP 0 3 gA2,rH 1 3 (gA7 x1 2),(2,some (.p (some 13) (List.map zE2 x1.L) [(9,none),(11,none)]))],3⟩) (kc (c31 hx1) .nil)) ?_
 obtain ⟨x2,hx2,h⟩ := bind_some h
 refine x_rg (rg0 [hE,hE,hN (.call [] [(gA8 x1),.int .i64 id] (.int .i64 x2) true),hE] (⟨[oP 4 0,oP 8 1,(9,pI x2)],[rP 0 3 gA2,rH 1 3 (gA7 x1 2),(2,some (.p (some 13) (List.map zE2 x1.L) [(9,none),(11,none)]))],3⟩) (kc (show LesA [(gA9 x1),.int .i64 id] [(gA8 x1),.int .i64 id] from (.cons (.agg (.cons (.refl _) (.cons (.refl _) (.cons (.of_eq (by rw [List.drop_zero,List.take_length])) .nil)))) (.cons (.refl _) .nil))) (kc (c25 hx2) (kc (le0 (List.map zE2 x1.L)) .nil)))) ?_
 refine x_seq ?_
 refine x_rg (rgn [hE,hE] (⟨[oP 4 0,oP 8 1,(9,pI x2),(17,pB (decide (x2 < 0)))],[rP 0 3 gA2,rH 1 3 (gA7 x1 2),(2,some (.p (some 13) (List.map zE2 x1.L) [(9,none),(11,none)]))],3⟩)) ?_
 refine x_if h rfl (fun hc3 h => ?_) (fun hc3 h => ?_)
 ·refine x_rg (rgn [hE,hE,hE,hE,hE] (⟨[oP 4 0,(5,pS []),(6,pB false),(7,pI 42)],[rH 0 3 (gA7 x1 1),(1,some (.p (some 13) (List.map zE2 x1.L) [(9,none),(11,none)]))],2⟩)) ?_
  refine x_toret (x_tr ?_)
  obtain rfl := sj h
  exact x_ret (.tup [(gA5 x1),.str [],.bool false,.int .i64 42]) [1] [(List.map zE2 x1.L).length = List.length (List.map zE2 x1.L)] (by kernel_rfl) (.cons rfl .nil) (by decide) (.tup (.cons (.agg (.cons (.refl _) (.cons (.refl _) (.cons (.dslU _ _ _) .nil)))) (.cons (.refl _) (.cons (.refl _) (.cons (.refl _) .nil))))) (fun h => nomatch h)
 refine x_kk (x_skip (x_tn ?_))
 obtain ⟨x4,hx4,h⟩ := bind_some h
 refine x_rg (rg0 [hE,hE,hE,hN .rAt,hE,hN (.ld (zE2 x4)),hE] (⟨[oP 4 0,oP 8 1,(9,pI x2),(10,pL none PV.str x4.Notes)],[rP 0 3 gA2,rH 1 3 (gA7 x1 2),(2,some (.p (some 13) (List.map zE2 x1.L) [(9,none),(11,none)]))],3⟩) (kc (rAtM (f := zE2) hx4) (kc (ownAt (f := zE2) hx4) .nil))) ?_
 refine x_seq ?_
 refine x_rg (rg0 [hE,hN (.len (List.length x4.Notes : Int)),hE] (⟨[oP 4 0,oP 8 1,(9,pI x2),(10,pL none PV.str x4.Notes),(27,pB (decide ((List.length x4.Notes : Int) = 0)))],[rP 0 3 gA2,rH 1 3 (gA7 x1 2),(2,some (.p (some 13) (List.map zE2 x1.L) [(9,none),(11,none)]))],3⟩) (kc (lenM PV.str x4.Notes) .nil)) ?_
 refine x_if h rfl (fun hc5 h => ?_) (fun hc5 h => ?_)
 ·refine x_rg (rgn [hE,hE,hE,hE,hE] (⟨[oP 4 0,(5,pS []),(6,pB false),(7,pI 0)],[rH 0 3 (gA7 x1 1),(1,some (.p (some 13) (List.map zE2 x1.L) [(9,none),(11,none)]))],2⟩)) ?_
  refine x_toret (x_tr ?_)
  obtain rfl := sj h
  exact x_ret (.tup [(gA5 x1),.str [],.bool false,.int .i64 0]) [1] [(List.map zE2 x1.L).length = List.length (List.map zE2 x1.L)] (by kernel_rfl) (.cons rfl .nil) (by decide) (.tup (.cons (.agg (.cons (.refl _) (.cons (.refl _) (.cons (.dslU _ _ _) .nil)))) (.cons (.refl _) (.cons (.refl _) (.cons (.refl _) .nil))))) (fun h => nomatch h)
 refine x_kk (x_skip (x_tn ?_))
 obtain ⟨x6,hx6,h⟩ := bind_some h
 obtain ⟨x7,hx7,h⟩ := bind_some h
 refine x_rg (st2 := { tm := [oP 4 0,oP 8 1,(10,.pv (.sl none (List.map PV.str x4.Notes)))],hp := [rP 0 3 gA2,rH 1 3 (.agg [.pv (.int .i64 x1.Next),.pv (.int .i64 x1.Group),.osl 2 0 (List.map zE2 (List.set x1.L (Int.toNat x2) (api_Proc.mk x7.Id x7.Parent x7.State x7.User x7.Name x7.Ns x7.Env x7.Fds x7.Cwd x6 x7.Status x7.Waits x7.Alone))).length]),(2,some (.p (some 13) (List.map zE2 (List.set x1.L (Int.toNat x2) (api_Proc.mk x7.Id x7.Parent x7.State x7.User x7.Name x7.Ns x7.Env x7.Fds x7.Cwd x6 x7.Status x7.Waits x7.Alone))) [(11,none)]))],nx := 3 }) (rg [hE,hE,hE,hE,hN (.cutP (List.map PV.str x6)),hN .rAt,hE,hN (.put (gA6 x7) (List.map zE2 (List.set x1.L (Int.toNat x2) (api_Proc.mk x7.Id x7.Parent x7.State x7.User x7.Name x7.Ns x7.Env x7.Fds x7.Cwd x6 x7.Status x7.Waits x7.Alone))))] ({ tm := [oP 4 0,oP 8 1,(10,.pv (.sl none (List.map PV.str x4.Notes)))],hp := [rP 0 3 gA2,rH 1 3 (gA11 x1),(2,some (.p (some 13) (List.map zE2 (List.set x1.L (Int.toNat x2) (api_Proc.mk x7.Id x7.Parent x7.State x7.User x7.Name x7.Ns x7.Env x7.Fds x7.Cwd x6 x7.Status x7.Waits x7.Alone))) [(11,none)]))],nx := 3 }) (kc (show cut (List.map PV.str x4.Notes) 1 (List.length (List.map PV.str x4.Notes) : Int) = some (List.map PV.str x6) from (cut_map_end hx6)) (kc (rAtM (f := zE2) hx7) (kc (ownAt (f := zE2) hx7) (kc (show List.set (List.map zE2 x1.L) (0 + Int.toNat x2) (.agg [.int .i64 x7.Id,.int .i64 x7.Parent,.int .i64 x7.State,.str x7.User,.str x7.Name,.int .i64 x7.Ns,.int .i64 x7.Env,.int .i64 x7.Fds,.str x7.Cwd,.sl none (List.map PV.str x6),.str x7.Status,.sl (some 2) (List.map zE1 x7.Waits),.bool x7.Alone]) = (List.map zE2 (List.set x1.L (Int.toNat x2) (api_Proc.mk x7.Id x7.Parent x7.State x7.User x7.Name x7.Ns x7.Env x7.Fds x7.Cwd x6 x7.Status x7.Waits x7.Alone))) from (by rw [Nat.zero_add,List.map_set]; try rfl)) .nil)))) (Sub.of_eq (by simp only [List.length_map,List.length_set,gA11]))) ?_
 obtain ⟨x8,hx8,h⟩ := bind_some h
 refine x_rg (rg0 [hE,hE,hN (.pAt (.str x8)),hE,hE,hE,hE,hE] (⟨[oP 4 0,(5,pS x8),(6,pB true),(7,pI 0)],[rH 0 3 (.agg [pI x1.Next,pI x1.Group,oL 1 zE2 (List.set x1.L (Int.toNat x2) (api_Proc.mk x7.Id x7.Parent x7.State x7.User x7.Name x7.Ns x7.Env x7.Fds x7.Cwd x6 x7.Status x7.Waits x7.Alone))]),(1,some (.p (some 13) (List.map zE2 (List.set x1.L (Int.toNat x2) (api_Proc.mk x7.Id x7.Parent x7.State x7.User x7.Name x7.Ns x7.Env x7.Fds x7.Cwd x6 x7.Status x7.Waits x7.Alone))) [(11,none)]))],2⟩) (kc (lsAt_map (f := PV.str) hx8) .nil)) ?_
 refine x_toret ?_
 obtain rfl := sj h
 exact x_ret (.tup [.agg [.int .i64 x1.Next,.int .i64 x1.Group,.dsl (some 13) (List.map zE2 (List.set x1.L (Int.toNat x2) (api_Proc.mk x7.Id x7.Parent x7.State x7.User x7.Name x7.Ns x7.Env x7.Fds x7.Cwd x6 x7.Status x7.Waits x7.Alone))) [11]],.str x8,.bool true,.int .i64 0]) [1] [(List.map zE2 (List.set x1.L (Int.toNat x2) (api_Proc.mk x7.Id x7.Parent x7.State x7.User x7.Name x7.Ns x7.Env x7.Fds x7.Cwd x6 x7.Status x7.Waits x7.Alone))).length = List.length (List.map zE2 (List.set x1.L (Int.toNat x2) (api_Proc.mk x7.Id x7.Parent x7.State x7.User x7.Name x7.Ns x7.Env x7.Fds x7.Cwd x6 x7.Status x7.Waits x7.Alone)))] (by kernel_rfl) (.cons rfl .nil) (by decide) (.tup (.cons (.agg (.cons (.refl _) (.cons (.refl _) (.cons (.dslU _ _ _) .nil)))) (.cons (.refl _) (.cons (.refl _) (.cons (.refl _) .nil))))) (fun h => nomatch h)
theorem c40 {p : api_Procs} {id : Int} {n : Int} {r : (api_Procs × Int)} (h : proc_Set p id n = some r) : CallOK Tryd.prog 40 [zE3 p,.int .i64 id,.int .i64 n] (.tup [(gA5 r.1),.int .i64 r.2]) false := by
 apply ok40
 unfold proc_Set at h
 refine x_rg (rgn [hE,hE,hE] (⟨[(1,pI id),(2,pI n),oP 3 0,oP 6 1],[rP 0 3 (zE3 p),rP 1 3 gA2],2⟩)) ?_
 obtain ⟨x1,hx1,h⟩ := bind_some h
 refine x_rg (rg0 [hE,hN (.cal [] (gA5 x1) false),hE,hE] (⟨[(1,pI id),(2,pI n),oP 6 0,oP 8 1],[rP 0 3 gA2,rH 1 3 (gA7 x1 2),(2,some (.p (some 13) (List.map zE2 x1.L) [(9,none),(11,none)]))],3⟩) (kc (c31 hx1) .nil)) ?_
 obtain ⟨x2,hx2,h⟩ := bind_some h
 refine x_rg (rg0 [hE,hE,hN (.call [] [(gA8 x1),.int .i64 id] (.int .i64 x2) true),hE] (⟨[(2,pI n),oP 6 0,oP 8 1,(9,pI x2)],[rP 0 3 gA2,rH 1 3 (gA7 x1 2),(2,some (.p (some 13) (List.map zE2 x1.L) [(9,none),(11,none)]))],3⟩) (kc (show LesA [(gA9 x1),.int .i64 id] [(gA8 x1),.int .i64 id] from (.cons (.agg (.cons (.refl _) (.cons (.refl _) (.cons (.of_eq (by rw [List.drop_zero,List.take_length])) .nil)))) (.cons (.refl _) .nil))) (kc (c25 hx2) (kc (le0 (List.map zE2 x1.L)) .nil)))) ?_
 refine x_seq (x_block ?_)
 refine x_rg (rgn [hE,hE,hE] (⟨[(2,pI n),oP 6 0,oP 8 1,(9,pI x2),(15,pB (decide (x2 < 0)))],[rP 0 3 gA2,rH 1 3 (gA7 x1 2),(2,some (.p (some 13) (List.map zE2 x1.L) [(9,none),(11,none)]))],3⟩)) ?_
 refine x_if h rfl (fun hc3 h => ?_) (fun hc3 h => ?_)
 ·refine x_rg (rgn [hE,hE,hE] (⟨[oP 6 0,(7,pI 42)],[rH 0 3 (gA7 x1 1),(1,some (.p (some 13) (List.map zE2 x1.L) [(9,none),(11,none)]))],2⟩)) ?_
  refine x_toret (x_br (x_tr ?_))
  obtain rfl := sj h
  exact x_ret (.tup [(gA5 x1),.int .i64 42]) [1] [(List.map zE2 x1.L).length = List.length (List.map zE2 x1.L)] (by kernel_rfl) (.cons rfl .nil) (by decide) (.tup (.cons (.refl _) (.cons (.refl _) .nil))) (fun h => nomatch h)
 obtain ⟨x4,hx4,h⟩ := bind_some h
 refine x_rg (rg0 [hE,hN (.cal [] (.bool x4) true),hE,hE] (⟨[(2,pI n),oP 6 0,oP 8 1,(9,pI x2),(19,pB (!x4))],[rP 0 3 gA2,rH 1 3 (gA7 x1 2),(2,some (.p (some 13) (List.map zE2 x1.L) [(9,none),(11,none)]))],3⟩) (kc (c53 hx4) .nil)) ?_
 refine x_if h rfl (fun hc5 h => ?_) (fun hc5 h => ?_)
 ·refine x_rg (rgn [hE,hE,hE] (⟨[oP 6 0,(7,pI 1)],[rH 0 3 (gA7 x1 1),(1,some (.p (some 13) (List.map zE2 x1.L) [(9,none),(11,none)]))],2⟩)) ?_
  refine x_toret (x_br (x_tr ?_))
  obtain rfl := sj h
  exact x_ret (.tup [(gA5 x1),.int .i64 1]) [1] [(List.map zE2 x1.L).length = List.length (List.map zE2 x1.L)] (by kernel_rfl) (.cons rfl .nil) (by decide) (.tup (.cons (.refl _) (.cons (.refl _) .nil))) (fun h => nomatch h)
 refine x_kk (x_skip (x_bn (x_tn ?_)))
 obtain ⟨x6,hx6,h⟩ := bind_some h
 refine x_rg (st2 := { tm := [oP 6 0,oP 8 1],hp := [rP 0 3 gA2,rH 1 3 (.agg [.pv (.int .i64 x1.Next),.pv (.int .i64 x1.Group),.osl 2 0 (List.map zE2 (List.set x1.L (Int.toNat x2) (api_Proc.mk x6.Id x6.Parent n x6.User x6.Name x6.Ns x6.Env x6.Fds x6.Cwd x6.Notes x6.Status x6.Waits x6.Alone))).length]),(2,some (.p (some 13) (List.map zE2 (List.set x1.L (Int.toNat x2) (api_Proc.mk x6.Id x6.Parent n x6.User x6.Name x6.Ns x6.Env x6.Fds x6.Cwd x6.Notes x6.Status x6.Waits x6.Alone))) [(9,none),(11,none)]))],nx := 3 }) (rg [hE,hE,hE,hE,hN .rAt,hE,hN (.put (gA6 x6) (List.map zE2 (List.set x1.L (Int.toNat x2) (api_Proc.mk x6.Id x6.Parent n x6.User x6.Name x6.Ns x6.Env x6.Fds x6.Cwd x6.Notes x6.Status x6.Waits x6.Alone))))] ({ tm := [oP 6 0,oP 8 1],hp := [rP 0 3 gA2,rH 1 3 (gA11 x1),(2,some (.p (some 13) (List.map zE2 (List.set x1.L (Int.toNat x2) (api_Proc.mk x6.Id x6.Parent n x6.User x6.Name x6.Ns x6.Env x6.Fds x6.Cwd x6.Notes x6.Status x6.Waits x6.Alone))) [(9,none),(11,none)]))],nx := 3 }) (kc (rAtM (f := zE2) hx6) (kc (ownAt (f := zE2) hx6) (kc (show List.set (List.map zE2 x1.L) (0 + Int.toNat x2) (.agg [.int .i64 x6.Id,.int .i64 x6.Parent,.int .i64 n,.str x6.User,.str x6.Name,.int .i64 x6.Ns,.int .i64 x6.Env,.int .i64 x6.Fds,.str x6.Cwd,.sl none (List.map PV.str x6.Notes),.str x6.Status,.sl (some 2) (List.map zE1 x6.Waits),.bool x6.Alone]) = (List.map zE2 (List.set x1.L (Int.toNat x2) (api_Proc.mk x6.Id x6.Parent n x6.User x6.Name x6.Ns x6.Env x6.Fds x6.Cwd x6.Notes x6.Status x6.Waits x6.Alone))) from (by rw [Nat.zero_add,List.map_set]; try rfl)) .nil))) (Sub.of_eq (by simp only [List.length_map,List.length_set,gA11]))) ?_
 refine x_rg (rgn [hE,hE,hE] (⟨[oP 6 0,(7,pI 0)],[rH 0 3 (.agg [pI x1.Next,pI x1.Group,oL 1 zE2 (List.set x1.L (Int.toNat x2) (api_Proc.mk x6.Id x6.Parent n x6.User x6.Name x6.Ns x6.Env x6.Fds x6.Cwd x6.Notes x6.Status x6.Waits x6.Alone))]),(1,some (.p (some 13) (List.map zE2 (List.set x1.L (Int.toNat x2) (api_Proc.mk x6.Id x6.Parent n x6.User x6.Name x6.Ns x6.Env x6.Fds x6.Cwd x6.Notes x6.Status x6.Waits x6.Alone))) [(9,none),(11,none)]))],2⟩)) ?_
 refine x_toret ?_
 obtain rfl := sj h
 exact x_ret (.tup [.agg [.int .i64 x1.Next,.int .i64 x1.Group,.dsl (some 13) (List.map zE2 (List.set x1.L (Int.toNat x2) (api_Proc.mk x6.Id x6.Parent n x6.User x6.Name x6.Ns x6.Env x6.Fds x6.Cwd x6.Notes x6.Status x6.Waits x6.Alone))) [9,11]],.int .i64 0]) [1] [(List.map zE2 (List.set x1.L (Int.toNat x2) (api_Proc.mk x6.Id x6.Parent n x6.User x6.Name x6.Ns x6.Env x6.Fds x6.Cwd x6.Notes x6.Status x6.Waits x6.Alone))).length = List.length (List.map zE2 (List.set x1.L (Int.toNat x2) (api_Proc.mk x6.Id x6.Parent n x6.User x6.Name x6.Ns x6.Env x6.Fds x6.Cwd x6.Notes x6.Status x6.Waits x6.Alone)))] (by kernel_rfl) (.cons rfl .nil) (by decide) (.tup (.cons (.refl _) (.cons (.refl _) .nil))) (fun h => nomatch h)
theorem c60 {dir : Str} {p : Str} {r : (Str × Int)} (h : path_Join dir p = some r) : CallOK Tryd.prog 60 [.str dir,.str p] (.tup [.str r.1,.int .i64 r.2]) true := by
 apply ok60
 unfold path_Join at h
 refine x_rg (rgn [hE,hE] (⟨[(0,pS dir),(1,pS p)],[],0⟩)) ?_
 refine x_seq ?_
 obtain ⟨x1,hx1,h⟩ := bind_some h
 refine x_rgB (fun b_ => (⟨[(0,pS dir),(1,pS p),(11,pB b_)],[],0⟩ : VSt)) (x1 || (decide (dir = []))) ?_ ?_
 ·rcases bq x1 with hg2 | hg2
  ·exact rb [hE,hN (.cal [] (.bool x1) true),hE,hS,hS,hN (.pk true)] true (kc (c68 hx1) (hk3 hg2 .nil)) (by simp only [hg2,bs,reduceIte])
  exact rb [hE,hN (.cal [] (.bool x1) true),hE,hY,hY,hN (.pk false)] (decide (dir = [])) (kc (c68 hx1) (hk3 hg2 .nil)) (by simp only [hg2,bs,reduceIte])
 refine x_if h rfl (fun hc4 h => ?_) (fun hc4 h => ?_)
 ·obtain ⟨x5,hx5,h⟩ := bind_some h
  refine x_rg (rg0 [hE,hN (.cal [] (.tup [.str x5.1,.int .i64 x5.2]) true),hE,hE,hE,hE] (⟨[(4,pS x5.1),(5,pI x5.2)],[],0⟩) (kc (c65 hx5) .nil)) ?_
  refine x_toret (x_tr ?_)
  obtain rfl := sj h
  exact ret0 (.tup [.str x5.1,.int .i64 x5.2]) (.tup (.cons (.refl _) (.cons (.refl _) .nil))) (fun _ => rfl)
 refine x_kk (x_skip (x_tn ?_))
 obtain ⟨x6,hx6,h⟩ := bind_some h
 obtain ⟨x7,hx7,h⟩ := bind_some h
 obtain ⟨x8,hx8,h⟩ := bind_some h
 refine x_rg (rg0 [hE,hN (.cat x6),hE,hN (.cat x7),hN (.cal [] (.tup [.str x8.1,.int .i64 x8.2]) true),hE,hE,hE,hE] (⟨[(4,pS x8.1),(5,pI x8.2)],[],0⟩) (kc hx6 (kc hx7 (kc (c65 hx8) .nil)))) ?_
 refine x_toret ?_
 obtain rfl := sj h
 exact ret0 (.tup [.str x8.1,.int .i64 x8.2]) (.tup (.cons (.refl _) (.cons (.refl _) .nil))) (fun _ => rfl)
theorem c41 {p : api_Procs} {id : Int} {dir : Str} {r : (api_Procs × Int)} (h : proc_Cd p id dir = some r) : CallOK Tryd.prog 41 [zE3 p,.int .i64 id,.str dir] (.tup [(gA5 r.1),.int .i64 r.2]) false := by
 apply ok41
 unfold proc_Cd at h
 refine x_rg (rgn [hE,hE,hE] (⟨[(1,pI id),(2,pS dir),oP 3 0,oP 6 1],[rP 0 3 (zE3 p),rP 1 3 gA2],2⟩)) ?_
 obtain ⟨x1,hx1,h⟩ := bind_some h
 refine x_rg (rg0 [hE,hN (.cal [] (gA5 x1) false),hE,hE] (⟨[(1,pI id),(2,pS dir),oP 6 0,oP 8 1],[rP 0 3 gA2,rH 1 3 (gA7 x1 2),(2,some (.p (some 13) (List.map zE2 x1.L) [(9,none),(11,none)]))],3⟩) (kc (c31 hx1) .nil)) ?_
 obtain ⟨x2,hx2,h⟩ := bind_some h
 refine x_rg (rg0 [hE,hE,hN (.call [] [(gA8 x1),.int .i64 id] (.int .i64 x2) true),hE] (⟨[(2,pS dir),oP 6 0,oP 8 1,(9,pI x2)],[rP 0 3 gA2,rH 1 3 (gA7 x1 2),(2,some (.p (some 13) (List.map zE2 x1.L) [(9,none),(11,none)]))],3⟩) (kc (show LesA [(gA9 x1),.int .i64 id] [(gA8 x1),.int .i64 id] from (.cons (.agg (.cons (.refl _) (.cons (.refl _) (.cons (.of_eq (by rw [List.drop_zero,List.take_length])) .nil)))) (.cons (.refl _) .nil))) (kc (c25 hx2) (kc (le0 (List.map zE2 x1.L)) .nil)))) ?_
 refine x_seq ?_
 refine x_rg (rgn [hE,hE] (⟨[(2,pS dir),oP 6 0,oP 8 1,(9,pI x2),(18,pB (decide (x2 < 0)))],[rP 0 3 gA2,rH 1 3 (gA7 x1 2),(2,some (.p (some 13) (List.map zE2 x1.L) [(9,none),(11,none)]))],3⟩)) ?_
 refine x_if h rfl (fun hc3 h => ?_) (fun hc3 h => ?_)
 ·refine x_rg (rgn [hE,hE,hE] (⟨[oP 6 0,(7,pI 42)],[rH 0 3 (gA7 x1 1),(1,some (.p (some 13) (List.map zE2 x1.L) [(9,none),(11,none)]))],2⟩)) ?_
  refine x_toret (x_tr ?_)
  obtain rfl := sj h
  exact x_ret (.tup [(gA5 x1),.int .i64 42]) [1] [(List.map zE2 x1.L).length = List.length (List.map zE2 x1.L)] (by kernel_rfl) (.cons rfl .nil) (by decide) (.tup (.cons (.refl _) (.cons (.refl _) .nil))) (fun h => nomatch h)
 refine x_kk (x_skip (x_tn ?_))
 obtain ⟨x4,hx4,h⟩ := bind_some h
 obtain ⟨x5,hx5,h⟩ := bind_some h
 refine x_rg (rg0 [hE,hE,hE,hN .rAt,hE,hN (.ld (zE2 x4)),hE,hN (.cal [] (.tup [.str x5.1,.int .i64 x5.2]) true),hE,hE,hE,hE,hE] (⟨[oP 6 0,oP 8 1,(9,pI x2),(10,pS x5.1),(11,pI x5.2)],[rP 0 3 gA2,rH 1 3 (gA7 x1 2),(2,some (.p (some 13) (List.map zE2 x1.L) [(9,none),(11,none)]))],3⟩) (kc (rAtM (f := zE2) hx4) (kc (ownAt (f := zE2) hx4) (kc (c60 hx5) .nil)))) ?_
 refine x_seq ?_
 refine x_rg (rgn [hE,hE] (⟨[oP 6 0,oP 8 1,(9,pI x2),(10,pS x5.1),(11,pI x5.2),(32,pB (!decide (x5.2 = 0)))],[rP 0 3 gA2,rH 1 3 (gA7 x1 2),(2,some (.p (some 13) (List.map zE2 x1.L) [(9,none),(11,none)]))],3⟩)) ?_
 refine x_if h rfl (fun hc6 h => ?_) (fun hc6 h => ?_)
 ·refine x_rg (rgn [hE,hE,hE,hE] (⟨[oP 6 0,(7,pI x5.2)],[rH 0 3 (gA7 x1 1),(1,some (.p (some 13) (List.map zE2 x1.L) [(9,none),(11,none)]))],2⟩)) ?_
  refine x_toret (x_tr ?_)
  obtain rfl := sj h
  exact x_ret (.tup [(gA5 x1),.int .i64 x5.2]) [1] [(List.map zE2 x1.L).length = List.length (List.map zE2 x1.L)] (by kernel_rfl) (.cons rfl .nil) (by decide) (.tup (.cons (.refl _) (.cons (.refl _) .nil))) (fun h => nomatch h)
 refine x_kk (x_skip (x_tn ?_))
 obtain ⟨x7,hx7,h⟩ := bind_some h
 refine x_rg (st2 := { tm := [oP 6 0,oP 8 1],hp := [rP 0 3 gA2,rH 1 3 (.agg [.pv (.int .i64 x1.Next),.pv (.int .i64 x1.Group),.osl 2 0 (List.map zE2 (List.set x1.L (Int.toNat x2) (api_Proc.mk x7.Id x7.Parent x7.State x7.User x7.Name x7.Ns x7.Env x7.Fds x5.1 x7.Notes x7.Status x7.Waits x7.Alone))).length]),(2,some (.p (some 13) (List.map zE2 (List.set x1.L (Int.toNat x2) (api_Proc.mk x7.Id x7.Parent x7.State x7.User x7.Name x7.Ns x7.Env x7.Fds x5.1 x7.Notes x7.Status x7.Waits x7.Alone))) [(9,none),(11,none)]))],nx := 3 }) (rg [hE,hE,hE,hE,hN .rAt,hE,hN (.put (gA6 x7) (List.map zE2 (List.set x1.L (Int.toNat x2) (api_Proc.mk x7.Id x7.Parent x7.State x7.User x7.Name x7.Ns x7.Env x7.Fds x5.1 x7.Notes x7.Status x7.Waits x7.Alone))))] ({ tm := [oP 6 0,oP 8 1],hp := [rP 0 3 gA2,rH 1 3 (gA11 x1),(2,some (.p (some 13) (List.map zE2 (List.set x1.L (Int.toNat x2) (api_Proc.mk x7.Id x7.Parent x7.State x7.User x7.Name x7.Ns x7.Env x7.Fds x5.1 x7.Notes x7.Status x7.Waits x7.Alone))) [(9,none),(11,none)]))],nx := 3 }) (kc (rAtM (f := zE2) hx7) (kc (ownAt (f := zE2) hx7) (kc (show List.set (List.map zE2 x1.L) (0 + Int.toNat x2) (.agg [.int .i64 x7.Id,.int .i64 x7.Parent,.int .i64 x7.State,.str x7.User,.str x7.Name,.int .i64 x7.Ns,.int .i64 x7.Env,.int .i64 x7.Fds,.str x5.1,.sl none (List.map PV.str x7.Notes),.str x7.Status,.sl (some 2) (List.map zE1 x7.Waits),.bool x7.Alone]) = (List.map zE2 (List.set x1.L (Int.toNat x2) (api_Proc.mk x7.Id x7.Parent x7.State x7.User x7.Name x7.Ns x7.Env x7.Fds x5.1 x7.Notes x7.Status x7.Waits x7.Alone))) from (by rw [Nat.zero_add,List.map_set]; try rfl)) .nil))) (Sub.of_eq (by simp only [List.length_map,List.length_set,gA11]))) ?_
 refine x_rg (rgn [hE,hE,hE] (⟨[oP 6 0,(7,pI 0)],[rH 0 3 (.agg [pI x1.Next,pI x1.Group,oL 1 zE2 (List.set x1.L (Int.toNat x2) (api_Proc.mk x7.Id x7.Parent x7.State x7.User x7.Name x7.Ns x7.Env x7.Fds x5.1 x7.Notes x7.Status x7.Waits x7.Alone))]),(1,some (.p (some 13) (List.map zE2 (List.set x1.L (Int.toNat x2) (api_Proc.mk x7.Id x7.Parent x7.State x7.User x7.Name x7.Ns x7.Env x7.Fds x5.1 x7.Notes x7.Status x7.Waits x7.Alone))) [(9,none),(11,none)]))],2⟩)) ?_
 refine x_toret ?_
 obtain rfl := sj h
 exact x_ret (.tup [.agg [.int .i64 x1.Next,.int .i64 x1.Group,.dsl (some 13) (List.map zE2 (List.set x1.L (Int.toNat x2) (api_Proc.mk x7.Id x7.Parent x7.State x7.User x7.Name x7.Ns x7.Env x7.Fds x5.1 x7.Notes x7.Status x7.Waits x7.Alone))) [9,11]],.int .i64 0]) [1] [(List.map zE2 (List.set x1.L (Int.toNat x2) (api_Proc.mk x7.Id x7.Parent x7.State x7.User x7.Name x7.Ns x7.Env x7.Fds x5.1 x7.Notes x7.Status x7.Waits x7.Alone))).length = List.length (List.map zE2 (List.set x1.L (Int.toNat x2) (api_Proc.mk x7.Id x7.Parent x7.State x7.User x7.Name x7.Ns x7.Env x7.Fds x5.1 x7.Notes x7.Status x7.Waits x7.Alone)))] (by kernel_rfl) (.cons rfl .nil) (by decide) (.tup (.cons (.refl _) (.cons (.refl _) .nil))) (fun h => nomatch h)
theorem c21 {p : api_Procs} {o : law30_Op} {r : (api_Procs × law30_result)} (h : law30_did p o = some r) : CallOK Tryd.prog 21 [zE3 p,zE4 o] (.tup [(gA1 r.1),zE5 r.2]) false := by
 apply ok21
 unfold law30_did at h
 refine x_rg (rgn [hE,hE,hE,hE] (⟨[oP 2 0,oP 3 1,oP 4 2,oP 5 3],[rP 0 3 (zE3 p),rP 1 4 (zE4 o),rP 2 3 gA2,rP 3 7 gA16],4⟩)) ?_
 refine x_rg (rgn [hE,hE,hE] (⟨[oP 2 0,oP 3 1,oP 4 2,oP 5 3,oP 6 4],[rP 0 3 (zE3 p),rP 1 4 (zE4 o),rP 2 3 gA2,rP 3 7 gA16,rP 4 7 gA16],5⟩)) ?_
 refine x_join (τ := (Int × Int × (List api_Proc) × law30_result)) (fun t => law30_did_K1 t.1 t.2.1 t.2.2.1 t.2.2.2 = some r) (fun t => { tm := [oP 2 0,oP 4 2,oP 5 3,oP 6 4],hp := [rH 0 3 (.agg [.pv (.int .i64 t.1),.pv (.int .i64 t.2.1),.osl 1 0 (List.map zE2 t.2.2.1).length]),(1,some (.p (some 13) (List.map zE2 t.2.2.1))),rP 2 3 gA2,rP 3 7 gA16,rP 4 7 (zE5 t.2.2.2)],nx := 5 }) ?_ ?_
 ·rintro ⟨p2,p3,p4,p5⟩ h
  replace h : law30_did_K1 p2 p3 p4 p5 = some r := h
  unfold law30_did_K1 at h
  refine x_rg (rgn [hE,hE,hE,hE] (⟨[oP 4 0,oP 5 2],[rH 0 3 (.agg [pI p2,pI p3,oL 1 zE2 p4]),(1,rL (some 13) zE2 p4),rP 2 7 (zE5 p5)],3⟩)) ?_
  refine x_toret ?_
  obtain rfl := sj h
  exact x_ret (.tup [.agg [.int .i64 p2,.int .i64 p3,.usl (some 13) (List.take (List.map zE2 p4).length (List.map zE2 p4))],zE5 p5]) [1] [(List.map zE2 p4).length ≤ List.length (List.map zE2 p4)] (by kernel_rfl) (.cons (Nat.le_refl _) .nil) (by decide) (.tup (.cons (.agg (.cons (.refl _) (.cons (.refl _) (.cons (.of_eq (by rw [List.take_length])) .nil)))) (.cons (.refl _) .nil))) (fun h => nomatch h)
 refine x_rg (rgn [hE,hE] (⟨[oP 2 0,oP 3 1,oP 4 2,oP 5 3,oP 6 4,(9,pI o.Kind)],[rP 0 3 (zE3 p),rP 1 4 (zE4 o),rP 2 3 gA2,rP 3 7 gA16,rP 4 7 gA16],5⟩)) ?_
 refine x_block ?_
 refine x_rg (rgn [hE,hE] (⟨[oP 2 0,oP 3 1,oP 4 2,oP 5 3,oP 6 4,(9,pI o.Kind),(20,pB (decide (o.Kind = 1)))],[rP 0 3 (zE3 p),rP 1 4 (zE4 o),rP 2 3 gA2,rP 3 7 gA16,rP 4 7 gA16],5⟩)) ?_
 refine x_if h rfl (fun hc6 h => ?_) (fun hc6 h => ?_)
 ·obtain ⟨x7,hx7,h⟩ := bind_some h
  refine x_rgt (rg0 [hE,hE,hE,hE,hE,hN (.cal [] (.tup [(gA1 x7.1),.int .i64 x7.2.1,.int .i64 x7.2.2]) false),hE,hE,hE,hE,hE,hE,hE,hE,hE] (⟨[oP 2 0,oP 4 2,oP 5 3,oP 6 4],[rH 0 3 (gA7 x7.1 1),(1,rL (some 13) zE2 x7.1.L),rP 2 3 gA2,rP 3 7 gA16,rP 4 7 (.agg [.int .i64 x7.2.1,.int .i64 0,.str [],.str [],.bool false,.int .i64 x7.2.2,.bool false])],5⟩) (kc (c20 hx7) .nil)) ?_
  refine x_bn (x_tn ?_)
  exact ⟨(x7.1.Next,x7.1.Group,x7.1.L,(law30_result.mk x7.2.1 (api_Wait.mk 0 []) [] false x7.2.2 false)),h,by kernel_rfl⟩
 refine x_rg (rgn [hE,hE] (⟨[oP 2 0,oP 3 1,oP 4 2,oP 5 3,oP 6 4,(9,pI o.Kind),(34,pB (decide (o.Kind = 2)))],[rP 0 3 (zE3 p),rP 1 4 (zE4 o),rP 2 3 gA2,rP 3 7 gA16,rP 4 7 gA16],5⟩)) ?_
 refine x_if h rfl (fun hc8 h => ?_) (fun hc8 h => ?_)
 ·obtain ⟨x9,hx9,h⟩ := bind_some h
  refine x_rgt (rg0 [hE,hE,hE,hE,hE,hN (.cal [] (.tup [(gA1 x9.1),.int .i64 x9.2]) false),hE,hE,hE,hE,hE,hE] (⟨[oP 2 0,oP 4 2,oP 5 3,oP 6 4],[rH 0 3 (gA7 x9.1 1),(1,rL (some 13) zE2 x9.1.L),rP 2 3 gA2,rP 3 7 gA16,rP 4 7 (.agg [.int .i64 0,.int .i64 0,.str [],.str [],.bool false,.int .i64 x9.2,.bool false])],5⟩) (kc (c18 hx9) .nil)) ?_
  refine x_bn (x_tn ?_)
  exact ⟨(x9.1.Next,x9.1.Group,x9.1.L,(law30_result.mk 0 (api_Wait.mk 0 []) [] false x9.2 false)),h,by kernel_rfl⟩
 refine x_rg (rgn [hE,hE] (⟨[oP 2 0,oP 3 1,oP 4 2,oP 5 3,oP 6 4,(9,pI o.Kind),(46,pB (decide (o.Kind = 3)))],[rP 0 3 (zE3 p),rP 1 4 (zE4 o),rP 2 3 gA2,rP 3 7 gA16,rP 4 7 gA16],5⟩)) ?_
 refine x_if h rfl (fun hc10 h => ?_) (fun hc10 h => ?_)
 ·obtain ⟨x11,hx11,h⟩ := bind_some h
  refine x_rgt (rg0 [hE,hE,hE,hN (.cal [] (.tup [(gA1 x11.1),zE1 x11.2.1,.bool x11.2.2.1,.int .i64 x11.2.2.2]) false),hE,hE,hE,hE,hE,hE,hE,hE,hE,hE,hE,hE] (⟨[oP 2 0,oP 4 2,oP 5 3,oP 6 4],[rH 0 3 (gA7 x11.1 1),(1,rL (some 13) zE2 x11.1.L),rP 2 3 gA2,rP 3 7 gA16,rP 4 7 (.agg [.int .i64 0,.int .i64 x11.2.1.Id,.str x11.2.1.Status,.str [],.bool x11.2.2.1,.int .i64 x11.2.2.2,.bool false])],5⟩) (kc (c19 hx11) .nil)) ?_
  refine x_bn (x_tn ?_)
  exact ⟨(x11.1.Next,x11.1.Group,x11.1.L,(law30_result.mk 0 x11.2.1 [] x11.2.2.1 x11.2.2.2 false)),h,by kernel_rfl⟩
 refine x_rg (rgn [hE,hE] (⟨[oP 2 0,oP 3 1,oP 4 2,oP 5 3,oP 6 4,(9,pI o.Kind),(60,pB (decide (o.Kind = 4)))],[rP 0 3 (zE3 p),rP 1 4 (zE4 o),rP 2 3 gA2,rP 3 7 gA16,rP 4 7 gA16],5⟩)) ?_
 refine x_if h rfl (fun hc12 h => ?_) (fun hc12 h => ?_)
 ·obtain ⟨x13,hx13,h⟩ := bind_some h
  refine x_rgt (rg0 [hE,hE,hE,hE,hE,hN (.cal [] (.tup [(gA1 x13.1),.int .i64 x13.2]) false),hE,hE,hE,hE,hE,hE] (⟨[oP 2 0,oP 4 2,oP 5 3,oP 6 4],[rH 0 3 (gA7 x13.1 1),(1,rL (some 13) zE2 x13.1.L),rP 2 3 gA2,rP 3 7 gA16,rP 4 7 (.agg [.int .i64 0,.int .i64 0,.str [],.str [],.bool false,.int .i64 x13.2,.bool false])],5⟩) (kc (c38 hx13) .nil)) ?_
  refine x_bn (x_tn ?_)
  exact ⟨(x13.1.Next,x13.1.Group,x13.1.L,(law30_result.mk 0 (api_Wait.mk 0 []) [] false x13.2 false)),h,by kernel_rfl⟩
 refine x_rg (rgn [hE,hE] (⟨[oP 2 0,oP 3 1,oP 4 2,oP 5 3,oP 6 4,(9,pI o.Kind),(72,pB (decide (o.Kind = 5)))],[rP 0 3 (zE3 p),rP 1 4 (zE4 o),rP 2 3 gA2,rP 3 7 gA16,rP 4 7 gA16],5⟩)) ?_
 refine x_if h rfl (fun hc14 h => ?_) (fun hc14 h => ?_)
 ·obtain ⟨x15,hx15,h⟩ := bind_some h
  refine x_rgt (rg0 [hE,hE,hE,hN (.cal [] (.tup [(gA1 x15.1),.str x15.2.1,.bool x15.2.2.1,.int .i64 x15.2.2.2]) false),hE,hE,hE,hE,hE,hE,hE,hE,hE,hE,hE,hE] (⟨[oP 2 0,oP 4 2,oP 5 3,oP 6 4],[rH 0 3 (gA7 x15.1 1),(1,rL (some 13) zE2 x15.1.L),rP 2 3 gA2,rP 3 7 gA16,rP 4 7 (.agg [.int .i64 0,.int .i64 0,.str [],.str x15.2.1,.bool x15.2.2.1,.int .i64 x15.2.2.2,.bool false])],5⟩) (kc (c39 hx15) .nil)) ?_
  refine x_bn (x_tn ?_)
  exact ⟨(x15.1.Next,x15.1.Group,x15.1.L,(law30_result.mk 0 (api_Wait.mk 0 []) x15.2.1 x15.2.2.1 x15.2.2.2 false)),h,by kernel_rfl⟩
 refine x_rg (rgn [hE,hE] (⟨[oP 2 0,oP 3 1,oP 4 2,oP 5 3,oP 6 4,(86,pB (decide (o.Kind = 6)))],[rP 0 3 (zE3 p),rP 1 4 (zE4 o),rP 2 3 gA2,rP 3 7 gA16,rP 4 7 gA16],5⟩)) ?_
 refine x_if h rfl (fun hc16 h => ?_) (fun hc16 h => ?_)
 ·obtain ⟨x17,hx17,h⟩ := bind_some h
  refine x_rgt (st2 := { tm := [oP 2 0,oP 4 2,oP 5 3,oP 6 4],hp := [rH 0 3 (gA17 x17.1),(1,some (.p (some 13) (List.map zE2 x17.1.L))),rP 2 3 gA2,rP 3 7 gA16,rP 4 7 (.agg [.int .i64 0,.int .i64 0,.str [],.str [],.bool false,.int .i64 x17.2,.bool false])],nx := 5 }) (rg [hE,hE,hE,hE,hE,hN (.cal [] (.tup [(gA5 x17.1),.int .i64 x17.2]) false),hE,hE,hE,hE,hE,hE] ({ tm := [oP 2 0,oP 4 2,oP 5 3,oP 6 4],hp := [rH 0 3 (gA17 x17.1),(1,some (.p (some 13) (List.map zE2 x17.1.L) [(9,none),(11,none)])),rP 2 3 gA2,rP 3 7 gA16,rP 4 7 (.agg [.int .i64 0,.int .i64 0,.str [],.str [],.bool false,.int .i64 x17.2,.bool false])],nx := 5 }) (kc (c40 hx17) .nil) ((Sub.keep (ks := [2,4,5,6]) (st := ⟨[oP 2 0,oP 4 2,oP 5 3,oP 6 4],(1,some (.p (some 13) (List.map zE2 x17.1.L))) :: [rH 0 3 (gA17 x17.1),(1,some (.p (some 13) (List.map zE2 x17.1.L) [(9,none),(11,none)])),rP 2 3 gA2,rP 3 7 gA16,rP 4 7 (.agg [.int .i64 0,.int .i64 0,.str [],.str [],.bool false,.int .i64 x17.2,.bool false])],5⟩) (st' := { tm := [oP 2 0,oP 4 2,oP 5 3,oP 6 4],hp := [rH 0 3 (gA17 x17.1),(1,some (.p (some 13) (List.map zE2 x17.1.L))),rP 2 3 gA2,rP 3 7 gA16,rP 4 7 (.agg [.int .i64 0,.int .i64 0,.str [],.str [],.bool false,.int .i64 x17.2,.bool false])],nx := 5 }) (by kernel_rfl)).trans (Sub.dropTk (st := { tm := [oP 2 0,oP 4 2,oP 5 3,oP 6 4],hp := [rH 0 3 (gA17 x17.1),(1,some (.p (some 13) (List.map zE2 x17.1.L) [(9,none),(11,none)])),rP 2 3 gA2,rP 3 7 gA16,rP 4 7 (.agg [.int .i64 0,.int .i64 0,.str [],.str [],.bool false,.int .i64 x17.2,.bool false])],nx := 5 }) 1 (tk := [(9,none),(11,none)]) (tk' := []) rfl (by simp)))) ?_
  refine x_bn (x_tn ?_)
  exact ⟨(x17.1.Next,x17.1.Group,x17.1.L,(law30_result.mk 0 (api_Wait.mk 0 []) [] false x17.2 false)),h,by kernel_rfl⟩
 obtain ⟨x18,hx18,h⟩ := bind_some h
 refine x_rgt (st2 := { tm := [oP 2 0,oP 4 2,oP 5 3,oP 6 4],hp := [rH 0 3 (gA17 x18.1),(1,some (.p (some 13) (List.map zE2 x18.1.L))),rP 2 3 gA2,rP 3 7 gA16,rP 4 7 (.agg [.int .i64 0,.int .i64 0,.str [],.str [],.bool false,.int .i64 x18.2,.bool false])],nx := 5 }) (rg [hE,hE,hE,hE,hE,hN (.cal [] (.tup [(gA5 x18.1),.int .i64 x18.2]) false),hE,hE,hE,hE,hE,hE] ({ tm := [oP 2 0,oP 4 2,oP 5 3,oP 6 4],hp := [rH 0 3 (gA17 x18.1),(1,some (.p (some 13) (List.map zE2 x18.1.L) [(9,none),(11,none)])),rP 2 3 gA2,rP 3 7 gA16,rP 4 7 (.agg [.int .i64 0,.int .i64 0,.str [],.str [],.bool false,.int .i64 x18.2,.bool false])],nx := 5 }) (kc (c41 hx18) .nil) ((Sub.keep (ks := [2,4,5,6]) (st := ⟨[oP 2 0,oP 4 2,oP 5 3,oP 6 4],(1,some (.p (some 13) (List.map zE2 x18.1.L))) :: [rH 0 3 (gA17 x18.1),(1,some (.p (some 13) (List.map zE2 x18.1.L) [(9,none),(11,none)])),rP 2 3 gA2,rP 3 7 gA16,rP 4 7 (.agg [.int .i64 0,.int .i64 0,.str [],.str [],.bool false,.int .i64 x18.2,.bool false])],5⟩) (st' := { tm := [oP 2 0,oP 4 2,oP 5 3,oP 6 4],hp := [rH 0 3 (gA17 x18.1),(1,some (.p (some 13) (List.map zE2 x18.1.L))),rP 2 3 gA2,rP 3 7 gA16,rP 4 7 (.agg [.int .i64 0,.int .i64 0,.str [],.str [],.bool false,.int .i64 x18.2,.bool false])],nx := 5 }) (by kernel_rfl)).trans (Sub.dropTk (st := { tm := [oP 2 0,oP 4 2,oP 5 3,oP 6 4],hp := [rH 0 3 (gA17 x18.1),(1,some (.p (some 13) (List.map zE2 x18.1.L) [(9,none),(11,none)])),rP 2 3 gA2,rP 3 7 gA16,rP 4 7 (.agg [.int .i64 0,.int .i64 0,.str [],.str [],.bool false,.int .i64 x18.2,.bool false])],nx := 5 }) 1 (tk := [(9,none),(11,none)]) (tk' := []) rfl (by simp)))) ?_
 refine x_bn (x_tn ?_)
 exact ⟨(x18.1.Next,x18.1.Group,x18.1.L,(law30_result.mk 0 (api_Wait.mk 0 []) [] false x18.2 false)),h,by kernel_rfl⟩
theorem c61 {flags : Int} {f : Int} {r : Bool} (h : ref30_flag flags f = some r) : CallOK Tryd.prog 61 [.int .i64 flags,.int .i64 f] (.bool r) true := by
 apply ok61
 unfold ref30_flag at h
 refine x_rg (rgn [hE] (⟨[(0,pI flags),(1,pI f)],[],0⟩)) ?_
 obtain ⟨x1,hx1,h⟩ := bind_some h
 refine x_rg (rg0 [hE,hE,hN (.dv x1),hE,hE,hE] (⟨[(4,pB (decide ((Int.tmod x1 2) = 1)))],[],0⟩) (kc hx1 .nil)) ?_
 refine x_toret ?_
 obtain rfl := sj h
 exact ret0 (.bool (decide ((Int.tmod x1 2) = 1))) (.refl _) (fun _ => rfl)
theorem c62 {own : Int} {next : Int} {flags : Int} {a : Int} {b : Int} {r : (Int × Int)} (h : ref30_choose own next flags a b = some r) : CallOK Tryd.prog 62 [.int .i64 own,.int .i64 next,.int .i64 flags,.int .i64 a,.int .i64 b] (.tup [.int .i64 r.1,.int .i64 r.2]) true := by
 apply ok62
 unfold ref30_choose at h
 refine x_rg (rgn [hE,hE] (⟨[(0,pI own),(1,pI next),(2,pI flags),(3,pI a),(4,pI b)],[],0⟩)) ?_
 refine x_seq ?_
 obtain ⟨x1,hx1,h⟩ := bind_some h
 obtain ⟨t4,ht,h⟩ := bind_some h
 refine x_rgB (fun b_ => (⟨[(0,pI own),(1,pI next),(19,pB b_)],[],0⟩ : VSt)) t4 ?_ ?_
 ·rcases bq x1 with hg2 | hg2
  ·replace ht := ite_t ht hg2
   obtain rfl := sj ht
   exact rb [hE,hE,hN (.cal [] (.bool x1) true),hE,hS,hS,hS,hN (.pk true)] true (kc (c61 hx1) (hk4 hg2 .nil)) rfl
  replace ht := ite_f ht hg2
  obtain ⟨x3,hx3,ht⟩ := bind_some ht
  obtain rfl := sj ht
  exact rb [hE,hE,hN (.cal [] (.bool x1) true),hE,hY,hY,(.y,(.cal [] (.bool x3) true)),hN (.pk false)] x3 (kc (c61 hx1) (hk3 hg2 (kc (c61 hx3) (kc hg2 .nil)))) rfl
 clear ht
 refine x_if h rfl (fun hc5 h => ?_) (fun hc5 h => ?_)
 ·refine x_rg (rgn [hE,hE,hE,hE,hE] (⟨[(10,pI next),(11,pI (IntKind.wrap .i64 (next + 1)))],[],0⟩)) ?_
  refine x_toret (x_tr ?_)
  obtain rfl := sj h
  exact ret0 (.tup [.int .i64 next,.int .i64 (IntKind.wrap .i64 (next + 1))]) (.tup (.cons (.refl _) (.cons (.refl _) .nil))) (fun _ => rfl)
 refine x_kk (x_skip (x_tn ?_))
 refine x_rg (rgn [hE,hE,hE,hE] (⟨[(10,pI own),(11,pI next)],[],0⟩)) ?_
 refine x_toret ?_
 obtain rfl := sj h
 exact ret0 (.tup [.int .i64 own,.int .i64 next]) (.tup (.cons (.refl _) (.cons (.refl _) .nil))) (fun _ => rfl)
theorem c42 {p : api_Procs} {id : Int} {flags : Int} {r : (api_Procs × Int × Int)} (h : ref30_Fork p id flags = some r) : CallOK Tryd.prog 42 [zE3 p,.int .i64 id,.int .i64 flags] (.tup [zE3 r.1,.int .i64 r.2.1,.int .i64 r.2.2]) false := by
 apply ok42
 unfold ref30_Fork at h
 refine x_rg (rgn [hE,hE,hE,hE] (⟨[(1,pI id),(2,pI flags),oP 3 0,oP 6 1],[rP 0 3 (zE3 p),rP 1 3 gA2],2⟩)) ?_
 obtain ⟨x1,hx1,h⟩ := bind_some h
 refine x_rg (rg0 [hE,hE,hN (.cal [] (.tup [zE2 x1.1,.bool x1.2]) false),hE,hE,hE,hE,hE,hE] (⟨[(1,pI id),(2,pI flags),oP 3 0,oP 6 1,oP 9 2,(10,pB x1.2)],[rP 0 3 (zE3 p),rP 1 3 gA2,rP 2 13 (zE2 x1.1)],3⟩) (kc (c14 hx1) .nil)) ?_
 refine x_seq ?_
 refine x_rg (rgn [hE,hE] (⟨[(1,pI id),(2,pI flags),oP 3 0,oP 6 1,oP 9 2,(21,pB (!x1.2))],[rP 0 3 (zE3 p),rP 1 3 gA2,rP 2 13 (zE2 x1.1)],3⟩)) ?_
 refine x_if h rfl (fun hc2 h => ?_) (fun hc2 h => ?_)
 ·refine x_rg (rgn [hE,hE,hE,hE] (⟨[oP 6 0,(7,pI 0),(8,pI 42)],[rP 0 3 (zE3 p)],1⟩)) ?_
  refine x_toret (x_tr ?_)
  obtain rfl := sj h
  exact ret0 (.tup [zE3 p,.int .i64 0,.int .i64 42]) (.tup (.cons (.refl _) (.cons (.refl _) (.cons (.refl _) .nil)))) (fun h => nomatch h)
 refine x_kk (x_skip (x_tn (x_seq ?_)))
 obtain ⟨t29,ht,h⟩ := bind_some h
 refine x_rgB (fun b_ => (⟨[(1,pI id),(2,pI flags),oP 3 0,oP 6 1,oP 9 2,(52,pB b_)],[rP 0 3 (zE3 p),rP 1 3 gA2,rP 2 13 (zE2 x1.1)],3⟩ : VSt)) t29 ?_ ?_
 ·rcases bq (decide (flags < 0)) with hg3 | hg3
  ·replace ht := ite_t ht hg3
   obtain rfl := sj ht
   exact rb [hE,hE,hE,hS,hS,hN (.pk true),hE,hS,hS,hS,(.u,.e),(.u,.e),hS,hE,hE,hS,hS,hS,(.u,.e),(.u,.e),hS,hE,hE,hS,hS,hS,(.u,.e),(.u,.e),hS,hE] true (hk3 hg3 (hk4 tt (hk8 tt .nil))) rfl
  replace ht := ite_f ht hg3
  rcases bq (decide (127 < flags)) with hg4 | hg4
  ·replace ht := ite_t ht hg4
   obtain rfl := sj ht
   exact rb [hE,hE,hE,hY,hY,hN (.pk false),hE,hS,hS,hS,(.u,.e),(.u,.e),hS,hN (.pk true),hE,hS,hS,hS,(.u,.e),(.u,.e),hS,hE,hE,hS,hS,hS,(.u,.e),(.u,.e),hS,hE] true (hk3 hg3 (hk5 hg4 (hk8 tt .nil))) rfl
  replace ht := ite_f ht hg4
  obtain ⟨x5,hx5,ht⟩ := bind_some ht
  rcases bq x5 with hg6 | hg6
  ·replace ht := ite_t ht hg6
   obtain ⟨x7,hx7,ht⟩ := bind_some ht
   rcases bq x7 with hg8 | hg8
   ·replace ht := ite_t ht hg8
    obtain rfl := sj ht
    exact rb [hE,hE,hE,hY,hY,hN (.pk false),hE,hY,(.y,(.cal [] (.bool x5) true)),hY,hY,(.y,(.cal [] (.bool x7) true)),(.y,(.pk true)),hN (.pk false),hE,hS,hS,hS,(.u,.e),(.u,.e),hS,hN (.pk true),hE,hS,hS,hS,(.u,.e),(.u,.e),hS,hE] true (hk3 hg3 (hk2 hg4 (kc (c61 hx5) (kc hg4 (hk2 hg6 (kc (c61 hx7) (kc hg4 (kc hg6 (kc hg4 (hk5 hg8 (hk4 tt .nil))))))))))) rfl
   replace ht := ite_f ht hg8
   obtain ⟨x9,hx9,ht⟩ := bind_some ht
   rcases bq x9 with hg10 | hg10
   ·replace ht := ite_t ht hg10
    obtain ⟨x11,hx11,ht⟩ := bind_some ht
    rcases bq x11 with hg12 | hg12
    ·replace ht := ite_t ht hg12
     obtain rfl := sj ht
     exact rb [hE,hE,hE,hY,hY,hN (.pk false),hE,hY,(.y,(.cal [] (.bool x5) true)),hY,hY,(.y,(.cal [] (.bool x7) true)),(.y,(.pk true)),hN (.pk false),hE,hY,(.y,(.cal [] (.bool x9) true)),hY,hY,(.y,(.cal [] (.bool x11) true)),(.y,(.pk true)),hN (.pk false),hE,hS,hS,hS,(.u,.e),(.u,.e),hS,hN (.pk true)] true (hk3 hg3 (hk2 hg4 (kc (c61 hx5) (kc hg4 (hk2 hg6 (kc (c61 hx7) (kc hg4 (kc hg6 (kc hg4 (hk2 hg8 (kc (c61 hx9) (kc hg8 (hk2 hg10 (kc (c61 hx11) (kc hg8 (kc hg10 (kc hg8 (hk5 hg12 .nil)))))))))))))))))) rfl
    replace ht := ite_f ht hg12
    obtain ⟨x13,hx13,ht⟩ := bind_some ht
    rcases bq x13 with hg14 | hg14
    ·replace ht := ite_t ht hg14
     obtain ⟨x15,hx15,ht⟩ := bind_some ht
     obtain rfl := sj ht
     exact rb [hE,hE,hE,hY,hY,hN (.pk false),hE,hY,(.y,(.cal [] (.bool x5) true)),hY,hY,(.y,(.cal [] (.bool x7) true)),(.y,(.pk true)),hN (.pk false),hE,hY,(.y,(.cal [] (.bool x9) true)),hY,hY,(.y,(.cal [] (.bool x11) true)),(.y,(.pk true)),hN (.pk false),hE,hY,(.y,(.cal [] (.bool x13) true)),hY,hY,(.y,(.cal [] (.bool x15) true)),(.y,(.pk true)),hN (.pk false)] x15 (hk3 hg3 (hk2 hg4 (kc (c61 hx5) (kc hg4 (hk2 hg6 (kc (c61 hx7) (kc hg4 (kc hg6 (kc hg4 (hk2 hg8 (kc (c61 hx9) (kc hg8 (hk2 hg10 (kc (c61 hx11) (kc hg8 (kc hg10 (kc hg8 (hk2 hg12 (kc (c61 hx13) (kc hg12 (hk2 hg14 (kc (c61 hx15) (kc hg12 (kc hg14 (kc hg12 .nil))))))))))))))))))))))))) rfl
    replace ht := ite_f ht hg14
    obtain rfl := sj ht
    exact rb [hE,hE,hE,hY,hY,hN (.pk false),hE,hY,(.y,(.cal [] (.bool x5) true)),hY,hY,(.y,(.cal [] (.bool x7) true)),(.y,(.pk true)),hN (.pk false),hE,hY,(.y,(.cal [] (.bool x9) true)),hY,hY,(.y,(.cal [] (.bool x11) true)),(.y,(.pk true)),hN (.pk false),hE,hY,(.y,(.cal [] (.bool x13) true)),hY,hS,hS,(.y,(.pk false)),hN (.pk false)] false (hk3 hg3 (hk2 hg4 (kc (c61 hx5) (kc hg4 (hk2 hg6 (kc (c61 hx7) (kc hg4 (kc hg6 (kc hg4 (hk2 hg8 (kc (c61 hx9) (kc hg8 (hk2 hg10 (kc (c61 hx11) (kc hg8 (kc hg10 (kc hg8 (hk2 hg12 (kc (c61 hx13) (kc hg12 (hk2 hg14 (kc hg12 (kc hg14 (kc hg12 .nil)))))))))))))))))))))))) rfl
   replace ht := ite_f ht hg10
   obtain ⟨x16,hx16,ht⟩ := bind_some ht
   rcases bq x16 with hg17 | hg17
   ·replace ht := ite_t ht hg17
    obtain ⟨x18,hx18,ht⟩ := bind_some ht
    obtain rfl := sj ht
    exact rb [hE,hE,hE,hY,hY,hN (.pk false),hE,hY,(.y,(.cal [] (.bool x5) true)),hY,hY,(.y,(.cal [] (.bool x7) true)),(.y,(.pk true)),hN (.pk false),hE,hY,(.y,(.cal [] (.bool x9) true)),hY,hS,hS,(.y,(.pk false)),hN (.pk false),hE,hY,(.y,(.cal [] (.bool x16) true)),hY,hY,(.y,(.cal [] (.bool x18) true)),(.y,(.pk true)),hE] x18 (hk3 hg3 (hk2 hg4 (kc (c61 hx5) (kc hg4 (hk2 hg6 (kc (c61 hx7) (kc hg4 (kc hg6 (kc hg4 (hk2 hg8 (kc (c61 hx9) (kc hg8 (hk2 hg10 (kc hg8 (kc hg10 (kc hg8 (hk2 ff (kc (c61 hx16) (kc ff (hk2 hg17 (kc (c61 hx18) (kc ff (kc hg17 .nil))))))))))))))))))))))) rfl
   replace ht := ite_f ht hg17
   obtain rfl := sj ht
   exact rb [hE,hE,hE,hY,hY,hN (.pk false),hE,hY,(.y,(.cal [] (.bool x5) true)),hY,hY,(.y,(.cal [] (.bool x7) true)),(.y,(.pk true)),hN (.pk false),hE,hY,(.y,(.cal [] (.bool x9) true)),hY,hS,hS,(.y,(.pk false)),hN (.pk false),hE,hY,(.y,(.cal [] (.bool x16) true)),hY,hS,hS,(.y,(.pk false)),hE] false (hk3 hg3 (hk2 hg4 (kc (c61 hx5) (kc hg4 (hk2 hg6 (kc (c61 hx7) (kc hg4 (kc hg6 (kc hg4 (hk2 hg8 (kc (c61 hx9) (kc hg8 (hk2 hg10 (kc hg8 (kc hg10 (kc hg8 (hk2 ff (kc (c61 hx16) (kc ff (hk2 hg17 (kc ff (kc hg17 .nil)))))))))))))))))))))) rfl
  replace ht := ite_f ht hg6
  obtain ⟨x19,hx19,ht⟩ := bind_some ht
  rcases bq x19 with hg20 | hg20
  ·replace ht := ite_t ht hg20
   obtain ⟨x21,hx21,ht⟩ := bind_some ht
   rcases bq x21 with hg22 | hg22
   ·replace ht := ite_t ht hg22
    obtain rfl := sj ht
    exact rb [hE,hE,hE,hY,hY,hN (.pk false),hE,hY,(.y,(.cal [] (.bool x5) true)),hY,hS,hS,(.y,(.pk false)),hN (.pk false),hE,hY,(.y,(.cal [] (.bool x19) true)),hY,hY,(.y,(.cal [] (.bool x21) true)),(.y,(.pk true)),hE,hE,hS,hS,hS,(.u,.e),(.u,.e),hS,hN (.pk true)] true (hk3 hg3 (hk2 hg4 (kc (c61 hx5) (kc hg4 (hk2 hg6 (kc hg4 (kc hg6 (kc hg4 (hk2 ff (kc (c61 hx19) (kc ff (hk2 hg20 (kc (c61 hx21) (kc ff (kc hg20 (hk5 hg22 .nil)))))))))))))))) rfl
   replace ht := ite_f ht hg22
   obtain ⟨x23,hx23,ht⟩ := bind_some ht
   rcases bq x23 with hg24 | hg24
   ·replace ht := ite_t ht hg24
    obtain ⟨x25,hx25,ht⟩ := bind_some ht
    obtain rfl := sj ht
    exact rb [hE,hE,hE,hY,hY,hN (.pk false),hE,hY,(.y,(.cal [] (.bool x5) true)),hY,hS,hS,(.y,(.pk false)),hN (.pk false),hE,hY,(.y,(.cal [] (.bool x19) true)),hY,hY,(.y,(.cal [] (.bool x21) true)),(.y,(.pk true)),hE,hE,hY,(.y,(.cal [] (.bool x23) true)),hY,hY,(.y,(.cal [] (.bool x25) true)),(.y,(.pk true)),hN (.pk false)] x25 (hk3 hg3 (hk2 hg4 (kc (c61 hx5) (kc hg4 (hk2 hg6 (kc hg4 (kc hg6 (kc hg4 (hk2 ff (kc (c61 hx19) (kc ff (hk2 hg20 (kc (c61 hx21) (kc ff (kc hg20 (hk2 hg22 (kc (c61 hx23) (kc hg22 (hk2 hg24 (kc (c61 hx25) (kc hg22 (kc hg24 (kc hg22 .nil))))))))))))))))))))))) rfl
   replace ht := ite_f ht hg24
   obtain rfl := sj ht
   exact rb [hE,hE,hE,hY,hY,hN (.pk false),hE,hY,(.y,(.cal [] (.bool x5) true)),hY,hS,hS,(.y,(.pk false)),hN (.pk false),hE,hY,(.y,(.cal [] (.bool x19) true)),hY,hY,(.y,(.cal [] (.bool x21) true)),(.y,(.pk true)),hE,hE,hY,(.y,(.cal [] (.bool x23) true)),hY,hS,hS,(.y,(.pk false)),hN (.pk false)] false (hk3 hg3 (hk2 hg4 (kc (c61 hx5) (kc hg4 (hk2 hg6 (kc hg4 (kc hg6 (kc hg4 (hk2 ff (kc (c61 hx19) (kc ff (hk2 hg20 (kc (c61 hx21) (kc ff (kc hg20 (hk2 hg22 (kc (c61 hx23) (kc hg22 (hk2 hg24 (kc hg22 (kc hg24 (kc hg22 .nil)))))))))))))))))))))) rfl
  replace ht := ite_f ht hg20
  obtain ⟨x26,hx26,ht⟩ := bind_some ht
  rcases bq x26 with hg27 | hg27
  ·replace ht := ite_t ht hg27
   obtain ⟨x28,hx28,ht⟩ := bind_some ht
   obtain rfl := sj ht
   exact rb [hE,hE,hE,hY,hY,hN (.pk false),hE,hY,(.y,(.cal [] (.bool x5) true)),hY,hS,hS,(.y,(.pk false)),hN (.pk false),hE,hY,(.y,(.cal [] (.bool x19) true)),hY,hS,hS,(.y,(.pk false)),hE,hE,hY,(.y,(.cal [] (.bool x26) true)),hY,hY,(.y,(.cal [] (.bool x28) true)),(.y,(.pk true)),hE] x28 (hk3 hg3 (hk2 hg4 (kc (c61 hx5) (kc hg4 (hk2 hg6 (kc hg4 (kc hg6 (kc hg4 (hk2 ff (kc (c61 hx19) (kc ff (hk2 hg20 (kc ff (kc hg20 (hk2 ff (kc (c61 hx26) (kc ff (hk2 hg27 (kc (c61 hx28) (kc ff (kc hg27 .nil))))))))))))))))))))) rfl
  replace ht := ite_f ht hg27
  obtain rfl := sj ht
  exact rb [hE,hE,hE,hY,hY,hN (.pk false),hE,hY,(.y,(.cal [] (.bool x5) true)),hY,hS,hS,(.y,(.pk false)),hN (.pk false),hE,hY,(.y,(.cal [] (.bool x19) true)),hY,hS,hS,(.y,(.pk false)),hE,hE,hY,(.y,(.cal [] (.bool x26) true)),hY,hS,hS,(.y,(.pk false)),hE] false (hk3 hg3 (hk2 hg4 (kc (c61 hx5) (kc hg4 (hk2 hg6 (kc hg4 (kc hg6 (kc hg4 (hk2 ff (kc (c61 hx19) (kc ff (hk2 hg20 (kc ff (kc hg20 (hk2 ff (kc (c61 hx26) (kc ff (hk2 hg27 (kc ff (kc hg27 .nil)))))))))))))))))))) rfl
 clear ht
 refine x_if h rfl (fun hc30 h => ?_) (fun hc30 h => ?_)
 ·refine x_rg (rgn [hE,hE,hE,hE] (⟨[oP 6 0,(7,pI 0),(8,pI 1)],[rP 0 3 (zE3 p)],1⟩)) ?_
  refine x_toret (x_tr ?_)
  obtain rfl := sj h
  exact ret0 (.tup [zE3 p,.int .i64 0,.int .i64 1]) (.tup (.cons (.refl _) (.cons (.refl _) (.cons (.refl _) .nil)))) (fun h => nomatch h)
 refine x_kk (x_skip (x_tn (x_seq ?_)))
 refine x_rgB (fun b_ => (⟨[(1,pI id),(2,pI flags),oP 3 0,oP 6 1,oP 9 2,(67,pB b_)],[rP 0 3 (zE3 p),rP 1 3 gA2,rP 2 13 (zE2 x1.1)],3⟩ : VSt)) ((decide (64 ≤ (List.length p.L : Int))) || ((decide (1048575 < p.Next)) || (decide (1099511627774 < p.Group)))) ?_ ?_
 ·rcases bq (decide (64 ≤ (List.length p.L : Int))) with hg31 | hg31
  ·exact rb [hE,hE,hN (.len (List.length p.L : Int)),hE,hE,hS,hS,hS,hN (.pk true),hE,hS,hS,hS,hE] true (kc (lenM zE2 p.L) (hk4 hg31 (hk3 tt .nil))) (by simp only [hg31,bs,reduceIte])
  rcases bq (decide (1048575 < p.Next)) with hg32 | hg32
  ·exact rb [hE,hE,hN (.len (List.length p.L : Int)),hE,hE,hY,hY,hY,hN (.pk false),hE,hS,hS,hS,hN (.pk true)] true (kc (lenM zE2 p.L) (hk4 hg31 (hk4 hg32 .nil))) (by simp only [hg31,hg32,bs,reduceIte])
  exact rb [hE,hE,hN (.len (List.length p.L : Int)),hE,hE,hY,hY,hY,hN (.pk false),hE,hY,hY,hY,hN (.pk false)] (decide (1099511627774 < p.Group)) (kc (lenM zE2 p.L) (hk4 hg31 (hk4 hg32 .nil))) (by simp only [hg31,hg32,bs,reduceIte])
 refine x_if h rfl (fun hc34 h => ?_) (fun hc34 h => ?_)
 ·refine x_rg (rgn [hE,hE,hE,hE] (⟨[oP 6 0,(7,pI 0),(8,pI 22)],[rP 0 3 (zE3 p)],1⟩)) ?_
  refine x_toret (x_tr ?_)
  obtain rfl := sj h
  exact ret0 (.tup [zE3 p,.int .i64 0,.int .i64 22]) (.tup (.cons (.refl _) (.cons (.refl _) (.cons (.refl _) .nil)))) (fun h => nomatch h)
 refine x_kk (x_skip (x_tn ?_))
 obtain ⟨x35,hx35,h⟩ := bind_some h
 refine x_rg (rg0 [hE,hE,hE,hE,hE,hE,hE,hE,hE,hE,hN (.cal [] (.bool x35) true),hE,hE,hE] (⟨[(2,pI flags),oP 3 0,oP 6 1,oP 9 2,oP 11 3],[rP 0 3 (zE3 p),rP 1 3 gA2,rP 2 13 (zE2 x1.1),rP 3 13 (.agg [.int .i64 p.Next,.int .i64 id,.int .i64 1,.str x1.1.User,.str x1.1.Name,.int .i64 0,.int .i64 0,.int .i64 0,.str x1.1.Cwd,.usl none [],.str [],.usl (some 2) [],.bool x35])],4⟩) (kc (c61 hx35) .nil)) ?_
 refine x_rg (rgn [hE,hE,hE] (⟨[(2,pI flags),oP 3 0,oP 6 1,oP 9 2,oP 11 3,(12,pI p.Group)],[rP 0 3 (zE3 p),rP 1 3 gA2,rP 2 13 (zE2 x1.1),rP 3 13 (.agg [.int .i64 p.Next,.int .i64 id,.int .i64 1,.str x1.1.User,.str x1.1.Name,.int .i64 0,.int .i64 0,.int .i64 0,.str x1.1.Cwd,.usl none [],.str [],.usl (some 2) [],.bool x35])],4⟩)) ?_
 obtain ⟨x36,hx36,h⟩ := bind_some h
 refine x_rg (rg0 [hE,hE,hE,hE,hN (.cal [] (.tup [.int .i64 x36.1,.int .i64 x36.2]) true),hE,hE,hE,hE,hE,hE] (⟨[(2,pI flags),oP 3 0,oP 6 1,oP 9 2,oP 11 3,(12,pI x36.2)],[rP 0 3 (zE3 p),rP 1 3 gA2,rP 2 13 (zE2 x1.1),rP 3 13 (.agg [.int .i64 p.Next,.int .i64 id,.int .i64 1,.str x1.1.User,.str x1.1.Name,.int .i64 x36.1,.int .i64 0,.int .i64 0,.str x1.1.Cwd,.usl none [],.str [],.usl (some 2) [],.bool x35])],4⟩) (kc (c62 hx36) .nil)) ?_
 obtain ⟨x37,hx37,h⟩ := bind_some h
 refine x_rg (rg0 [hE,hE,hE,hE,hN (.cal [] (.tup [.int .i64 x37.1,.int .i64 x37.2]) true),hE,hE,hE,hE,hE,hE] (⟨[(2,pI flags),oP 3 0,oP 6 1,oP 9 2,oP 11 3,(12,pI x37.2)],[rP 0 3 (zE3 p),rP 1 3 gA2,rP 2 13 (zE2 x1.1),rP 3 13 (.agg [.int .i64 p.Next,.int .i64 id,.int .i64 1,.str x1.1.User,.str x1.1.Name,.int .i64 x36.1,.int .i64 x37.1,.int .i64 0,.str x1.1.Cwd,.usl none [],.str [],.usl (some 2) [],.bool x35])],4⟩) (kc (c62 hx37) .nil)) ?_
 obtain ⟨x38,hx38,h⟩ := bind_some h
 refine x_rg (rg0 [hE,hE,hE,hE,hN (.cal [] (.tup [.int .i64 x38.1,.int .i64 x38.2]) true),hE,hE,hE,hE,hE,hE] (⟨[oP 3 0,oP 6 1,oP 11 2,(12,pI x38.2)],[rP 0 3 (zE3 p),rP 1 3 gA2,rP 2 13 (.agg [.int .i64 p.Next,.int .i64 id,.int .i64 1,.str x1.1.User,.str x1.1.Name,.int .i64 x36.1,.int .i64 x37.1,.int .i64 x38.1,.str x1.1.Cwd,.usl none [],.str [],.usl (some 2) [],.bool x35])],3⟩) (kc (c62 hx38) .nil)) ?_
 refine x_rg (rgn [hE,hE,hE,hE,hE,hE,hE] (⟨[oP 3 0,oP 6 1,oP 11 2,oP 13 3],[rP 0 3 (zE3 p),rP 1 3 gA2,rP 2 13 (.agg [.int .i64 p.Next,.int .i64 id,.int .i64 1,.str x1.1.User,.str x1.1.Name,.int .i64 x36.1,.int .i64 x37.1,.int .i64 x38.1,.str x1.1.Cwd,.usl none [],.str [],.usl (some 2) [],.bool x35]),rP 3 3 (.agg [.int .i64 (IntKind.wrap .i64 (p.Next + 1)),.int .i64 x38.2,.usl (some 13) []])],4⟩)) ?_
 obtain ⟨x39,hx39,h⟩ := bind_some h
 refine x_rg (rg0 [hE,hE,hE,hE,hN (.app (List.map zE2 x39)),hE,hE] (⟨[oP 6 0,oP 11 1,oP 13 2],[rP 0 3 gA2,rP 1 13 (.agg [.int .i64 p.Next,.int .i64 id,.int .i64 1,.str x1.1.User,.str x1.1.Name,.int .i64 x36.1,.int .i64 x37.1,.int .i64 x38.1,.str x1.1.Cwd,.usl none [],.str [],.usl (some 2) [],.bool x35]),rH 2 3 (.agg [pI (IntKind.wrap .i64 (p.Next + 1)),pI x38.2,oL 3 zE2 x39]),(3,rL (some 13) zE2 x39)],4⟩) (kc (show [] ++ List.map zE2 p.L = (List.map zE2 x39) from (app_ob hx39 (.rfl _) (.rfl _))) (kc (show List.length (List.map zE2 x39) * 168 ≤ 140737488355328 from (by rw [List.length_map]; exact (appL_ok hx39).2.1)) (kc (show List.length (List.map zE2 x39) ≤ 9223372036854775807 from (by rw [List.length_map]; exact (appL_ok hx39).2.2)) .nil)))) ?_
 obtain ⟨x40,hx40,h⟩ := bind_some h
 refine x_rg (rg0 [hE,hE,hE,hE,hN (.frz (.app (List.map zE2 x40)) (List.map zE2 x40)),hE,hE] (⟨[oP 6 0,oP 11 1,oP 13 2],[rP 0 3 gA2,rP 1 13 (.agg [.int .i64 p.Next,.int .i64 id,.int .i64 1,.str x1.1.User,.str x1.1.Name,.int .i64 x36.1,.int .i64 x37.1,.int .i64 x38.1,.str x1.1.Cwd,.usl none [],.str [],.usl (some 2) [],.bool x35]),rP 2 3 (.agg [.int .i64 (IntKind.wrap .i64 (p.Next + 1)),.int .i64 x38.2,.sl (some 13) (List.map zE2 x40)])],3⟩) (kc (le1 (List.map zE2 x40)) (kc (show List.take (List.map zE2 x40).length (List.map zE2 x40) = (List.map zE2 x40) from (by rw [List.take_of_length_le (Nat.le_refl _)])) (kc (show List.take (List.map zE2 x39).length (List.map zE2 x39) ++ List.take 1 (List.drop 0 ([.agg [.int .i64 p.Next,.int .i64 id,.int .i64 1,.str x1.1.User,.str x1.1.Name,.int .i64 x36.1,.int .i64 x37.1,.int .i64 x38.1,.str x1.1.Cwd,.sl none (List.map PV.str ([] : List Str)),.str [],.sl (some 2) (List.map zE1 ([] : List api_Wait)),.bool x35]] : List PV)) = (List.map zE2 x40) from (app_ob hx40 (.all _) (.rfl _))) (kc (show List.length (List.map zE2 x40) * 168 ≤ 140737488355328 from (by rw [List.length_map]; exact (appL_ok hx40).2.1)) (kc (show List.length (List.map zE2 x40) ≤ 9223372036854775807 from (by rw [List.length_map]; exact (appL_ok hx40).2.2)) (kc (le1 (List.map zE2 x39)) (kc (show 0 + 1 ≤ List.length ([.agg [.int .i64 p.Next,.int .i64 id,.int .i64 1,.str x1.1.User,.str x1.1.Name,.int .i64 x36.1,.int .i64 x37.1,.int .i64 x38.1,.str x1.1.Cwd,.sl none (List.map PV.str ([] : List Str)),.str [],.sl (some 2) (List.map zE1 ([] : List api_Wait)),.bool x35]] : List PV) from (by simp)) .nil)))))))) ?_
 refine x_rg (rgn [hE,hE,hE,hE,hE,hE] (⟨[oP 6 0,(7,pI p.Next),(8,pI 0)],[rP 0 3 (.agg [.int .i64 (IntKind.wrap .i64 (p.Next + 1)),.int .i64 x38.2,.sl (some 13) (List.map zE2 x40)])],1⟩)) ?_
 refine x_toret ?_
 obtain rfl := sj h
 exact ret0 (.tup [.agg [.int .i64 (IntKind.wrap .i64 (p.Next + 1)),.int .i64 x38.2,.sl (some 13) (List.map zE2 x40)],.int .i64 p.Next,.int .i64 0]) (.tup (.cons (.refl _) (.cons (.refl _) (.cons (.refl _) .nil)))) (fun h => nomatch h)
theorem c43 {p : api_Procs} {id : Int} {status : Str} {r : (api_Procs × Int)} (h : ref30_Exit p id status = some r) : CallOK Tryd.prog 43 [zE3 p,.int .i64 id,.str status] (.tup [zE3 r.1,.int .i64 r.2]) false := by
 apply ok43
 unfold ref30_Exit at h
 refine x_rg (rgn [hE,hE,hE] (⟨[(1,pI id),(2,pS status),oP 3 0,oP 6 1],[rP 0 3 (zE3 p),rP 1 3 gA2],2⟩)) ?_
 obtain ⟨x1,hx1,h⟩ := bind_some h
 refine x_rg (rg0 [hE,hE,hN (.cal [] (.tup [zE2 x1.1,.bool x1.2]) false),hE,hE,hE,hE,hE,hE] (⟨[(1,pI id),(2,pS status),oP 3 0,oP 6 1,oP 8 2,(9,pB x1.2)],[rP 0 3 (zE3 p),rP 1 3 gA2,rP 2 13 (zE2 x1.1)],3⟩) (kc (c14 hx1) .nil)) ?_
 refine x_seq ?_
 refine x_rg (rgn [hE,hE] (⟨[(1,pI id),(2,pS status),oP 3 0,oP 6 1,oP 8 2,(21,pB (!x1.2))],[rP 0 3 (zE3 p),rP 1 3 gA2,rP 2 13 (zE2 x1.1)],3⟩)) ?_
 refine x_if h rfl (fun hc2 h => ?_) (fun hc2 h => ?_)
 ·refine x_rg (rgn [hE,hE,hE] (⟨[oP 6 0,(7,pI 42)],[rP 0 3 (zE3 p)],1⟩)) ?_
  refine x_toret (x_tr ?_)
  obtain rfl := sj h
  exact ret0 (.tup [zE3 p,.int .i64 42]) (.tup (.cons (.refl _) (.cons (.refl _) .nil))) (fun h => nomatch h)
 refine x_kk (x_skip (x_tn (x_seq ?_)))
 refine x_rg (rgn [hE,hE] (⟨[(1,pI id),(2,pS status),oP 3 0,oP 6 1,oP 8 2,(24,pB (decide (id = 1)))],[rP 0 3 (zE3 p),rP 1 3 gA2,rP 2 13 (zE2 x1.1)],3⟩)) ?_
 refine x_if h rfl (fun hc3 h => ?_) (fun hc3 h => ?_)
 ·refine x_rg (rgn [hE,hE,hE] (⟨[oP 6 0,(7,pI 43)],[rP 0 3 (zE3 p)],1⟩)) ?_
  refine x_toret (x_tr ?_)
  obtain rfl := sj h
  exact ret0 (.tup [zE3 p,.int .i64 43]) (.tup (.cons (.refl _) (.cons (.refl _) .nil))) (fun h => nomatch h)
 refine x_kk (x_skip (x_tn (x_seq ?_)))
 refine x_rg (rgn [hE,hE,hE] (⟨[(1,pI id),(2,pS status),oP 3 0,oP 6 1,oP 8 2,(28,pB (decide (1024 < (List.length status : Int))))],[rP 0 3 (zE3 p),rP 1 3 gA2,rP 2 13 (zE2 x1.1)],3⟩)) ?_
 refine x_if h rfl (fun hc4 h => ?_) (fun hc4 h => ?_)
 ·refine x_rg (rgn [hE,hE,hE] (⟨[oP 6 0,(7,pI 4)],[rP 0 3 (zE3 p)],1⟩)) ?_
  refine x_toret (x_tr ?_)
  obtain rfl := sj h
  exact ret0 (.tup [zE3 p,.int .i64 4]) (.tup (.cons (.refl _) (.cons (.refl _) .nil))) (fun h => nomatch h)
 refine x_kk (x_skip (x_tn ?_))
 refine x_rg (st2 := { tm := [(1,.pv (.int .i64 id)),(2,.pv (.str status)),oP 3 0,oP 6 1,oP 8 2,oP 10 3],hp := [rP 0 3 (zE3 p),rP 1 3 gA2,rP 2 13 (zE2 x1.1),rH 3 3 (.agg [.pv (.int .i64 p.Next),.pv (.int .i64 p.Group),.osl 4 0 (List.map zE2 ([] : List api_Proc)).length]),(4,some (.p (some 13) (List.map zE2 ([] : List api_Proc))))],nx := 5 }) (rg [hE,hE,hE,hE,hE,hE,hE] ({ tm := [(1,.pv (.int .i64 id)),(2,.pv (.str status)),oP 3 0,oP 6 1,oP 8 2,oP 10 3],hp := [rP 0 3 (zE3 p),rP 1 3 gA2,rP 2 13 (zE2 x1.1),rP 3 3 (.agg [.int .i64 p.Next,.int .i64 p.Group,.usl (some 13) []])],nx := 4 }) .nil ((Sub.keep (ks := [1,2,3,6,8,10]) (st := ownBx 10 2 (some 13) ({ tm := [(1,.pv (.int .i64 id)),(2,.pv (.str status)),oP 3 0,oP 6 1,oP 8 2,oP 10 3],hp := [rP 0 3 (zE3 p),rP 1 3 gA2,rP 2 13 (zE2 x1.1),rP 3 3 (.agg [.int .i64 p.Next,.int .i64 p.Group,.usl (some 13) []])],nx := 4 })) (st' := { tm := [(1,.pv (.int .i64 id)),(2,.pv (.str status)),oP 3 0,oP 6 1,oP 8 2,oP 10 3],hp := [rP 0 3 (zE3 p),rP 1 3 gA2,rP 2 13 (zE2 x1.1),rH 3 3 (.agg [.pv (.int .i64 p.Next),.pv (.int .i64 p.Group),.osl 4 0 (List.map zE2 ([] : List api_Proc)).length]),(4,some (.p (some 13) (List.map zE2 ([] : List api_Proc))))],nx := 5 }) (by kernel_rfl)).trans (ownBx_sound 10 2 (some 13) ({ tm := [(1,.pv (.int .i64 id)),(2,.pv (.str status)),oP 3 0,oP 6 1,oP 8 2,oP 10 3],hp := [rP 0 3 (zE3 p),rP 1 3 gA2,rP 2 13 (zE2 x1.1),rP 3 3 (.agg [.int .i64 p.Next,.int .i64 p.Group,.usl (some 13) []])],nx := 4 })))) ?_
 refine x_seq ?_
 refine x_rg (rgn [hE] (⟨[(1,pI id),(2,pS status),oP 3 0,oP 6 1,oP 8 2,oP 10 3,(11,pI 0)],[rP 0 3 (zE3 p),rP 1 3 gA2,rP 2 13 (zE2 x1.1),rH 3 3 (.agg [pI p.Next,pI p.Group,oL 4 zE2 ([] : List api_Proc)]),(4,rL (some 13) zE2 ([] : List api_Proc))],5⟩)) ?_
 refine x_block ?_
 refine kw0 (⟨[(1,pI id),(2,pS status),oP 3 0,oP 6 1,oP 8 2,oP 10 3,(11,pI 0)],[rP 0 3 (zE3 p),rP 1 3 gA2,rP 2 13 (zE2 x1.1),rH 3 3 (.agg [pI p.Next,pI p.Group,oL 4 zE2 ([] : List api_Proc)]),(4,rL (some 13) zE2 ([] : List api_Proc))],5⟩) ?_
 refine x_loop (σ := (Int × (List api_Proc))) h (fun s => ⟨[(1,pI id),(2,pS status),oP 3 0,oP 6 1,oP 8 2,oP 10 3,(11,pI s.1)],[rP 0 3 (zE3 p),rP 1 3 gA2,rP 2 13 (zE2 x1.1),rH 3 3 (.agg [pI p.Next,pI p.Group,oL 4 zE2 s.2]),(4,rL (some 13) zE2 s.2)],5⟩) (by kernel_rfl) ?_ ?_
 ·rintro ⟨i,v21⟩
  kernel_rfl
 rintro ⟨i,v21⟩ x22 h hx22
 replace h : ref30_Exit_L22 p id status x1 i v21 = some x22 := h
 unfold ref30_Exit_L22 at h
 refine x_seq ?_
 refine x_rg (rg0 [hE,hE,hE,hN (.len (List.length p.L : Int)),hE] (⟨[(1,pI id),(2,pS status),oP 3 0,oP 6 1,oP 8 2,oP 10 3,(11,pI i),(39,pB (decide (i < (List.length p.L : Int))))],[rP 0 3 (zE3 p),rP 1 3 gA2,rP 2 13 (zE2 x1.1),rH 3 3 (.agg [pI p.Next,pI p.Group,oL 4 zE2 v21]),(4,rL (some 13) zE2 v21)],5⟩) (kc (lenM zE2 p.L) .nil)) ?_
 refine x_if h rfl (fun hc23 h => ?_) (fun hc23 h => ?_)
 ·refine x_kk (x_skip (x_tn (x_seq (x_block ?_))))
  obtain ⟨x24,hx24,h⟩ := bind_some h
  refine x_rg (rg0 [hE,hE,hE,hN (.pAt (zE2 x24)),hE,hE,hE] (⟨[(1,pI id),(2,pS status),oP 3 0,oP 6 1,oP 8 2,oP 10 3,(11,pI i),oP 12 5],[rP 0 3 (zE3 p),rP 1 3 gA2,rP 2 13 (zE2 x1.1),rH 3 3 (.agg [pI p.Next,pI p.Group,oL 4 zE2 v21]),(4,rL (some 13) zE2 v21),rP 5 13 (zE2 x24)],6⟩) (kc (lsAt_map (f := zE2) hx24) .nil)) ?_
  refine x_seq ?_
  refine x_rg (rgn [hE,hE,hE,hE] (⟨[(1,pI id),(2,pS status),oP 3 0,oP 6 1,oP 8 2,oP 10 3,(11,pI i),oP 12 5,(50,pB (decide (x24.Id = id)))],[rP 0 3 (zE3 p),rP 1 3 gA2,rP 2 13 (zE2 x1.1),rH 3 3 (.agg [pI p.Next,pI p.Group,oL 4 zE2 v21]),(4,rL (some 13) zE2 v21),rP 5 13 (zE2 x24)],6⟩)) ?_
  refine x_if h rfl (fun hc25 h => ?_) (fun hc25 h => ?_)
  ·refine kw0 (⟨[(1,pI id),(2,pS status),oP 3 0,oP 6 1,oP 8 2,oP 10 3,(11,pI i)],[rP 0 3 (zE3 p),rP 1 3 gA2,rP 2 13 (zE2 x1.1),rH 3 3 (.agg [pI p.Next,pI p.Group,oL 4 zE2 v21]),(4,rL (some 13) zE2 v21)],5⟩) ?_
   refine x_exit ?_
   refine x_te ?_
   refine x_bh ?_
   refine x_tn ?_
   refine x_rgt (rgn [hE,hE,hE] (⟨[(1,pI id),(2,pS status),oP 3 0,oP 6 1,oP 8 2,oP 10 3,(11,pI (IntKind.wrap .i64 (i + 1)))],[rP 0 3 (zE3 p),rP 1 3 gA2,rP 2 13 (zE2 x1.1),rH 3 3 (.agg [pI p.Next,pI p.Group,oL 4 zE2 v21]),(4,rL (some 13) zE2 v21)],5⟩)) ?_
   refine x_tn ?_
   exact ⟨_,(sj h).symm,by kernel_rfl⟩
  refine kw0 (⟨[(1,pI id),(2,pS status),oP 3 0,oP 6 1,oP 8 2,oP 10 3,(11,pI i),oP 12 5],[rP 0 3 (zE3 p),rP 1 3 gA2,rP 2 13 (zE2 x1.1),rH 3 3 (.agg [pI p.Next,pI p.Group,oL 4 zE2 v21]),(4,rL (some 13) zE2 v21),rP 5 13 (zE2 x24)],6⟩) ?_
  refine x_skip (x_tn ?_)
  refine x_join (τ := api_Proc) (fun t => ref30_Exit_K26 id status x1 i v21 t = some x22) (fun t => { tm := [(1,.pv (.int .i64 id)),(2,.pv (.str status)),oP 3 0,oP 6 1,oP 8 2,oP 10 3,(11,.pv (.int .i64 i)),oP 12 5],hp := [rP 0 3 (zE3 p),rP 1 3 gA2,rP 2 13 (zE2 x1.1),rH 3 3 (.agg [.pv (.int .i64 p.Next),.pv (.int .i64 p.Group),.osl 4 0 (List.map zE2 v21).length]),(4,some (.p (some 13) (List.map zE2 v21))),rP 5 13 (zE2 t)],nx := 6 }) ?_ ?_
  ·rintro p27 h
   replace h : ref30_Exit_K26 id status x1 i v21 p27 = some x22 := h
   unfold ref30_Exit_K26 at h
   refine x_join (τ := api_Proc) (fun t => ref30_Exit_K28 i v21 t = some x22) (fun t => { tm := [(1,.pv (.int .i64 id)),(2,.pv (.str status)),oP 3 0,oP 6 1,oP 8 2,oP 10 3,(11,.pv (.int .i64 i)),oP 12 5],hp := [rP 0 3 (zE3 p),rP 1 3 gA2,rP 2 13 (zE2 x1.1),rH 3 3 (.agg [.pv (.int .i64 p.Next),.pv (.int .i64 p.Group),.osl 4 0 (List.map zE2 v21).length]),(4,some (.p (some 13) (List.map zE2 v21))),rP 5 13 (zE2 t)],nx := 6 }) ?_ ?_
   ·rintro p29 h
    replace h : ref30_Exit_K28 i v21 p29 = some x22 := h
    unfold ref30_Exit_K28 at h
    obtain ⟨x30,hx30,h⟩ := bind_some h
    refine x_rgt (rg0 [hE,hE,hE,hE,hN (.app (List.map zE2 x30)),hE,hE] (⟨[(1,pI id),(2,pS status),oP 3 0,oP 6 1,oP 8 2,oP 10 3,(11,pI i)],[rP 0 3 (zE3 p),rP 1 3 gA2,rP 2 13 (zE2 x1.1),rH 3 3 (.agg [pI p.Next,pI p.Group,oL 4 zE2 x30]),(4,rL (some 13) zE2 x30)],5⟩) (kc (show List.take (List.map zE2 v21).length (List.map zE2 v21) ++ List.take 1 (List.drop 0 ([zE2 p29] : List PV)) = (List.map zE2 x30) from (app_ob hx30 (.all _) (.rfl _))) (kc (show List.length (List.map zE2 x30) * 168 ≤ 140737488355328 from (by rw [List.length_map]; exact (appL_ok hx30).2.1)) (kc (show List.length (List.map zE2 x30) ≤ 9223372036854775807 from (by rw [List.length_map]; exact (appL_ok hx30).2.2)) (kc (le1 (List.map zE2 v21)) (kc (show 0 + 1 ≤ List.length ([zE2 p29] : List PV) from (by simp)) .nil)))))) ?_
    refine x_bn (x_tn ?_)
    refine x_rgt (rgn [hE,hE,hE] (⟨[(1,pI id),(2,pS status),oP 3 0,oP 6 1,oP 8 2,oP 10 3,(11,pI (IntKind.wrap .i64 (i + 1)))],[rP 0 3 (zE3 p),rP 1 3 gA2,rP 2 13 (zE2 x1.1),rH 3 3 (.agg [pI p.Next,pI p.Group,oL 4 zE2 x30]),(4,rL (some 13) zE2 x30)],5⟩)) ?_
    refine x_tn ?_
    exact ⟨_,(sj h).symm,by kernel_rfl⟩
   refine x_rgB (fun b_ => (⟨[(1,pI id),(2,pS status),oP 3 0,oP 6 1,oP 8 2,oP 10 3,(11,pI i),oP 12 5,(71,pB b_)],[rP 0 3 (zE3 p),rP 1 3 gA2,rP 2 13 (zE2 x1.1),rH 3 3 (.agg [pI p.Next,pI p.Group,oL 4 zE2 v21]),(4,rL (some 13) zE2 v21),rP 5 13 (zE2 p27)],6⟩ : VSt)) ((decide (p27.Id = x1.1.Parent)) && ((!x1.1.Alone) && (decide ((List.length p27.Waits : Int) < 64)))) ?_ ?_
   ·rcases bq (decide (p27.Id = x1.1.Parent)) with hg31 | hg31
    ·rcases bq (!x1.1.Alone) with hg32 | hg32
     ·exact rb [hE,hE,hE,hE,hE,hE,hY,hY,hY,hN (.pk true),hE,hY,hY,(.y,(.len (List.length p27.Waits : Int))),hY,hN (.pk true)] (decide ((List.length p27.Waits : Int) < 64)) (hk4 hg31 (hk3 hg32 (kc (lenM zE1 p27.Waits) (hk2 hg32 .nil)))) (by simp only [hg31,hg32,bs,reduceIte])
     exact rb [hE,hE,hE,hE,hE,hE,hY,hY,hY,hN (.pk true),hE,hS,hS,hS,hS,hN (.pk false)] false (hk4 hg31 (hk5 hg32 .nil)) (by simp only [hg31,hg32,bs,reduceIte])
    exact rb [hE,hE,hE,hE,hE,hE,hS,hS,hS,hN (.pk false),hE,hS,hS,hS,hS,hE] false (hk4 hg31 (hk4 ff .nil)) (by simp only [hg31,bs,reduceIte])
   refine x_if h rfl (fun hc34 h => ?_) (fun hc34 h => ?_)
   ·refine x_rg (rgn [hE] (⟨[(1,pI id),(2,pS status),oP 3 0,oP 6 1,oP 8 2,oP 10 3,(11,pI i),oP 12 5,(13,.pv (.nilsl))],[rP 0 3 (zE3 p),rP 1 3 gA2,rP 2 13 (zE2 x1.1),rH 3 3 (.agg [pI p.Next,pI p.Group,oL 4 zE2 v21]),(4,rL (some 13) zE2 v21),rP 5 13 (zE2 p27)],6⟩)) ?_
    obtain ⟨x35,hx35,h⟩ := bind_some h
    refine x_rg (rg0 [hE,hE,hE,hN (.app (List.map zE1 x35)),hE] (⟨[(1,pI id),(2,pS status),oP 3 0,oP 6 1,oP 8 2,oP 10 3,(11,pI i),oP 12 5,(13,oL 6 zE1 x35)],[rP 0 3 (zE3 p),rP 1 3 gA2,rP 2 13 (zE2 x1.1),rH 3 3 (.agg [pI p.Next,pI p.Group,oL 4 zE2 v21]),(4,rL (some 13) zE2 v21),rP 5 13 (zE2 p27),(6,rL (some 2) zE1 x35)],7⟩) (kc (show [] ++ List.map zE1 p27.Waits = (List.map zE1 x35) from (app_ob hx35 (.rfl _) (.rfl _))) (kc (show List.length (List.map zE1 x35) * 24 ≤ 140737488355328 from (by rw [List.length_map]; exact (appL_ok hx35).2.1)) (kc (show List.length (List.map zE1 x35) ≤ 9223372036854775807 from (by rw [List.length_map]; exact (appL_ok hx35).2.2)) .nil)))) ?_
    obtain ⟨x36,hx36,h⟩ := bind_some h
    refine x_rgt (rg0 [hE,hE,hE,hE,hE,hN (.frz (.app (List.map zE1 x36)) (List.map zE1 x36)),hE,hE] (⟨[(1,pI id),(2,pS status),oP 3 0,oP 6 1,oP 8 2,oP 10 3,(11,pI i),oP 12 5],[rP 0 3 (zE3 p),rP 1 3 gA2,rP 2 13 (zE2 x1.1),rH 3 3 (.agg [pI p.Next,pI p.Group,oL 4 zE2 v21]),(4,rL (some 13) zE2 v21),rP 5 13 (.agg [.int .i64 p27.Id,.int .i64 p27.Parent,.int .i64 p27.State,.str p27.User,.str p27.Name,.int .i64 p27.Ns,.int .i64 p27.Env,.int .i64 p27.Fds,.str p27.Cwd,.sl none (List.map PV.str p27.Notes),.str p27.Status,.sl (some 2) (List.map zE1 x36),.bool p27.Alone])],6⟩) (kc (le1 (List.map zE1 x36)) (kc (show List.take (List.map zE1 x36).length (List.map zE1 x36) = (List.map zE1 x36) from (by rw [List.take_of_length_le (Nat.le_refl _)])) (kc (show List.take (List.map zE1 x35).length (List.map zE1 x35) ++ List.take 1 (List.drop 0 ([.agg [.int .i64 id,.str status]] : List PV)) = (List.map zE1 x36) from (app_ob hx36 (.all _) (.rfl _))) (kc (show List.length (List.map zE1 x36) * 24 ≤ 140737488355328 from (by rw [List.length_map]; exact (appL_ok hx36).2.1)) (kc (show List.length (List.map zE1 x36) ≤ 9223372036854775807 from (by rw [List.length_map]; exact (appL_ok hx36).2.2)) (kc (le1 (List.map zE1 x35)) (kc (show 0 + 1 ≤ List.length ([.agg [.int .i64 id,.str status]] : List PV) from (by simp)) .nil)))))))) ?_
    refine x_tn ?_
    exact ⟨(api_Proc.mk p27.Id p27.Parent p27.State p27.User p27.Name p27.Ns p27.Env p27.Fds p27.Cwd p27.Notes p27.Status x36 p27.Alone),h,by kernel_rfl⟩
   refine kw0 (⟨[(1,pI id),(2,pS status),oP 3 0,oP 6 1,oP 8 2,oP 10 3,(11,pI i),oP 12 5],[rP 0 3 (zE3 p),rP 1 3 gA2,rP 2 13 (zE2 x1.1),rH 3 3 (.agg [pI p.Next,pI p.Group,oL 4 zE2 v21]),(4,rL (some 13) zE2 v21),rP 5 13 (zE2 p27)],6⟩) ?_
   refine x_skip (x_tn ?_)
   exact ⟨p27,h,by kernel_rfl⟩
  refine x_rg (rgn [hE,hE,hE,hE] (⟨[(1,pI id),(2,pS status),oP 3 0,oP 6 1,oP 8 2,oP 10 3,(11,pI i),oP 12 5,(54,pB (decide (x24.Parent = id)))],[rP 0 3 (zE3 p),rP 1 3 gA2,rP 2 13 (zE2 x1.1),rH 3 3 (.agg [pI p.Next,pI p.Group,oL 4 zE2 v21]),(4,rL (some 13) zE2 v21),rP 5 13 (zE2 x24)],6⟩)) ?_
  refine x_if h rfl (fun hc37 h => ?_) (fun hc37 h => ?_)
  ·refine x_rgt (rgn [hE,hE] (⟨[(1,pI id),(2,pS status),oP 3 0,oP 6 1,oP 8 2,oP 10 3,(11,pI i),oP 12 5],[rP 0 3 (zE3 p),rP 1 3 gA2,rP 2 13 (zE2 x1.1),rH 3 3 (.agg [pI p.Next,pI p.Group,oL 4 zE2 v21]),(4,rL (some 13) zE2 v21),rP 5 13 (.agg [.int .i64 x24.Id,.int .i64 1,.int .i64 x24.State,.str x24.User,.str x24.Name,.int .i64 x24.Ns,.int .i64 x24.Env,.int .i64 x24.Fds,.str x24.Cwd,.sl none (List.map PV.str x24.Notes),.str x24.Status,.sl (some 2) (List.map zE1 x24.Waits),.bool x24.Alone])],6⟩)) ?_
   refine x_tn ?_
   exact ⟨(api_Proc.mk x24.Id 1 x24.State x24.User x24.Name x24.Ns x24.Env x24.Fds x24.Cwd x24.Notes x24.Status x24.Waits x24.Alone),h,by kernel_rfl⟩
  refine kw0 (⟨[(1,pI id),(2,pS status),oP 3 0,oP 6 1,oP 8 2,oP 10 3,(11,pI i),oP 12 5],[rP 0 3 (zE3 p),rP 1 3 gA2,rP 2 13 (zE2 x1.1),rH 3 3 (.agg [pI p.Next,pI p.Group,oL 4 zE2 v21]),(4,rL (some 13) zE2 v21),rP 5 13 (zE2 x24)],6⟩) ?_
  refine x_skip (x_tn ?_)
  exact ⟨x24,h,by kernel_rfl⟩
 refine kw0 (⟨[oP 6 0,oP 10 1],[rP 0 3 gA2,rH 1 3 (.agg [pI p.Next,pI p.Group,oL 2 zE2 v21]),(2,rL (some 13) zE2 v21)],3⟩) ?_
 refine x_exit ?_
 refine x_te (x_te ?_)
 replace h := done_leaf h hx22
 refine x_bh ?_
 refine x_tn ?_
 refine x_rg (st2 := { tm := [oP 6 0,(7,.pv (.int .i64 0))],hp := [rP 0 3 (.agg [.int .i64 p.Next,.int .i64 p.Group,.sl (some 13) (List.map zE2 v21)])],nx := 1 }) (rg [hE,hE,hE] ({ tm := [oP 6 0,(7,.pv (.int .i64 0))],hp := [rH 0 3 (.agg [.pv (.int .i64 p.Next),.pv (.int .i64 p.Group),.osl 1 0 (List.map zE2 v21).length]),(1,some (.p (some 13) (List.map zE2 v21)))],nx := 2 }) .nil ((Sub.keep (ks := [6,7]) (st := ⟨[oP 6 0,(7,.pv (.int .i64 0))],rP 0 3 (.agg [.int .i64 p.Next,.int .i64 p.Group,.sl (some 13) (List.map zE2 v21)]) :: (1,none) :: [rH 0 3 (.agg [.pv (.int .i64 p.Next),.pv (.int .i64 p.Group),.osl 1 0 (List.map zE2 v21).length]),(1,some (.p (some 13) (List.map zE2 v21)))],2⟩) (st' := { tm := [oP 6 0,(7,.pv (.int .i64 0))],hp := [rP 0 3 (.agg [.int .i64 p.Next,.int .i64 p.Group,.sl (some 13) (List.map zE2 v21)])],nx := 1 }) (by kernel_rfl)).trans (Sub.frzBx (st := { tm := [oP 6 0,(7,.pv (.int .i64 0))],hp := [rH 0 3 (.agg [.pv (.int .i64 p.Next),.pv (.int .i64 p.Group),.osl 1 0 (List.map zE2 v21).length]),(1,some (.p (some 13) (List.map zE2 v21)))],nx := 2 }) 6 2 (List.map zE2 v21) rfl rfl rfl rfl (Nat.le_refl _) (by rw [List.take_of_length_le (Nat.le_refl _)]) (by decide) rfl))) ?_
 refine x_toret ?_
 obtain rfl := sj h
 exact ret0 (.tup [.agg [.int .i64 p.Next,.int .i64 p.Group,.sl (some 13) (List.map zE2 v21)],.int .i64 0]) (.tup (.cons (.refl _) (.cons (.refl _) .nil))) (fun h => nomatch h)
theorem c63 {p : api_Procs} {x_ : api_Proc} {r : api_Procs} (h : ref30_with p x_ = some r) : CallOK Tryd.prog 63 [zE3 p,zE2 x_] (gA1 r) false := by
 apply ok63
 unfold ref30_with at h
 refine x_rg (rgn [hE,hE,hE] (⟨[oP 2 0,oP 3 1,oP 4 2],[rP 0 3 (zE3 p),rP 1 13 (zE2 x_),rP 2 3 gA2],3⟩)) ?_
 refine x_rg (st2 := { tm := [oP 2 0,oP 3 1,oP 4 2,oP 5 3],hp := [rP 0 3 (zE3 p),rP 1 13 (zE2 x_),rP 2 3 gA2,rH 3 3 (.agg [.pv (.int .i64 p.Next),.pv (.int .i64 p.Group),.osl 4 0 (List.map zE2 ([] : List api_Proc)).length]),(4,some (.p (some 13) (List.map zE2 ([] : List api_Proc))))],nx := 5 }) (rg [hE,hE,hE,hE,hE,hE,hE] ({ tm := [oP 2 0,oP 3 1,oP 4 2,oP 5 3],hp := [rP 0 3 (zE3 p),rP 1 13 (zE2 x_),rP 2 3 gA2,rP 3 3 (.agg [.int .i64 p.Next,.int .i64 p.Group,.usl (some 13) []])],nx := 4 }) .nil ((Sub.keep (ks := [2,3,4,5]) (st := ownBx 5 2 (some 13) ({ tm := [oP 2 0,oP 3 1,oP 4 2,oP 5 3],hp := [rP 0 3 (zE3 p),rP 1 13 (zE2 x_),rP 2 3 gA2,rP 3 3 (.agg [.int .i64 p.Next,.int .i64 p.Group,.usl (some 13) []])],nx := 4 })) (st' := { tm := [oP 2 0,oP 3 1,oP 4 2,oP 5 3],hp := [rP 0 3 (zE3 p),rP 1 13 (zE2 x_),rP 2 3 gA2,rH 3 3 (.agg [.pv (.int .i64 p.Next),.pv (.int .i64 p.Group),.osl 4 0 (List.map zE2 ([] : List api_Proc)).length]),(4,some (.p (some 13) (List.map zE2 ([] : List api_Proc))))],nx := 5 }) (by kernel_rfl)).trans (ownBx_sound 5 2 (some 13) ({ tm := [oP 2 0,oP 3 1,oP 4 2,oP 5 3],hp := [rP 0 3 (zE3 p),rP 1 13 (zE2 x_),rP 2 3 gA2,rP 3 3 (.agg [.int .i64 p.Next,.int .i64 p.Group,.usl (some 13) []])],nx := 4 })))) ?_
 refine x_seq ?_
 refine x_rg (rgn [hE] (⟨[oP 2 0,oP 3 1,oP 4 2,oP 5 3,(6,pI 0)],[rP 0 3 (zE3 p),rP 1 13 (zE2 x_),rP 2 3 gA2,rH 3 3 (.agg [pI p.Next,pI p.Group,oL 4 zE2 ([] : List api_Proc)]),(4,rL (some 13) zE2 ([] : List api_Proc))],5⟩)) ?_
 refine x_block ?_
 refine kw0 (⟨[oP 2 0,oP 3 1,oP 4 2,oP 5 3,(6,pI 0)],[rP 0 3 (zE3 p),rP 1 13 (zE2 x_),rP 2 3 gA2,rH 3 3 (.agg [pI p.Next,pI p.Group,oL 4 zE2 ([] : List api_Proc)]),(4,rL (some 13) zE2 ([] : List api_Proc))],5⟩) ?_
 refine x_loop (σ := (Int × (List api_Proc))) h (fun s => ⟨[oP 2 0,oP 3 1,oP 4 2,oP 5 3,(6,pI s.1)],[rP 0 3 (zE3 p),rP 1 13 (zE2 x_),rP 2 3 gA2,rH 3 3 (.agg [pI p.Next,pI p.Group,oL 4 zE2 s.2]),(4,rL (some 13) zE2 s.2)],5⟩) (by kernel_rfl) ?_ ?_
 ·rintro ⟨i,v8⟩
  kernel_rfl
 rintro ⟨i,v8⟩ x9 h hx9
 replace h : ref30_with_L9 p x_ i v8 = some x9 := h
 unfold ref30_with_L9 at h
 refine x_seq ?_
 refine x_rg (rg0 [hE,hE,hE,hN (.len (List.length p.L : Int)),hE] (⟨[oP 2 0,oP 3 1,oP 4 2,oP 5 3,(6,pI i),(16,pB (decide (i < (List.length p.L : Int))))],[rP 0 3 (zE3 p),rP 1 13 (zE2 x_),rP 2 3 gA2,rH 3 3 (.agg [pI p.Next,pI p.Group,oL 4 zE2 v8]),(4,rL (some 13) zE2 v8)],5⟩) (kc (lenM zE2 p.L) .nil)) ?_
 refine x_if h rfl (fun hc10 h => ?_) (fun hc10 h => ?_)
 ·refine x_kk (x_skip (x_tn (x_seq (x_block ?_))))
  obtain ⟨x11,hx11,h⟩ := bind_some h
  refine x_rg (rg0 [hE,hE,hE,hN (.pAt (zE2 x11)),hE,hE,hE,hE,hE] (⟨[oP 2 0,oP 3 1,oP 4 2,oP 5 3,(6,pI i),(27,pB (decide (x11.Id = x_.Id)))],[rP 0 3 (zE3 p),rP 1 13 (zE2 x_),rP 2 3 gA2,rH 3 3 (.agg [pI p.Next,pI p.Group,oL 4 zE2 v8]),(4,rL (some 13) zE2 v8)],5⟩) (kc (lsAt_map (f := zE2) hx11) .nil)) ?_
  refine x_if h rfl (fun hc12 h => ?_) (fun hc12 h => ?_)
  ·obtain ⟨x13,hx13,h⟩ := bind_some h
   refine x_rgt (rg0 [hE,hE,hE,hE,hN (.app (List.map zE2 x13)),hE,hE] (⟨[oP 2 0,oP 3 1,oP 4 2,oP 5 3,(6,pI i)],[rP 0 3 (zE3 p),rP 1 13 (zE2 x_),rP 2 3 gA2,rH 3 3 (.agg [pI p.Next,pI p.Group,oL 4 zE2 x13]),(4,rL (some 13) zE2 x13)],5⟩) (kc (show List.take (List.map zE2 v8).length (List.map zE2 v8) ++ List.take 1 (List.drop 0 ([zE2 x_] : List PV)) = (List.map zE2 x13) from (app_ob hx13 (.all _) (.rfl _))) (kc (show List.length (List.map zE2 x13) * 168 ≤ 140737488355328 from (by rw [List.length_map]; exact (appL_ok hx13).2.1)) (kc (show List.length (List.map zE2 x13) ≤ 9223372036854775807 from (by rw [List.length_map]; exact (appL_ok hx13).2.2)) (kc (le1 (List.map zE2 v8)) (kc (show 0 + 1 ≤ List.length ([zE2 x_] : List PV) from (by simp)) .nil)))))) ?_
   refine x_bn (x_tn ?_)
   refine x_rgt (rgn [hE,hE,hE] (⟨[oP 2 0,oP 3 1,oP 4 2,oP 5 3,(6,pI (IntKind.wrap .i64 (i + 1)))],[rP 0 3 (zE3 p),rP 1 13 (zE2 x_),rP 2 3 gA2,rH 3 3 (.agg [pI p.Next,pI p.Group,oL 4 zE2 x13]),(4,rL (some 13) zE2 x13)],5⟩)) ?_
   refine x_tn ?_
   exact ⟨_,(sj h).symm,by kernel_rfl⟩
  obtain ⟨x14,hx14,h⟩ := bind_some h
  obtain ⟨x15,hx15,h⟩ := bind_some h
  refine x_rgt (rg0 [hE,hE,hE,hE,hE,hN (.pAt (zE2 x14)),hE,hE,hN (.app (List.map zE2 x15)),hE,hE] (⟨[oP 2 0,oP 3 1,oP 4 2,oP 5 3,(6,pI i)],[rP 0 3 (zE3 p),rP 1 13 (zE2 x_),rP 2 3 gA2,rH 3 3 (.agg [pI p.Next,pI p.Group,oL 4 zE2 x15]),(4,rL (some 13) zE2 x15)],5⟩) (kc (lsAt_map (f := zE2) hx14) (kc (show List.take (List.map zE2 v8).length (List.map zE2 v8) ++ List.take 1 (List.drop 0 ([zE2 x14] : List PV)) = (List.map zE2 x15) from (app_ob hx15 (.all _) (.rfl _))) (kc (show List.length (List.map zE2 x15) * 168 ≤ 140737488355328 from (by rw [List.length_map]; exact (appL_ok hx15).2.1)) (kc (show List.length (List.map zE2 x15) ≤ 9223372036854775807 from (by rw [List.length_map]; exact (appL_ok hx15).2.2)) (kc (le1 (List.map zE2 v8)) (kc (show 0 + 1 ≤ List.length ([zE2 x14] : List PV) from (by simp)) .nil))))))) ?_
  refine x_bn (x_tn ?_)
  refine x_rgt (rgn [hE,hE,hE] (⟨[oP 2 0,oP 3 1,oP 4 2,oP 5 3,(6,pI (IntKind.wrap .i64 (i + 1)))],[rP 0 3 (zE3 p),rP 1 13 (zE2 x_),rP 2 3 gA2,rH 3 3 (.agg [pI p.Next,pI p.Group,oL 4 zE2 x15]),(4,rL (some 13) zE2 x15)],5⟩)) ?_
  refine x_tn ?_
  exact ⟨_,(sj h).symm,by kernel_rfl⟩
 refine kw0 (⟨[oP 4 0,oP 5 1],[rP 0 3 gA2,rH 1 3 (.agg [pI p.Next,pI p.Group,oL 2 zE2 v8]),(2,rL (some 13) zE2 v8)],3⟩) ?_
 refine x_exit ?_
 refine x_te (x_te ?_)
 replace h := done_leaf h hx9
 refine x_bh ?_
 refine x_tn ?_
 refine x_rg (rgn [hE,hE] (⟨[oP 4 0],[rH 0 3 (.agg [pI p.Next,pI p.Group,oL 1 zE2 v8]),(1,rL (some 13) zE2 v8)],2⟩)) ?_
 refine x_toret ?_
 obtain rfl := sj h
 exact x_ret (.agg [.int .i64 p.Next,.int .i64 p.Group,.usl (some 13) (List.take (List.map zE2 v8).length (List.map zE2 v8))]) [1] [(List.map zE2 v8).length ≤ List.length (List.map zE2 v8)] (by kernel_rfl) (.cons (Nat.le_refl _) .nil) (by decide) (.agg (.cons (.refl _) (.cons (.refl _) (.cons (.of_eq (by rw [List.take_length])) .nil)))) (fun h => nomatch h)
theorem c44 {p : api_Procs} {id : Int} {r : (api_Procs × api_Wait × Bool × Int)} (h : ref30_Await p id = some r) : CallOK Tryd.prog 44 [zE3 p,.int .i64 id] (.tup [zE3 r.1,zE1 r.2.1,.bool r.2.2.1,.int .i64 r.2.2.2]) false := by
 apply ok44
 unfold ref30_Await at h
 refine x_rg (rgn [hE,hE,hE,hE,hE] (⟨[(1,pI id),oP 2 0,oP 4 1,oP 5 2],[rP 0 3 (zE3 p),rP 1 3 gA2,rP 2 2 (.agg [.int .i64 0,.str []])],3⟩)) ?_
 obtain ⟨x1,hx1,h⟩ := bind_some h
 refine x_rg (rg0 [hE,hE,hN (.cal [] (.tup [zE2 x1.1,.bool x1.2]) false),hE,hE,hE,hE,hE,hE] (⟨[(1,pI id),oP 2 0,oP 4 1,oP 5 2,oP 8 3,(9,pB x1.2)],[rP 0 3 (zE3 p),rP 1 3 gA2,rP 2 2 (.agg [.int .i64 0,.str []]),rP 3 13 (zE2 x1.1)],4⟩) (kc (c14 hx1) .nil)) ?_
 refine x_seq ?_
 refine x_rg (rgn [hE,hE] (⟨[(1,pI id),oP 2 0,oP 4 1,oP 5 2,oP 8 3,(19,pB (!x1.2))],[rP 0 3 (zE3 p),rP 1 3 gA2,rP 2 2 (.agg [.int .i64 0,.str []]),rP 3 13 (zE2 x1.1)],4⟩)) ?_
 refine x_if h rfl (fun hc2 h => ?_) (fun hc2 h => ?_)
 ·refine x_rg (rgn [hE,hE,hE,hE,hE,hE] (⟨[oP 4 0,oP 5 1,(6,pB false),(7,pI 42)],[rP 0 3 (zE3 p),rP 1 2 (.agg [.int .i64 0,.str []])],2⟩)) ?_
  refine x_toret (x_tr ?_)
  obtain rfl := sj h
  exact ret0 (.tup [zE3 p,.agg [.int .i64 0,.str []],.bool false,.int .i64 42]) (.tup (.cons (.refl _) (.cons (.refl _) (.cons (.refl _) (.cons (.refl _) .nil))))) (fun h => nomatch h)
 refine x_kk (x_skip (x_tn (x_seq ?_)))
 refine x_rg (rg0 [hE,hE,hN (.len (List.length x1.1.Waits : Int)),hE] (⟨[(1,pI id),oP 2 0,oP 4 1,oP 5 2,oP 8 3,(25,pB (decide (0 < (List.length x1.1.Waits : Int))))],[rP 0 3 (zE3 p),rP 1 3 gA2,rP 2 2 (.agg [.int .i64 0,.str []]),rP 3 13 (zE2 x1.1)],4⟩) (kc (lenM zE1 x1.1.Waits) .nil)) ?_
 refine x_if h rfl (fun hc3 h => ?_) (fun hc3 h => ?_)
 ·obtain ⟨x4,hx4,h⟩ := bind_some h
  refine x_rg (rg0 [hE,hE,hN (.pAt (zE1 x4)),hE,hE,hE] (⟨[oP 2 0,oP 4 1,oP 5 2,oP 8 3,oP 10 4],[rP 0 3 (zE3 p),rP 1 3 gA2,rP 2 2 (.agg [.int .i64 0,.str []]),rP 3 13 (zE2 x1.1),rP 4 2 (zE1 x4)],5⟩) (kc (lsAt_map (f := zE1) hx4) .nil)) ?_
  obtain ⟨x5,hx5,h⟩ := bind_some h
  refine x_rg (rg0 [hE,hE,hN (.cutP (List.map zE1 x5)),hE,hE] (⟨[oP 2 0,oP 4 1,oP 5 2,oP 8 3,oP 10 4],[rP 0 3 (zE3 p),rP 1 3 gA2,rP 2 2 (.agg [.int .i64 0,.str []]),rP 3 13 (.agg [.int .i64 x1.1.Id,.int .i64 x1.1.Parent,.int .i64 x1.1.State,.str x1.1.User,.str x1.1.Name,.int .i64 x1.1.Ns,.int .i64 x1.1.Env,.int .i64 x1.1.Fds,.str x1.1.Cwd,.sl none (List.map PV.str x1.1.Notes),.str x1.1.Status,.sl (some 2) (List.map zE1 x5),.bool x1.1.Alone]),rP 4 2 (zE1 x4)],5⟩) (kc (show cut (List.map zE1 x1.1.Waits) 1 (List.length (List.map zE1 x1.1.Waits) : Int) = some (List.map zE1 x5) from (cut_map_end hx5)) .nil)) ?_
  obtain ⟨x6,hx6,h⟩ := bind_some h
  refine x_rg (rg0 [hE,hE,hN (.cal [] (zE3 x6) false),hE,hE,hE,hE,hE] (⟨[oP 4 0,oP 5 1,(6,pB false),(7,pI 0)],[rP 0 3 (zE3 x6),rP 1 2 (zE1 x4)],2⟩) (kc (show CallOK Tryd.prog 63 [zE3 p,.agg [.int .i64 x1.1.Id,.int .i64 x1.1.Parent,.int .i64 x1.1.State,.str x1.1.User,.str x1.1.Name,.int .i64 x1.1.Ns,.int .i64 x1.1.Env,.int .i64 x1.1.Fds,.str x1.1.Cwd,.sl none (List.map PV.str x1.1.Notes),.str x1.1.Status,.sl (some 2) (List.map zE1 x5),.bool x1.1.Alone]] (zE3 x6) false from ((c63 hx6).frz (.agg (.cons (.refl _) (.cons (.refl _) (.cons (.usl _ _) .nil)))))) .nil)) ?_
  refine x_toret (x_tr ?_)
  obtain rfl := sj h
  exact ret0 (.tup [zE3 x6,zE1 x4,.bool false,.int .i64 0]) (.tup (.cons (.refl _) (.cons (.refl _) (.cons (.refl _) (.cons (.refl _) .nil))))) (fun h => nomatch h)
 refine x_kk (x_skip (x_tn (x_seq ?_)))
 refine x_rg (rgn [hE] (⟨[(1,pI id),oP 2 0,oP 4 1,oP 5 2,(11,pI 0)],[rP 0 3 (zE3 p),rP 1 3 gA2,rP 2 2 (.agg [.int .i64 0,.str []])],3⟩)) ?_
 refine x_block ?_
 refine kw0 (⟨[(1,pI id),oP 2 0,oP 4 1,oP 5 2,(11,pI 0)],[rP 0 3 (zE3 p),rP 1 3 gA2,rP 2 2 (.agg [.int .i64 0,.str []])],3⟩) ?_
 refine x_loop (σ := Int) h (fun s => ⟨[(1,pI id),oP 2 0,oP 4 1,oP 5 2,(11,pI s)],[rP 0 3 (zE3 p),rP 1 3 gA2,rP 2 2 (.agg [.int .i64 0,.str []])],3⟩) (by kernel_rfl) ?_ ?_
 ·rintro i
  kernel_rfl
 rintro i x14 h hx14
 replace h : ref30_Await_L14 p id i = some x14 := h
 unfold ref30_Await_L14 at h
 refine x_seq ?_
 refine x_rg (rg0 [hE,hE,hE,hN (.len (List.length p.L : Int)),hE] (⟨[(1,pI id),oP 2 0,oP 4 1,oP 5 2,(11,pI i),(42,pB (decide (i < (List.length p.L : Int))))],[rP 0 3 (zE3 p),rP 1 3 gA2,rP 2 2 (.agg [.int .i64 0,.str []])],3⟩) (kc (lenM zE2 p.L) .nil)) ?_
 refine x_if h rfl (fun hc15 h => ?_) (fun hc15 h => ?_)
 ·refine x_kk (x_skip (x_tn (x_seq (x_block ?_))))
  obtain ⟨x16,hx16,h⟩ := bind_some h
  obtain ⟨t19,ht,h⟩ := bind_some h
  refine x_rgB (fun b_ => (⟨[(1,pI id),oP 2 0,oP 4 1,oP 5 2,(11,pI i),(61,pB b_)],[rP 0 3 (zE3 p),rP 1 3 gA2,rP 2 2 (.agg [.int .i64 0,.str []])],3⟩ : VSt)) t19 ?_ ?_
  ·rcases bq (decide (x16.Parent = id)) with hg17 | hg17
   ·replace ht := ite_t ht hg17
    obtain ⟨x18,hx18,ht⟩ := bind_some ht
    obtain rfl := sj ht
    exact rb [hE,hE,hE,hN (.pAt (zE2 x16)),hE,hE,hE,hE,hE,hY,hY,hY,(.y,(.pAt (zE2 x18))),hY,hY,hY,hN (.pk true)] (!x18.Alone) (kc (lsAt_map (f := zE2) hx16) (hk4 hg17 (kc (lsAt_map (f := zE2) hx18) (hk4 hg17 .nil)))) rfl
   replace ht := ite_f ht hg17
   obtain rfl := sj ht
   exact rb [hE,hE,hE,hN (.pAt (zE2 x16)),hE,hE,hE,hE,hE,hS,hS,hS,hS,hS,hS,hS,hN (.pk false)] false (kc (lsAt_map (f := zE2) hx16) (hk8 hg17 .nil)) rfl
  clear ht
  refine x_if h rfl (fun hc20 h => ?_) (fun hc20 h => ?_)
  ·refine x_rg (rgn [hE,hE,hE,hE,hE,hE] (⟨[oP 4 0,oP 5 1,(6,pB true),(7,pI 0)],[rP 0 3 (zE3 p),rP 1 2 (.agg [.int .i64 0,.str []])],2⟩)) ?_
   refine x_toret (x_br (x_tr (x_tr ?_)))
   replace h := done_leaf h hx14
   refine x_br (x_tr ?_)
   obtain rfl := sj h
   exact ret0 (.tup [zE3 p,.agg [.int .i64 0,.str []],.bool true,.int .i64 0]) (.tup (.cons (.refl _) (.cons (.refl _) (.cons (.refl _) (.cons (.refl _) .nil))))) (fun h => nomatch h)
  refine x_kk (x_skip (x_bn (x_tn ?_)))
  refine x_rgt (rgn [hE,hE,hE] (⟨[(1,pI id),oP 2 0,oP 4 1,oP 5 2,(11,pI (IntKind.wrap .i64 (i + 1)))],[rP 0 3 (zE3 p),rP 1 3 gA2,rP 2 2 (.agg [.int .i64 0,.str []])],3⟩)) ?_
  refine x_tn ?_
  exact ⟨_,(sj h).symm,by kernel_rfl⟩
 refine kw0 (⟨[oP 2 0,oP 4 1,oP 5 2],[rP 0 3 (zE3 p),rP 1 3 gA2,rP 2 2 (.agg [.int .i64 0,.str []])],3⟩) ?_
 refine x_exit ?_
 refine x_te (x_te ?_)
 replace h := done_leaf h hx14
 refine x_bh ?_
 refine x_tn ?_
 refine x_rg (rgn [hE,hE,hE,hE,hE,hE] (⟨[oP 4 0,oP 5 1,(6,pB false),(7,pI 42)],[rP 0 3 (zE3 p),rP 1 2 (.agg [.int .i64 0,.str []])],2⟩)) ?_
 refine x_toret ?_
 obtain rfl := sj h
 exact ret0 (.tup [zE3 p,.agg [.int .i64 0,.str []],.bool false,.int .i64 42]) (.tup (.cons (.refl _) (.cons (.refl _) (.cons (.refl _) (.cons (.refl _) .nil))))) (fun h => nomatch h)
theorem c45 {p : api_Procs} {id : Int} {note : Str} {r : (api_Procs × Int)} (h : ref30_Note p id note = some r) : CallOK Tryd.prog 45 [zE3 p,.int .i64 id,.str note] (.tup [zE3 r.1,.int .i64 r.2]) false := by
 apply ok45
 unfold ref30_Note at h
 refine x_rg (rgn [hE,hE,hE] (⟨[(1,pI id),(2,pS note),oP 3 0,oP 6 1],[rP 0 3 (zE3 p),rP 1 3 gA2],2⟩)) ?_
 obtain ⟨x1,hx1,h⟩ := bind_some h
 refine x_rg (rg0 [hE,hE,hN (.cal [] (.tup [zE2 x1.1,.bool x1.2]) false),hE,hE,hE,hE,hE,hE] (⟨[(2,pS note),oP 3 0,oP 6 1,oP 8 2,(9,pB x1.2)],[rP 0 3 (zE3 p),rP 1 3 gA2,rP 2 13 (zE2 x1.1)],3⟩) (kc (c14 hx1) .nil)) ?_
 refine x_seq ?_
 refine x_rg (rgn [hE,hE] (⟨[(2,pS note),oP 3 0,oP 6 1,oP 8 2,(18,pB (!x1.2))],[rP 0 3 (zE3 p),rP 1 3 gA2,rP 2 13 (zE2 x1.1)],3⟩)) ?_
 refine x_if h rfl (fun hc2 h => ?_) (fun hc2 h => ?_)
 ·refine x_rg (rgn [hE,hE,hE] (⟨[oP 6 0,(7,pI 42)],[rP 0 3 (zE3 p)],1⟩)) ?_
  refine x_toret (x_tr ?_)
  obtain rfl := sj h
  exact ret0 (.tup [zE3 p,.int .i64 42]) (.tup (.cons (.refl _) (.cons (.refl _) .nil))) (fun h => nomatch h)
 refine x_kk (x_skip (x_tn (x_seq ?_)))
 refine x_rg (rgn [hE,hE,hE] (⟨[(2,pS note),oP 3 0,oP 6 1,oP 8 2,(22,pB (decide (1024 < (List.length note : Int))))],[rP 0 3 (zE3 p),rP 1 3 gA2,rP 2 13 (zE2 x1.1)],3⟩)) ?_
 refine x_if h rfl (fun hc3 h => ?_) (fun hc3 h => ?_)
 ·refine x_rg (rgn [hE,hE,hE] (⟨[oP 6 0,(7,pI 4)],[rP 0 3 (zE3 p)],1⟩)) ?_
  refine x_toret (x_tr ?_)
  obtain rfl := sj h
  exact ret0 (.tup [zE3 p,.int .i64 4]) (.tup (.cons (.refl _) (.cons (.refl _) .nil))) (fun h => nomatch h)
 refine x_kk (x_skip (x_tn (x_seq ?_)))
 refine x_rg (rg0 [hE,hE,hN (.len (List.length x1.1.Notes : Int)),hE] (⟨[(2,pS note),oP 3 0,oP 6 1,oP 8 2,(27,pB (decide (8 ≤ (List.length x1.1.Notes : Int))))],[rP 0 3 (zE3 p),rP 1 3 gA2,rP 2 13 (zE2 x1.1)],3⟩) (kc (lenM PV.str x1.1.Notes) .nil)) ?_
 refine x_if h rfl (fun hc4 h => ?_) (fun hc4 h => ?_)
 ·refine x_rg (rgn [hE,hE,hE] (⟨[oP 6 0,(7,pI 22)],[rP 0 3 (zE3 p)],1⟩)) ?_
  refine x_toret (x_tr ?_)
  obtain rfl := sj h
  exact ret0 (.tup [zE3 p,.int .i64 22]) (.tup (.cons (.refl _) (.cons (.refl _) .nil))) (fun h => nomatch h)
 refine x_kk (x_skip (x_tn ?_))
 refine x_rg (rgn [hE] (⟨[(2,pS note),oP 3 0,oP 6 1,oP 8 2,(10,.pv (.nilsl))],[rP 0 3 (zE3 p),rP 1 3 gA2,rP 2 13 (zE2 x1.1)],3⟩)) ?_
 obtain ⟨x5,hx5,h⟩ := bind_some h
 refine x_rg (rg0 [hE,hE,hE,hN (.app (List.map PV.str x5)),hE] (⟨[(2,pS note),oP 3 0,oP 6 1,oP 8 2,(10,oL 3 PV.str x5)],[rP 0 3 (zE3 p),rP 1 3 gA2,rP 2 13 (zE2 x1.1),(3,rL none PV.str x5)],4⟩) (kc (show [] ++ List.map PV.str x1.1.Notes = (List.map PV.str x5) from (app_ob hx5 (.rfl _) (.rfl _))) (kc (show List.length (List.map PV.str x5) * 16 ≤ 140737488355328 from (by rw [List.length_map]; exact (appL_ok hx5).2.1)) (kc (show List.length (List.map PV.str x5) ≤ 9223372036854775807 from (by rw [List.length_map]; exact (appL_ok hx5).2.2)) .nil)))) ?_
 obtain ⟨x6,hx6,h⟩ := bind_some h
 refine x_rg (rg0 [hE,hE,hE,hN (.frz (.app (List.map PV.str x6)) (List.map PV.str x6)),hE,hE] (⟨[oP 3 0,oP 6 1,oP 8 2],[rP 0 3 (zE3 p),rP 1 3 gA2,rP 2 13 (.agg [.int .i64 x1.1.Id,.int .i64 x1.1.Parent,.int .i64 x1.1.State,.str x1.1.User,.str x1.1.Name,.int .i64 x1.1.Ns,.int .i64 x1.1.Env,.int .i64 x1.1.Fds,.str x1.1.Cwd,.sl none (List.map PV.str x6),.str x1.1.Status,.sl (some 2) (List.map zE1 x1.1.Waits),.bool x1.1.Alone])],3⟩) (kc (le1 (List.map PV.str x6)) (kc (show List.take (List.map PV.str x6).length (List.map PV.str x6) = (List.map PV.str x6) from (by rw [List.take_of_length_le (Nat.le_refl _)])) (kc (show List.take (List.map PV.str x5).length (List.map PV.str x5) ++ List.take 1 (List.drop 0 ([.str note] : List PV)) = (List.map PV.str x6) from (app_ob hx6 (.all _) (.rfl _))) (kc (show List.length (List.map PV.str x6) * 16 ≤ 140737488355328 from (by rw [List.length_map]; exact (appL_ok hx6).2.1)) (kc (show List.length (List.map PV.str x6) ≤ 9223372036854775807 from (by rw [List.length_map]; exact (appL_ok hx6).2.2)) (kc (le1 (List.map PV.str x5)) (kc (show 0 + 1 ≤ List.length ([.str note] : List PV) from (by simp)) .nil)))))))) ?_
 obtain ⟨x7,hx7,h⟩ := bind_some h
 refine x_rg (rg0 [hE,hE,hN (.cal [] (zE3 x7) false),hE,hE] (⟨[oP 6 0,(7,pI 0)],[rP 0 3 (zE3 x7)],1⟩) (kc (show CallOK Tryd.prog 63 [zE3 p,.agg [.int .i64 x1.1.Id,.int .i64 x1.1.Parent,.int .i64 x1.1.State,.str x1.1.User,.str x1.1.Name,.int .i64 x1.1.Ns,.int .i64 x1.1.Env,.int .i64 x1.1.Fds,.str x1.1.Cwd,.sl none (List.map PV.str x6),.str x1.1.Status,.sl (some 2) (List.map zE1 x1.1.Waits),.bool x1.1.Alone]] (zE3 x7) false from ((c63 hx7).frz (.agg (.cons (.refl _) (.cons (.refl _) (.cons (.usl _ _) .nil)))))) .nil)) ?_
 refine x_toret ?_
 obtain rfl := sj h
 exact ret0 (.tup [zE3 x7,.int .i64 0]) (.tup (.cons (.refl _) (.cons (.refl _) .nil))) (fun h => nomatch h)
theorem c46 {p : api_Procs} {id : Int} {r : (api_Procs × Str × Bool × Int)} (h : ref30_Take p id = some r) : CallOK Tryd.prog 46 [zE3 p,.int .i64 id] (.tup [zE3 r.1,.str r.2.1,.bool r.2.2.1,.int .i64 r.2.2.2]) false := by
 apply ok46
 unfold ref30_Take at h
 refine x_rg (rgn [hE,hE,hE,hE,hE] (⟨[(1,pI id),oP 2 0,oP 4 1],[rP 0 3 (zE3 p),rP 1 3 gA2],2⟩)) ?_
 obtain ⟨x1,hx1,h⟩ := bind_some h
 refine x_rg (rg0 [hE,hE,hN (.cal [] (.tup [zE2 x1.1,.bool x1.2]) false),hE,hE,hE,hE,hE,hE] (⟨[oP 2 0,oP 4 1,oP 8 2,(9,pB x1.2)],[rP 0 3 (zE3 p),rP 1 3 gA2,rP 2 13 (zE2 x1.1)],3⟩) (kc (c14 hx1) .nil)) ?_
 refine x_seq ?_
 refine x_rg (rgn [hE,hE] (⟨[oP 2 0,oP 4 1,oP 8 2,(18,pB (!x1.2))],[rP 0 3 (zE3 p),rP 1 3 gA2,rP 2 13 (zE2 x1.1)],3⟩)) ?_
 refine x_if h rfl (fun hc2 h => ?_) (fun hc2 h => ?_)
 ·refine x_rg (rgn [hE,hE,hE,hE,hE] (⟨[oP 4 0,(5,pS []),(6,pB false),(7,pI 42)],[rP 0 3 (zE3 p)],1⟩)) ?_
  refine x_toret (x_tr ?_)
  obtain rfl := sj h
  exact ret0 (.tup [zE3 p,.str [],.bool false,.int .i64 42]) (.tup (.cons (.refl _) (.cons (.refl _) (.cons (.refl _) (.cons (.refl _) .nil))))) (fun h => nomatch h)
 refine x_kk (x_skip (x_tn (x_seq ?_)))
 refine x_rg (rg0 [hE,hE,hN (.len (List.length x1.1.Notes : Int)),hE] (⟨[oP 2 0,oP 4 1,oP 8 2,(23,pB (decide ((List.length x1.1.Notes : Int) = 0)))],[rP 0 3 (zE3 p),rP 1 3 gA2,rP 2 13 (zE2 x1.1)],3⟩) (kc (lenM PV.str x1.1.Notes) .nil)) ?_
 refine x_if h rfl (fun hc3 h => ?_) (fun hc3 h => ?_)
 ·refine x_rg (rgn [hE,hE,hE,hE,hE] (⟨[oP 4 0,(5,pS []),(6,pB false),(7,pI 0)],[rP 0 3 (zE3 p)],1⟩)) ?_
  refine x_toret (x_tr ?_)
  obtain rfl := sj h
  exact ret0 (.tup [zE3 p,.str [],.bool false,.int .i64 0]) (.tup (.cons (.refl _) (.cons (.refl _) (.cons (.refl _) (.cons (.refl _) .nil))))) (fun h => nomatch h)
 refine x_kk (x_skip (x_tn ?_))
 obtain ⟨x4,hx4,h⟩ := bind_some h
 refine x_rg (rg0 [hE,hE,hN (.pAt (.str x4)),hE,hE] (⟨[oP 2 0,oP 4 1,oP 8 2,(10,pS x4)],[rP 0 3 (zE3 p),rP 1 3 gA2,rP 2 13 (zE2 x1.1)],3⟩) (kc (lsAt_map (f := PV.str) hx4) .nil)) ?_
 obtain ⟨x5,hx5,h⟩ := bind_some h
 refine x_rg (rg0 [hE,hE,hN (.cutP (List.map PV.str x5)),hE,hE] (⟨[oP 2 0,oP 4 1,oP 8 2,(10,pS x4)],[rP 0 3 (zE3 p),rP 1 3 gA2,rP 2 13 (.agg [.int .i64 x1.1.Id,.int .i64 x1.1.Parent,.int .i64 x1.1.State,.str x1.1.User,.str x1.1.Name,.int .i64 x1.1.Ns,.int .i64 x1.1.Env,.int .i64 x1.1.Fds,.str x1.1.Cwd,.sl none (List.map PV.str x5),.str x1.1.Status,.sl (some 2) (List.map zE1 x1.1.Waits),.bool x1.1.Alone])],3⟩) (kc (show cut (List.map PV.str x1.1.Notes) 1 (List.length (List.map PV.str x1.1.Notes) : Int) = some (List.map PV.str x5) from (cut_map_end hx5)) .nil)) ?_
 obtain ⟨x6,hx6,h⟩ := bind_some h
 refine x_rg (rg0 [hE,hE,hN (.cal [] (zE3 x6) false),hE,hE,hE,hE,hE] (⟨[oP 4 0,(5,pS x4),(6,pB true),(7,pI 0)],[rP 0 3 (zE3 x6)],1⟩) (kc (show CallOK Tryd.prog 63 [zE3 p,.agg [.int .i64 x1.1.Id,.int .i64 x1.1.Parent,.int .i64 x1.1.State,.str x1.1.User,.str x1.1.Name,.int .i64 x1.1.Ns,.int .i64 x1.1.Env,.int .i64 x1.1.Fds,.str x1.1.Cwd,.sl none (List.map PV.str x5),.str x1.1.Status,.sl (some 2) (List.map zE1 x1.1.Waits),.bool x1.1.Alone]] (zE3 x6) false from ((c63 hx6).frz (.agg (.cons (.refl _) (.cons (.refl _) (.cons (.usl _ _) .nil)))))) .nil)) ?_
 refine x_toret ?_
 obtain rfl := sj h
 exact ret0 (.tup [zE3 x6,.str x4,.bool true,.int .i64 0]) (.tup (.cons (.refl _) (.cons (.refl _) (.cons (.refl _) (.cons (.refl _) .nil))))) (fun h => nomatch h)
theorem c47 {p : api_Procs} {id : Int} {state : Int} {r : (api_Procs × Int)} (h : ref30_Set p id state = some r) : CallOK Tryd.prog 47 [zE3 p,.int .i64 id,.int .i64 state] (.tup [zE3 r.1,.int .i64 r.2]) false := by
 apply ok47
 unfold ref30_Set at h
 refine x_rg (rgn [hE,hE,hE] (⟨[(1,pI id),(2,pI state),oP 3 0,oP 6 1],[rP 0 3 (zE3 p),rP 1 3 gA2],2⟩)) ?_
 obtain ⟨x1,hx1,h⟩ := bind_some h
 refine x_rg (rg0 [hE,hE,hN (.cal [] (.tup [zE2 x1.1,.bool x1.2]) false),hE,hE,hE,hE,hE,hE] (⟨[(2,pI state),oP 3 0,oP 6 1,oP 8 2,(9,pB x1.2)],[rP 0 3 (zE3 p),rP 1 3 gA2,rP 2 13 (zE2 x1.1)],3⟩) (kc (c14 hx1) .nil)) ?_
 refine x_seq ?_
 refine x_rg (rgn [hE,hE] (⟨[(2,pI state),oP 3 0,oP 6 1,oP 8 2,(17,pB (!x1.2))],[rP 0 3 (zE3 p),rP 1 3 gA2,rP 2 13 (zE2 x1.1)],3⟩)) ?_
 refine x_if h rfl (fun hc2 h => ?_) (fun hc2 h => ?_)
 ·refine x_rg (rgn [hE,hE,hE] (⟨[oP 6 0,(7,pI 42)],[rP 0 3 (zE3 p)],1⟩)) ?_
  refine x_toret (x_tr ?_)
  obtain rfl := sj h
  exact ret0 (.tup [zE3 p,.int .i64 42]) (.tup (.cons (.refl _) (.cons (.refl _) .nil))) (fun h => nomatch h)
 refine x_kk (x_skip (x_tn (x_seq ?_)))
 refine x_rgB (fun b_ => (⟨[(2,pI state),oP 3 0,oP 6 1,oP 8 2,(28,pB b_)],[rP 0 3 (zE3 p),rP 1 3 gA2,rP 2 13 (zE2 x1.1)],3⟩ : VSt)) ((!decide (state = 1)) && ((!decide (state = 2)) && (!decide (state = 3)))) ?_ ?_
 ·rcases bq (!decide (state = 1)) with hg3 | hg3
  ·rcases bq (!decide (state = 2)) with hg4 | hg4
   ·exact rb [hE,hE,hE,hY,hY,hN (.pk true),hE,hY,hY,hN (.pk true)] (!decide (state = 3)) (hk3 hg3 (hk3 hg4 .nil)) (by simp only [hg3,hg4,bs,reduceIte])
   exact rb [hE,hE,hE,hY,hY,hN (.pk true),hE,hS,hS,hN (.pk false)] false (hk3 hg3 (hk3 hg4 .nil)) (by simp only [hg3,hg4,bs,reduceIte])
  exact rb [hE,hE,hE,hS,hS,hN (.pk false),hE,hS,hS,hE] false (hk3 hg3 (hk2 ff .nil)) (by simp only [hg3,bs,reduceIte])
 refine x_if h rfl (fun hc6 h => ?_) (fun hc6 h => ?_)
 ·refine x_rg (rgn [hE,hE,hE] (⟨[oP 6 0,(7,pI 1)],[rP 0 3 (zE3 p)],1⟩)) ?_
  refine x_toret (x_tr ?_)
  obtain rfl := sj h
  exact ret0 (.tup [zE3 p,.int .i64 1]) (.tup (.cons (.refl _) (.cons (.refl _) .nil))) (fun h => nomatch h)
 refine x_kk (x_skip (x_tn ?_))
 refine x_rg (rgn [hE,hE,hE] (⟨[oP 3 0,oP 6 1,oP 8 2],[rP 0 3 (zE3 p),rP 1 3 gA2,rP 2 13 (.agg [.int .i64 x1.1.Id,.int .i64 x1.1.Parent,.int .i64 state,.str x1.1.User,.str x1.1.Name,.int .i64 x1.1.Ns,.int .i64 x1.1.Env,.int .i64 x1.1.Fds,.str x1.1.Cwd,.sl none (List.map PV.str x1.1.Notes),.str x1.1.Status,.sl (some 2) (List.map zE1 x1.1.Waits),.bool x1.1.Alone])],3⟩)) ?_
 obtain ⟨x7,hx7,h⟩ := bind_some h
 refine x_rg (rg0 [hE,hE,hN (.cal [] (zE3 x7) false),hE,hE] (⟨[oP 6 0,(7,pI 0)],[rP 0 3 (zE3 x7)],1⟩) (kc (show CallOK Tryd.prog 63 [zE3 p,.agg [.int .i64 x1.1.Id,.int .i64 x1.1.Parent,.int .i64 state,.str x1.1.User,.str x1.1.Name,.int .i64 x1.1.Ns,.int .i64 x1.1.Env,.int .i64 x1.1.Fds,.str x1.1.Cwd,.sl none (List.map PV.str x1.1.Notes),.str x1.1.Status,.sl (some 2) (List.map zE1 x1.1.Waits),.bool x1.1.Alone]] (zE3 x7) false from ((c63 hx7).frz (.agg (.cons (.refl _) (.cons (.refl _) (.cons (.usl _ _) .nil)))))) .nil)) ?_
 refine x_toret ?_
 obtain rfl := sj h
 exact ret0 (.tup [zE3 x7,.int .i64 0]) (.tup (.cons (.refl _) (.cons (.refl _) .nil))) (fun h => nomatch h)
theorem c64 {dir : Str} {p : Str} {r : (Str × Int)} (h : ref03_Join dir p = some r) : CallOK Tryd.prog 64 [.str dir,.str p] (.tup [.str r.1,.int .i64 r.2]) true := by
 apply ok64
 unfold ref03_Join at h
 refine x_rg (rgn [hE,hE] (⟨[(0,pS dir),(1,pS p)],[],0⟩)) ?_
 refine x_seq ?_
 obtain ⟨x1,hx1,h⟩ := bind_some h
 refine x_rgB (fun b_ => (⟨[(0,pS dir),(1,pS p),(11,pB b_)],[],0⟩ : VSt)) (x1 || (decide (dir = []))) ?_ ?_
 ·rcases bq x1 with hg2 | hg2
  ·exact rb [hE,hN (.cal [] (.bool x1) true),hE,hS,hS,hN (.pk true)] true (kc (c59 hx1) (hk3 hg2 .nil)) (by simp only [hg2,bs,reduceIte])
  exact rb [hE,hN (.cal [] (.bool x1) true),hE,hY,hY,hN (.pk false)] (decide (dir = [])) (kc (c59 hx1) (hk3 hg2 .nil)) (by simp only [hg2,bs,reduceIte])
 refine x_if h rfl (fun hc4 h => ?_) (fun hc4 h => ?_)
 ·obtain ⟨x5,hx5,h⟩ := bind_some h
  refine x_rg (rg0 [hE,hN (.cal [] (.tup [.str x5.1,.int .i64 x5.2]) true),hE,hE,hE,hE] (⟨[(4,pS x5.1),(5,pI x5.2)],[],0⟩) (kc (c58 hx5) .nil)) ?_
  refine x_toret (x_tr ?_)
  obtain rfl := sj h
  exact ret0 (.tup [.str x5.1,.int .i64 x5.2]) (.tup (.cons (.refl _) (.cons (.refl _) .nil))) (fun _ => rfl)
 refine x_kk (x_skip (x_tn ?_))
 obtain ⟨x6,hx6,h⟩ := bind_some h
 obtain ⟨x7,hx7,h⟩ := bind_some h
 obtain ⟨x8,hx8,h⟩ := bind_some h
 refine x_rg (rg0 [hE,hN (.cat x6),hE,hN (.cat x7),hN (.cal [] (.tup [.str x8.1,.int .i64 x8.2]) true),hE,hE,hE,hE] (⟨[(4,pS x8.1),(5,pI x8.2)],[],0⟩) (kc hx6 (kc hx7 (kc (c58 hx8) .nil)))) ?_
 refine x_toret ?_
 obtain rfl := sj h
 exact ret0 (.tup [.str x8.1,.int .i64 x8.2]) (.tup (.cons (.refl _) (.cons (.refl _) .nil))) (fun _ => rfl)
theorem c48 {p : api_Procs} {id : Int} {dir : Str} {r : (api_Procs × Int)} (h : ref30_Cd p id dir = some r) : CallOK Tryd.prog 48 [zE3 p,.int .i64 id,.str dir] (.tup [zE3 r.1,.int .i64 r.2]) false := by
 apply ok48
 unfold ref30_Cd at h
 refine x_rg (rgn [hE,hE,hE] (⟨[(1,pI id),(2,pS dir),oP 3 0,oP 6 1],[rP 0 3 (zE3 p),rP 1 3 gA2],2⟩)) ?_
 obtain ⟨x1,hx1,h⟩ := bind_some h
 refine x_rg (rg0 [hE,hE,hN (.cal [] (.tup [zE2 x1.1,.bool x1.2]) false),hE,hE,hE,hE,hE,hE] (⟨[(2,pS dir),oP 3 0,oP 6 1,oP 8 2,(9,pB x1.2)],[rP 0 3 (zE3 p),rP 1 3 gA2,rP 2 13 (zE2 x1.1)],3⟩) (kc (c14 hx1) .nil)) ?_
 refine x_seq ?_
 refine x_rg (rgn [hE,hE] (⟨[(2,pS dir),oP 3 0,oP 6 1,oP 8 2,(19,pB (!x1.2))],[rP 0 3 (zE3 p),rP 1 3 gA2,rP 2 13 (zE2 x1.1)],3⟩)) ?_
 refine x_if h rfl (fun hc2 h => ?_) (fun hc2 h => ?_)
 ·refine x_rg (rgn [hE,hE,hE] (⟨[oP 6 0,(7,pI 42)],[rP 0 3 (zE3 p)],1⟩)) ?_
  refine x_toret (x_tr ?_)
  obtain rfl := sj h
  exact ret0 (.tup [zE3 p,.int .i64 42]) (.tup (.cons (.refl _) (.cons (.refl _) .nil))) (fun h => nomatch h)
 refine x_kk (x_skip (x_tn ?_))
 obtain ⟨x3,hx3,h⟩ := bind_some h
 refine x_rg (rg0 [hE,hE,hE,hN (.cal [] (.tup [.str x3.1,.int .i64 x3.2]) true),hE,hE,hE,hE,hE] (⟨[oP 3 0,oP 6 1,oP 8 2,(10,pS x3.1),(11,pI x3.2)],[rP 0 3 (zE3 p),rP 1 3 gA2,rP 2 13 (zE2 x1.1)],3⟩) (kc (c64 hx3) .nil)) ?_
 refine x_seq ?_
 refine x_rg (rgn [hE,hE] (⟨[oP 3 0,oP 6 1,oP 8 2,(10,pS x3.1),(11,pI x3.2),(29,pB (!decide (x3.2 = 0)))],[rP 0 3 (zE3 p),rP 1 3 gA2,rP 2 13 (zE2 x1.1)],3⟩)) ?_
 refine x_if h rfl (fun hc4 h => ?_) (fun hc4 h => ?_)
 ·refine x_rg (rgn [hE,hE,hE,hE] (⟨[oP 6 0,(7,pI x3.2)],[rP 0 3 (zE3 p)],1⟩)) ?_
  refine x_toret (x_tr ?_)
  obtain rfl := sj h
  exact ret0 (.tup [zE3 p,.int .i64 x3.2]) (.tup (.cons (.refl _) (.cons (.refl _) .nil))) (fun h => nomatch h)
 refine x_kk (x_skip (x_tn ?_))
 refine x_rg (rgn [hE,hE,hE] (⟨[oP 3 0,oP 6 1,oP 8 2],[rP 0 3 (zE3 p),rP 1 3 gA2,rP 2 13 (.agg [.int .i64 x1.1.Id,.int .i64 x1.1.Parent,.int .i64 x1.1.State,.str x1.1.User,.str x1.1.Name,.int .i64 x1.1.Ns,.int .i64 x1.1.Env,.int .i64 x1.1.Fds,.str x3.1,.sl none (List.map PV.str x1.1.Notes),.str x1.1.Status,.sl (some 2) (List.map zE1 x1.1.Waits),.bool x1.1.Alone])],3⟩)) ?_
 obtain ⟨x5,hx5,h⟩ := bind_some h
 refine x_rg (rg0 [hE,hE,hN (.cal [] (zE3 x5) false),hE,hE] (⟨[oP 6 0,(7,pI 0)],[rP 0 3 (zE3 x5)],1⟩) (kc (show CallOK Tryd.prog 63 [zE3 p,.agg [.int .i64 x1.1.Id,.int .i64 x1.1.Parent,.int .i64 x1.1.State,.str x1.1.User,.str x1.1.Name,.int .i64 x1.1.Ns,.int .i64 x1.1.Env,.int .i64 x1.1.Fds,.str x3.1,.sl none (List.map PV.str x1.1.Notes),.str x1.1.Status,.sl (some 2) (List.map zE1 x1.1.Waits),.bool x1.1.Alone]] (zE3 x5) false from ((c63 hx5).frz (.agg (.cons (.refl _) (.cons (.refl _) (.cons (.usl _ _) .nil)))))) .nil)) ?_
 refine x_toret ?_
 obtain rfl := sj h
 exact ret0 (.tup [zE3 x5,.int .i64 0]) (.tup (.cons (.refl _) (.cons (.refl _) .nil))) (fun h => nomatch h)
theorem c22 {p : api_Procs} {o : law30_Op} {r : (api_Procs × law30_result)} (h : law30_want p o = some r) : CallOK Tryd.prog 22 [zE3 p,zE4 o] (.tup [zE3 r.1,zE5 r.2]) false := by
 apply ok22
 unfold law30_want at h
 refine x_rg (rgn [hE,hE,hE,hE] (⟨[oP 2 0,oP 3 1,oP 4 2,oP 5 3],[rP 0 3 (zE3 p),rP 1 4 (zE4 o),rP 2 3 gA2,rP 3 7 gA16],4⟩)) ?_
 refine x_rg (rgn [hE,hE,hE] (⟨[oP 2 0,oP 3 1,oP 4 2,oP 5 3,oP 6 4],[rP 0 3 (zE3 p),rP 1 4 (zE4 o),rP 2 3 gA2,rP 3 7 gA16,rP 4 7 gA16],5⟩)) ?_
 refine x_join (τ := (api_Procs × law30_result)) (fun t => law30_want_K1 t.1 t.2 = some r) (fun t => { tm := [oP 2 0,oP 4 1,oP 5 2,oP 6 3],hp := [rP 0 3 (zE3 t.1),rP 1 3 gA2,rP 2 7 gA16,rP 3 7 (zE5 t.2)],nx := 4 }) ?_ ?_
 ·rintro ⟨p2,p3⟩ h
  replace h : law30_want_K1 p2 p3 = some r := h
  unfold law30_want_K1 at h
  refine x_rg (rgn [hE,hE,hE,hE] (⟨[oP 4 0,oP 5 1],[rP 0 3 (zE3 p2),rP 1 7 (zE5 p3)],2⟩)) ?_
  refine x_toret ?_
  obtain rfl := sj h
  exact ret0 (.tup [zE3 p2,zE5 p3]) (.tup (.cons (.refl _) (.cons (.refl _) .nil))) (fun h => nomatch h)
 refine x_rg (rgn [hE,hE] (⟨[oP 2 0,oP 3 1,oP 4 2,oP 5 3,oP 6 4,(9,pI o.Kind)],[rP 0 3 (zE3 p),rP 1 4 (zE4 o),rP 2 3 gA2,rP 3 7 gA16,rP 4 7 gA16],5⟩)) ?_
 refine x_block ?_
 refine x_rg (rgn [hE,hE] (⟨[oP 2 0,oP 3 1,oP 4 2,oP 5 3,oP 6 4,(9,pI o.Kind),(20,pB (decide (o.Kind = 1)))],[rP 0 3 (zE3 p),rP 1 4 (zE4 o),rP 2 3 gA2,rP 3 7 gA16,rP 4 7 gA16],5⟩)) ?_
 refine x_if h rfl (fun hc4 h => ?_) (fun hc4 h => ?_)
 ·obtain ⟨x5,hx5,h⟩ := bind_some h
  refine x_rgt (rg0 [hE,hE,hE,hE,hE,hN (.cal [] (.tup [zE3 x5.1,.int .i64 x5.2.1,.int .i64 x5.2.2]) false),hE,hE,hE,hE,hE,hE,hE,hE,hE] (⟨[oP 2 0,oP 4 1,oP 5 2,oP 6 3],[rP 0 3 (zE3 x5.1),rP 1 3 gA2,rP 2 7 gA16,rP 3 7 (.agg [.int .i64 x5.2.1,.int .i64 0,.str [],.str [],.bool false,.int .i64 x5.2.2,.bool false])],4⟩) (kc (c42 hx5) .nil)) ?_
  refine x_bn (x_tn ?_)
  exact ⟨(x5.1,(law30_result.mk x5.2.1 (api_Wait.mk 0 []) [] false x5.2.2 false)),h,by kernel_rfl⟩
 refine x_rg (rgn [hE,hE] (⟨[oP 2 0,oP 3 1,oP 4 2,oP 5 3,oP 6 4,(9,pI o.Kind),(34,pB (decide (o.Kind = 2)))],[rP 0 3 (zE3 p),rP 1 4 (zE4 o),rP 2 3 gA2,rP 3 7 gA16,rP 4 7 gA16],5⟩)) ?_
 refine x_if h rfl (fun hc6 h => ?_) (fun hc6 h => ?_)
 ·obtain ⟨x7,hx7,h⟩ := bind_some h
  refine x_rgt (rg0 [hE,hE,hE,hE,hE,hN (.cal [] (.tup [zE3 x7.1,.int .i64 x7.2]) false),hE,hE,hE,hE,hE,hE] (⟨[oP 2 0,oP 4 1,oP 5 2,oP 6 3],[rP 0 3 (zE3 x7.1),rP 1 3 gA2,rP 2 7 gA16,rP 3 7 (.agg [.int .i64 0,.int .i64 0,.str [],.str [],.bool false,.int .i64 x7.2,.bool false])],4⟩) (kc (c43 hx7) .nil)) ?_
  refine x_bn (x_tn ?_)
  exact ⟨(x7.1,(law30_result.mk 0 (api_Wait.mk 0 []) [] false x7.2 false)),h,by kernel_rfl⟩
 refine x_rg (rgn [hE,hE] (⟨[oP 2 0,oP 3 1,oP 4 2,oP 5 3,oP 6 4,(9,pI o.Kind),(46,pB (decide (o.Kind = 3)))],[rP 0 3 (zE3 p),rP 1 4 (zE4 o),rP 2 3 gA2,rP 3 7 gA16,rP 4 7 gA16],5⟩)) ?_
 refine x_if h rfl (fun hc8 h => ?_) (fun hc8 h => ?_)
 ·obtain ⟨x9,hx9,h⟩ := bind_some h
  refine x_rgt (rg0 [hE,hE,hE,hN (.cal [] (.tup [zE3 x9.1,zE1 x9.2.1,.bool x9.2.2.1,.int .i64 x9.2.2.2]) false),hE,hE,hE,hE,hE,hE,hE,hE,hE,hE,hE,hE] (⟨[oP 2 0,oP 4 1,oP 5 2,oP 6 3],[rP 0 3 (zE3 x9.1),rP 1 3 gA2,rP 2 7 gA16,rP 3 7 (.agg [.int .i64 0,.int .i64 x9.2.1.Id,.str x9.2.1.Status,.str [],.bool x9.2.2.1,.int .i64 x9.2.2.2,.bool false])],4⟩) (kc (c44 hx9) .nil)) ?_
  refine x_bn (x_tn ?_)
  exact ⟨(x9.1,(law30_result.mk 0 x9.2.1 [] x9.2.2.1 x9.2.2.2 false)),h,by kernel_rfl⟩
 refine x_rg (rgn [hE,hE] (⟨[oP 2 0,oP 3 1,oP 4 2,oP 5 3,oP 6 4,(9,pI o.Kind),(60,pB (decide (o.Kind = 4)))],[rP 0 3 (zE3 p),rP 1 4 (zE4 o),rP 2 3 gA2,rP 3 7 gA16,rP 4 7 gA16],5⟩)) ?_
 refine x_if h rfl (fun hc10 h => ?_) (fun hc10 h => ?_)
 ·obtain ⟨x11,hx11,h⟩ := bind_some h
  refine x_rgt (rg0 [hE,hE,hE,hE,hE,hN (.cal [] (.tup [zE3 x11.1,.int .i64 x11.2]) false),hE,hE,hE,hE,hE,hE] (⟨[oP 2 0,oP 4 1,oP 5 2,oP 6 3],[rP 0 3 (zE3 x11.1),rP 1 3 gA2,rP 2 7 gA16,rP 3 7 (.agg [.int .i64 0,.int .i64 0,.str [],.str [],.bool false,.int .i64 x11.2,.bool false])],4⟩) (kc (c45 hx11) .nil)) ?_
  refine x_bn (x_tn ?_)
  exact ⟨(x11.1,(law30_result.mk 0 (api_Wait.mk 0 []) [] false x11.2 false)),h,by kernel_rfl⟩
 refine x_rg (rgn [hE,hE] (⟨[oP 2 0,oP 3 1,oP 4 2,oP 5 3,oP 6 4,(9,pI o.Kind),(72,pB (decide (o.Kind = 5)))],[rP 0 3 (zE3 p),rP 1 4 (zE4 o),rP 2 3 gA2,rP 3 7 gA16,rP 4 7 gA16],5⟩)) ?_
 refine x_if h rfl (fun hc12 h => ?_) (fun hc12 h => ?_)
 ·obtain ⟨x13,hx13,h⟩ := bind_some h
  refine x_rgt (rg0 [hE,hE,hE,hN (.cal [] (.tup [zE3 x13.1,.str x13.2.1,.bool x13.2.2.1,.int .i64 x13.2.2.2]) false),hE,hE,hE,hE,hE,hE,hE,hE,hE,hE,hE,hE] (⟨[oP 2 0,oP 4 1,oP 5 2,oP 6 3],[rP 0 3 (zE3 x13.1),rP 1 3 gA2,rP 2 7 gA16,rP 3 7 (.agg [.int .i64 0,.int .i64 0,.str [],.str x13.2.1,.bool x13.2.2.1,.int .i64 x13.2.2.2,.bool false])],4⟩) (kc (c46 hx13) .nil)) ?_
  refine x_bn (x_tn ?_)
  exact ⟨(x13.1,(law30_result.mk 0 (api_Wait.mk 0 []) x13.2.1 x13.2.2.1 x13.2.2.2 false)),h,by kernel_rfl⟩
 refine x_rg (rgn [hE,hE] (⟨[oP 2 0,oP 3 1,oP 4 2,oP 5 3,oP 6 4,(86,pB (decide (o.Kind = 6)))],[rP 0 3 (zE3 p),rP 1 4 (zE4 o),rP 2 3 gA2,rP 3 7 gA16,rP 4 7 gA16],5⟩)) ?_
 refine x_if h rfl (fun hc14 h => ?_) (fun hc14 h => ?_)
 ·obtain ⟨x15,hx15,h⟩ := bind_some h
  refine x_rgt (rg0 [hE,hE,hE,hE,hE,hN (.cal [] (.tup [zE3 x15.1,.int .i64 x15.2]) false),hE,hE,hE,hE,hE,hE] (⟨[oP 2 0,oP 4 1,oP 5 2,oP 6 3],[rP 0 3 (zE3 x15.1),rP 1 3 gA2,rP 2 7 gA16,rP 3 7 (.agg [.int .i64 0,.int .i64 0,.str [],.str [],.bool false,.int .i64 x15.2,.bool false])],4⟩) (kc (c47 hx15) .nil)) ?_
  refine x_bn (x_tn ?_)
  exact ⟨(x15.1,(law30_result.mk 0 (api_Wait.mk 0 []) [] false x15.2 false)),h,by kernel_rfl⟩
 obtain ⟨x16,hx16,h⟩ := bind_some h
 refine x_rgt (rg0 [hE,hE,hE,hE,hE,hN (.cal [] (.tup [zE3 x16.1,.int .i64 x16.2]) false),hE,hE,hE,hE,hE,hE] (⟨[oP 2 0,oP 4 1,oP 5 2,oP 6 3],[rP 0 3 (zE3 x16.1),rP 1 3 gA2,rP 2 7 gA16,rP 3 7 (.agg [.int .i64 0,.int .i64 0,.str [],.str [],.bool false,.int .i64 x16.2,.bool false])],4⟩) (kc (c48 hx16) .nil)) ?_
 refine x_bn (x_tn ?_)
 exact ⟨(x16.1,(law30_result.mk 0 (api_Wait.mk 0 []) [] false x16.2 false)),h,by kernel_rfl⟩
theorem c7 {p : api_Procs} {o : law30_Op} {r : Bool} (h : law30_ProcCalls p o = some r) : CallOK Tryd.prog 7 [zE3 p,zE4 o] (.bool r) true := by
 apply ok7
 unfold law30_ProcCalls at h
 refine x_rg (rgn [hE,hE,hE] (⟨[oP 2 0,oP 3 1],[rP 0 3 (zE3 p),rP 1 4 (zE4 o)],2⟩)) ?_
 refine x_seq ?_
 obtain ⟨x1,hx1,h⟩ := bind_some h
 obtain ⟨t5,ht,h⟩ := bind_some h
 refine x_rgB (fun b_ => (⟨[oP 2 0,oP 3 1,(22,pB b_)],[rP 0 3 (zE3 p),rP 1 4 (zE4 o)],2⟩ : VSt)) t5 ?_ ?_
 ·rcases bq (!x1) with hg2 | hg2
  ·replace ht := ite_t ht hg2
   obtain rfl := sj ht
   exact rb [hE,hN (.cal [] (.bool x1) true),hE,hE,hS,hS,hS,hS,hN (.pk true),hE,hS,hS,hS,hE] true (kc (c12 hx1) (hk5 hg2 (hk3 tt .nil))) rfl
  replace ht := ite_f ht hg2
  rcases bq (decide (1100 < (List.length o.Text : Int))) with hg3 | hg3
  ·replace ht := ite_t ht hg3
   obtain rfl := sj ht
   exact rb [hE,hN (.cal [] (.bool x1) true),hE,hE,hY,hY,hY,hY,hN (.pk false),hE,hS,hS,hS,hN (.pk true)] true (kc (c12 hx1) (hk5 hg2 (hk4 hg3 .nil))) rfl
  replace ht := ite_f ht hg3
  obtain ⟨x4,hx4,ht⟩ := bind_some ht
  obtain rfl := sj ht
  exact rb [hE,hN (.cal [] (.bool x1) true),hE,hE,hY,hY,hY,hY,hN (.pk false),hE,hY,(.y,(.cal [] (.bool x4) true)),hY,hN (.pk false)] (!x4) (kc (c12 hx1) (hk5 hg2 (hk2 hg3 (kc (c16 hx4) (hk2 hg3 .nil))))) rfl
 clear ht
 refine x_if h rfl (fun hc6 h => ?_) (fun hc6 h => ?_)
 ·obtain ⟨x7,hx7,h⟩ := bind_some h
  refine x_rg (rg0 [hN (.cal [] (.bool x7) true),hE] (⟨[(4,pB x7)],[],0⟩) (kc (c8 hx7) .nil)) ?_
  refine x_toret (x_tr ?_)
  obtain rfl := sj h
  exact ret0 (.bool x7) (.refl _) (fun _ => rfl)
 refine x_kk (x_skip (x_tn ?_))
 obtain ⟨x8,hx8,h⟩ := bind_some h
 refine x_rg (rg0 [hE,hE,hN (.cal [] (.tup [(gA1 x8.1),zE5 x8.2]) false),hE,hE,hE,hE,hE,hE,hE] (⟨[oP 2 0,oP 3 1,oP 5 2,oP 6 4],[rP 0 3 (zE3 p),rP 1 4 (zE4 o),rH 2 3 (gA7 x8.1 3),(3,rL (some 13) zE2 x8.1.L),rP 4 7 (zE5 x8.2)],5⟩) (kc (c21 hx8) .nil)) ?_
 obtain ⟨x9,hx9,h⟩ := bind_some h
 refine x_rg (rg0 [hE,hE,hN (.cal [] (.tup [zE3 x9.1,zE5 x9.2]) false),hE,hE,hE,hE,hE,hE,hE] (⟨[oP 5 0,oP 6 2,oP 7 3,oP 8 4],[rH 0 3 (gA7 x8.1 1),(1,rL (some 13) zE2 x8.1.L),rP 2 7 (zE5 x8.2),rP 3 3 (zE3 x9.1),rP 4 7 (zE5 x9.2)],5⟩) (kc (c22 hx9) .nil)) ?_
 obtain ⟨x10,hx10,h⟩ := bind_some h
 obtain ⟨t16,ht,h⟩ := bind_some h
 refine x_rgB (fun b_ => (⟨[(4,pB b_)],[],0⟩ : VSt)) t16 ?_ ?_
 ·rcases bq x10 with hg11 | hg11
  ·replace ht := ite_t ht hg11
   rcases bq (decide (x8.2.N = x9.2.N) && (decide (x8.2.W.Id = x9.2.W.Id) && (decide (x8.2.W.Status = x9.2.W.Status) && (decide (x8.2.S = x9.2.S) && (decide (x8.2.Ok = x9.2.Ok) && (decide (x8.2.Err = x9.2.Err) && (decide (x8.2.None = x9.2.None) && true))))))) with hg12 | hg12
   ·replace ht := ite_t ht hg12
    obtain ⟨x13,hx13,ht⟩ := bind_some ht
    rcases bq x13 with hg14 | hg14
    ·replace ht := ite_t ht hg14
     obtain ⟨x15,hx15,ht⟩ := bind_some ht
     obtain rfl := sj ht
     exact rb [hE,hE,hN (.call [] [(gA8 x8.1),zE3 x9.1] (.bool x10) true),hE,hY,hY,hY,hN (.pk true),hE,hY,(.y,(.call [] [(gA8 x8.1)] (.bool x13) true)),hN (.pk true),hE,(.y,(.cal [] (.bool x15) true)),hN (.pk true),hE] x15 (kc (show LesA [(gA9 x8.1),zE3 x9.1] [(gA8 x8.1),zE3 x9.1] from (.cons (.agg (.cons (.refl _) (.cons (.refl _) (.cons (.of_eq (by rw [List.drop_zero,List.take_length])) .nil)))) (.cons (.refl _) .nil))) (kc (c11 hx10) (kc (le0 (List.map zE2 x8.1.L)) (hk4 hg11 (hk2 hg12 (kc (show LesA [(gA9 x8.1)] [(gA8 x8.1)] from (.cons (.agg (.cons (.refl _) (.cons (.refl _) (.cons (.of_eq (by rw [List.drop_zero,List.take_length])) .nil)))) .nil)) (kc (c15 hx13) (kc (le0 (List.map zE2 x8.1.L)) (kc hg12 (kc hg14 (kc (c8 hx15) (kc hg14 .nil)))))))))))) rfl
    replace ht := ite_f ht hg14
    obtain rfl := sj ht
    exact rb [hE,hE,hN (.call [] [(gA8 x8.1),zE3 x9.1] (.bool x10) true),hE,hY,hY,hY,hN (.pk true),hE,hY,(.y,(.call [] [(gA8 x8.1)] (.bool x13) true)),hN (.pk true),hE,hS,hN (.pk false),hE] false (kc (show LesA [(gA9 x8.1),zE3 x9.1] [(gA8 x8.1),zE3 x9.1] from (.cons (.agg (.cons (.refl _) (.cons (.refl _) (.cons (.of_eq (by rw [List.drop_zero,List.take_length])) .nil)))) (.cons (.refl _) .nil))) (kc (c11 hx10) (kc (le0 (List.map zE2 x8.1.L)) (hk4 hg11 (hk2 hg12 (kc (show LesA [(gA9 x8.1)] [(gA8 x8.1)] from (.cons (.agg (.cons (.refl _) (.cons (.refl _) (.cons (.of_eq (by rw [List.drop_zero,List.take_length])) .nil)))) .nil)) (kc (c15 hx13) (kc (le0 (List.map zE2 x8.1.L)) (kc hg12 (hk2 hg14 .nil)))))))))) rfl
   replace ht := ite_f ht hg12
   obtain rfl := sj ht
   exact rb [hE,hE,hN (.call [] [(gA8 x8.1),zE3 x9.1] (.bool x10) true),hE,hY,hY,hY,hN (.pk true),hE,hS,hS,hN (.pk false),hE,hS,hE,hE] false (kc (show LesA [(gA9 x8.1),zE3 x9.1] [(gA8 x8.1),zE3 x9.1] from (.cons (.agg (.cons (.refl _) (.cons (.refl _) (.cons (.of_eq (by rw [List.drop_zero,List.take_length])) .nil)))) (.cons (.refl _) .nil))) (kc (c11 hx10) (kc (le0 (List.map zE2 x8.1.L)) (hk4 hg11 (hk3 hg12 (kc ff .nil)))))) rfl
  replace ht := ite_f ht hg11
  obtain rfl := sj ht
  exact rb [hE,hE,hN (.call [] [(gA8 x8.1),zE3 x9.1] (.bool x10) true),hE,hS,hS,hS,hN (.pk false),hE,hS,hS,hE,hE,hS,hE,hE] false (kc (show LesA [(gA9 x8.1),zE3 x9.1] [(gA8 x8.1),zE3 x9.1] from (.cons (.agg (.cons (.refl _) (.cons (.refl _) (.cons (.of_eq (by rw [List.drop_zero,List.take_length])) .nil)))) (.cons (.refl _) .nil))) (kc (c11 hx10) (kc (le0 (List.map zE2 x8.1.L)) (hk4 hg11 (hk3 ff .nil))))) rfl
 clear ht
 refine x_toret ?_
 obtain rfl := sj h
 exact ret0 (.bool t16) (.refl _) (fun _ => rfl)
end Go.Proofs.YtfaobpifaobobaaDoor
