import Derived.Test.YtgmlbldjdhonjaaDoorC
import Derived.Test.YtgmlbldjdhonjaaDoorS
import Derived.Test.YtgmlbldjdhonjaaDoorShelf
import Derived.Test.YtgmlbldjdhonjaaDoorVmB
import Derived.Test.YtgmlbldjdhonjaaDoorVmI
namespace Go.Proofs.YtgmlbldjdhonjaaDoor
open Go.Vm
set_option autoImplicit false
set_option linter.unusedVariables false
set_option linter.unusedSimpArgs false
set_option maxRecDepth 100000
theorem c20 {p : api_Procs} {id : Int} {r : ((List api_Dir) × Int)} (h : procfs_List p id = some r) : CallOK Tryd.prog 20 [zE3 p,.int .i64 id] (.tup [.usl (some 13) (List.map zE5 r.1),.int .i64 r.2]) true := by
 apply ok20
 unfold procfs_List at h
 refine x_rg (rgn [hE,hE,hE] (⟨[(1,pI id),oP 2 0],[rP 0 3 (zE3 p)],1⟩)) ?_
 obtain ⟨x1,hx1,h⟩ := bind_some h
 refine x_rg (rg0 [hE,hE,hN (.cal [] (.tup [(gA3 x1.1),.int .i64 x1.2.1,.bool x1.2.2]) true),hE,hE,hE,hE,hE,hE,hE,hE] (⟨[(1,pI id),oP 2 0,(7,pI x1.2.1),(8,pB x1.2.2)],[rP 0 3 (zE3 p)],1⟩) (kc (c31 hx1) .nil)) ?_
 refine x_seq ?_
 refine x_rg (rgn [hE,hE] (⟨[(1,pI id),oP 2 0,(7,pI x1.2.1),(22,pB (!x1.2.2))],[rP 0 3 (zE3 p)],1⟩)) ?_
 refine x_if h rfl (fun hc2 h => ?_) (fun hc2 h => ?_)
 ·refine x_rg (rgn [hE,hE] (⟨[(4,.pv (.nilsl)),(5,pI 8)],[],0⟩)) ?_
  refine x_toret (x_tr ?_)
  obtain rfl := sj h
  exact ret0 (.tup [.nilsl,.int .i64 8]) (.tup (.cons (.nilUsl _) (.cons (.refl _) .nil))) (fun _ => tup_ns (.cons (usl_ns (sh := (some 13)) (fun _ => rfl)) (.cons rfl .nil)))
 refine x_kk (x_skip (x_tn (x_seq ?_)))
 refine x_rg (rgn [hE,hE] (⟨[(1,pI id),oP 2 0,(24,pB (!decide (x1.2.1 = 0)))],[rP 0 3 (zE3 p)],1⟩)) ?_
 refine x_if h rfl (fun hc3 h => ?_) (fun hc3 h => ?_)
 ·refine x_rg (rgn [hE,hE] (⟨[(4,.pv (.nilsl)),(5,pI 9)],[],0⟩)) ?_
  refine x_toret (x_tr ?_)
  obtain rfl := sj h
  exact ret0 (.tup [.nilsl,.int .i64 9]) (.tup (.cons (.nilUsl _) (.cons (.refl _) .nil))) (fun _ => tup_ns (.cons (usl_ns (sh := (some 13)) (fun _ => rfl)) (.cons rfl .nil)))
 refine x_kk (x_skip (x_tn ?_))
 refine x_rg (st2 := { tm := [(1,.pv (.int .i64 id)),oP 2 0,(9,.osl 1 0 (List.map zE5 ([] : List api_Dir)).length)],hp := [rP 0 3 (zE3 p),(1,some (.p (some 13) (List.map zE5 ([] : List api_Dir))))],nx := 2 }) (rg [hE] ({ tm := [(1,.pv (.int .i64 id)),oP 2 0,(9,.pv (.nilsl))],hp := [rP 0 3 (zE3 p)],nx := 1 }) .nil ((Sub.keep (ks := [1,2,9]) (st := ownSt 9 (some 13) ({ tm := [(1,.pv (.int .i64 id)),oP 2 0,(9,.pv (.nilsl))],hp := [rP 0 3 (zE3 p)],nx := 1 })) (st' := { tm := [(1,.pv (.int .i64 id)),oP 2 0,(9,.osl 1 0 (List.map zE5 ([] : List api_Dir)).length)],hp := [rP 0 3 (zE3 p),(1,some (.p (some 13) (List.map zE5 ([] : List api_Dir))))],nx := 2 }) (by kernel_rfl)).trans (own_sound 9 (some 13) ({ tm := [(1,.pv (.int .i64 id)),oP 2 0,(9,.pv (.nilsl))],hp := [rP 0 3 (zE3 p)],nx := 1 })))) ?_
 refine x_seq ?_
 obtain ⟨x4,hx4,h⟩ := bind_some h
 refine x_rg (rg0 [hE,hE,hN (.cal [] (.usl none (List.map (PV.int .i64) x4)) true),hN (.len (List.length x4 : Int)),hE] (⟨[oP 2 0,(9,oL 1 zE5 ([] : List api_Dir)),(27,oL 2 (PV.int .i64) x4),(28,pI (List.length x4 : Int)),(29,pI 0)],[rP 0 3 (zE3 p),(1,rL (some 13) zE5 ([] : List api_Dir)),(2,rL none (PV.int .i64) x4)],3⟩) (kc (c41 hx4) (kc (lenM (PV.int .i64) x4) .nil))) ?_
 refine x_block ?_
 refine kw0 (⟨[oP 2 0,(9,oL 1 zE5 ([] : List api_Dir)),(27,oL 2 (PV.int .i64) x4),(28,pI (List.length x4 : Int)),(29,pI 0)],[rP 0 3 (zE3 p),(1,rL (some 13) zE5 ([] : List api_Dir)),(2,rL none (PV.int .i64) x4)],3⟩) ?_
 refine x_loop (σ := (Int × (List api_Dir))) h (fun s => ⟨[oP 2 0,(9,oL 1 zE5 s.2),(27,oL 2 (PV.int .i64) x4),(28,pI (List.length x4 : Int)),(29,pI s.1)],[rP 0 3 (zE3 p),(1,rL (some 13) zE5 s.2),(2,rL none (PV.int .i64) x4)],3⟩) (by kernel_rfl) ?_ ?_
 ·rintro ⟨v9,out⟩
  kernel_rfl
 rintro ⟨v9,out⟩ x11 h hx11
 replace h : procfs_List_L11 p x4 v9 out = some x11 := h
 unfold procfs_List_L11 at h
 refine x_rg (rgn [hE] (⟨[oP 2 0,(9,oL 1 zE5 out),(27,oL 2 (PV.int .i64) x4),(28,pI (List.length x4 : Int)),(29,pI v9),(30,pB (decide (v9 < (List.length x4 : Int))))],[rP 0 3 (zE3 p),(1,rL (some 13) zE5 out),(2,rL none (PV.int .i64) x4)],3⟩)) ?_
 refine x_seq ?_
 refine x_if h rfl (fun hc12 h => ?_) (fun hc12 h => ?_)
 ·refine x_kk (x_skip (x_tn (x_seq (x_block ?_))))
  obtain ⟨x13,hx13,h⟩ := bind_some h
  refine x_rg (rg0 [hN .rAt,hN (.ld (.int .i64 x13)),hE] (⟨[oP 2 0,(9,oL 1 zE5 out),(11,pI x13),(27,oL 2 (PV.int .i64) x4),(28,pI (List.length x4 : Int)),(29,pI v9)],[rP 0 3 (zE3 p),(1,rL (some 13) zE5 out),(2,rL none (PV.int .i64) x4)],3⟩) (kc (rAtM (f := (PV.int .i64)) hx13) (kc (ownAt (f := (PV.int .i64)) hx13) .nil))) ?_
  obtain ⟨x14,hx14,h⟩ := bind_some h
  refine x_rg (rg0 [hE,hE,hN (.cal [] (.tup [zE5 x14.1,.int .i64 x14.2]) true),hE,hE,hE,hE,hE,hE] (⟨[oP 2 0,(9,oL 1 zE5 out),oP 12 2,(27,oL 3 (PV.int .i64) x4),(28,pI (List.length x4 : Int)),(29,pI v9)],[rP 0 3 (zE3 p),(1,rL (some 13) zE5 out),rP 2 13 (zE5 x14.1),(3,rL none (PV.int .i64) x4)],4⟩) (kc (c18 hx14) .nil)) ?_
  obtain ⟨x15,hx15,h⟩ := bind_some h
  refine x_rgt (rg0 [hE,hE,hE,hN (.app (List.map zE5 x15)),hE] (⟨[oP 2 0,(9,oL 1 zE5 x15),(27,oL 2 (PV.int .i64) x4),(28,pI (List.length x4 : Int)),(29,pI v9)],[rP 0 3 (zE3 p),(1,rL (some 13) zE5 x15),(2,rL none (PV.int .i64) x4)],3⟩) (kc (show List.take (List.map zE5 out).length (List.map zE5 out) ++ List.take 1 (List.drop 0 ([zE5 x14.1] : List PV)) = (List.map zE5 x15) from (app_ob hx15 (.all _) (.rfl _))) (kc (show List.length (List.map zE5 x15) * 136 ≤ 140737488355328 from (by rw [List.length_map]; exact (appL_ok hx15).2.1)) (kc (show List.length (List.map zE5 x15) ≤ 9223372036854775807 from (by rw [List.length_map]; exact (appL_ok hx15).2.2)) (kc (le1 (List.map zE5 out)) (kc (show 0 + 1 ≤ List.length ([zE5 x14.1] : List PV) from (by simp)) .nil)))))) ?_
  refine x_bn (x_tn ?_)
  refine x_rgt (rgn [hE,hE] (⟨[oP 2 0,(9,oL 1 zE5 x15),(27,oL 2 (PV.int .i64) x4),(28,pI (List.length x4 : Int)),(29,pI (IntKind.wrap .i64 (v9 + 1)))],[rP 0 3 (zE3 p),(1,rL (some 13) zE5 x15),(2,rL none (PV.int .i64) x4)],3⟩)) ?_
  refine x_tn ?_
  exact ⟨_,(sj h).symm,by kernel_rfl⟩
 refine kw0 (⟨[(9,oL 0 zE5 out)],[(0,rL (some 13) zE5 out)],1⟩) ?_
 refine x_exit ?_
 refine x_te (x_te ?_)
 replace h := done_leaf h hx11
 refine x_bh ?_
 refine x_tn ?_
 refine x_rg (rgn [hE,hE,hE] (⟨[(4,oL 0 zE5 out),(5,pI 0)],[(0,rL (some 13) zE5 out)],1⟩)) ?_
 refine x_toret ?_
 obtain rfl := sj h
 exact x_ret (.tup [.usl (some 13) (List.take (List.map zE5 out).length (List.map zE5 out)),.int .i64 0]) [0] [(List.map zE5 out).length ≤ List.length (List.map zE5 out)] (by kernel_rfl) (.cons (Nat.le_refl _) .nil) (by decide) (.tup (.cons (.of_eq (by rw [List.take_length])) (.cons (.refl _) .nil))) (fun _ => tup_ns (.cons (usl_ns (sh := (some 13)) (fun _ => rfl)) (.cons rfl .nil)))
theorem c21 {p : api_Procs} {id : Int} {r : ((List api_Dir) × Int)} (h : ref31_List p id = some r) : CallOK Tryd.prog 21 [zE3 p,.int .i64 id] (.tup [.usl (some 13) (List.map zE5 r.1),.int .i64 r.2]) true := by
 apply ok21
 unfold ref31_List at h
 refine x_rg (rgn [hE,hE,hE] (⟨[(1,pI id),oP 2 0],[rP 0 3 (zE3 p)],1⟩)) ?_
 refine x_seq ?_
 obtain ⟨x1,hx1,h⟩ := bind_some h
 refine x_rg (rg0 [hE,hE,hN (.cal [] (.bool x1) true),hE] (⟨[(1,pI id),oP 2 0,(16,pB (!x1))],[rP 0 3 (zE3 p)],1⟩) (kc (c34 hx1) .nil)) ?_
 refine x_if h rfl (fun hc2 h => ?_) (fun hc2 h => ?_)
 ·refine x_rg (rgn [hE,hE] (⟨[(4,.pv (.nilsl)),(5,pI 8)],[],0⟩)) ?_
  refine x_toret (x_tr ?_)
  obtain rfl := sj h
  exact ret0 (.tup [.nilsl,.int .i64 8]) (.tup (.cons (.nilUsl _) (.cons (.refl _) .nil))) (fun _ => tup_ns (.cons (usl_ns (sh := (some 13)) (fun _ => rfl)) (.cons rfl .nil)))
 refine x_kk (x_skip (x_tn (x_seq ?_)))
 obtain ⟨x3,hx3,h⟩ := bind_some h
 refine x_rg (rg0 [hE,hN (.cal [] (.bool x3) true),hE] (⟨[(1,pI id),oP 2 0,(19,pB (!x3))],[rP 0 3 (zE3 p)],1⟩) (kc (c37 hx3) .nil)) ?_
 refine x_if h rfl (fun hc4 h => ?_) (fun hc4 h => ?_)
 ·refine x_rg (rgn [hE,hE] (⟨[(4,.pv (.nilsl)),(5,pI 9)],[],0⟩)) ?_
  refine x_toret (x_tr ?_)
  obtain rfl := sj h
  exact ret0 (.tup [.nilsl,.int .i64 9]) (.tup (.cons (.nilUsl _) (.cons (.refl _) .nil))) (fun _ => tup_ns (.cons (usl_ns (sh := (some 13)) (fun _ => rfl)) (.cons rfl .nil)))
 refine x_kk (x_skip (x_tn ?_))
 refine x_rg (st2 := { tm := [(1,.pv (.int .i64 id)),oP 2 0,(6,.osl 1 0 (List.map (PV.int .i64) ([] : List Int)).length)],hp := [rP 0 3 (zE3 p),(1,some (.p none (List.map (PV.int .i64) ([] : List Int))))],nx := 2 }) (rg [hE] ({ tm := [(1,.pv (.int .i64 id)),oP 2 0,(6,.pv (.nilsl))],hp := [rP 0 3 (zE3 p)],nx := 1 }) .nil ((Sub.keep (ks := [1,2,6]) (st := ownSt 6 none ({ tm := [(1,.pv (.int .i64 id)),oP 2 0,(6,.pv (.nilsl))],hp := [rP 0 3 (zE3 p)],nx := 1 })) (st' := { tm := [(1,.pv (.int .i64 id)),oP 2 0,(6,.osl 1 0 (List.map (PV.int .i64) ([] : List Int)).length)],hp := [rP 0 3 (zE3 p),(1,some (.p none (List.map (PV.int .i64) ([] : List Int))))],nx := 2 }) (by kernel_rfl)).trans (own_sound 6 none ({ tm := [(1,.pv (.int .i64 id)),oP 2 0,(6,.pv (.nilsl))],hp := [rP 0 3 (zE3 p)],nx := 1 })))) ?_
 refine x_seq ?_
 refine x_rg (rgn [hE] (⟨[(1,pI id),oP 2 0,(6,oL 1 (PV.int .i64) ([] : List Int)),(7,pI 0)],[rP 0 3 (zE3 p),(1,rL none (PV.int .i64) ([] : List Int))],2⟩)) ?_
 refine x_block ?_
 refine kw0 (⟨[(1,pI id),oP 2 0,(6,oL 1 (PV.int .i64) ([] : List Int)),(7,pI 0)],[rP 0 3 (zE3 p),(1,rL none (PV.int .i64) ([] : List Int))],2⟩) ?_
 refine x_loop (σ := (Int × (List Int))) h (fun s => ⟨[(1,pI id),oP 2 0,(6,oL 1 (PV.int .i64) s.2),(7,pI s.1)],[rP 0 3 (zE3 p),(1,rL none (PV.int .i64) s.2)],2⟩) (by kernel_rfl) ?_ ?_
 ·rintro ⟨i,ids⟩
  kernel_rfl
 rintro ⟨i,ids⟩ x12 h hx12
 replace h : ref31_List_L12 p id i ids = some x12 := h
 unfold ref31_List_L12 at h
 refine x_seq ?_
 refine x_rgB (fun b_ => (⟨[(1,pI id),oP 2 0,(6,oL 1 (PV.int .i64) ids),(7,pI i),(28,pB b_)],[rP 0 3 (zE3 p),(1,rL none (PV.int .i64) ids)],2⟩ : VSt)) ((decide (i < (List.length p.L : Int))) && (decide (id = 1))) ?_ ?_
 ·rcases bq (decide (i < (List.length p.L : Int))) with hg13 | hg13
  ·exact rb [hE,hE,hE,hN (.len (List.length p.L : Int)),hE,hE,hY,hY,hN (.pk true)] (decide (id = 1)) (kc (lenM zE2 p.L) (hk3 hg13 .nil)) (by simp only [hg13,bs,reduceIte])
  exact rb [hE,hE,hE,hN (.len (List.length p.L : Int)),hE,hE,hS,hS,hN (.pk false)] false (kc (lenM zE2 p.L) (hk3 hg13 .nil)) (by simp only [hg13,bs,reduceIte])
 refine x_if h rfl (fun hc15 h => ?_) (fun hc15 h => ?_)
 ·refine x_kk (x_skip (x_tn (x_seq (x_block ?_))))
  obtain ⟨x16,hx16,h⟩ := bind_some h
  obtain ⟨x17,hx17,h⟩ := bind_some h
  refine x_rgt (rg0 [hE,hE,hE,hE,hN (.pAt (zE2 x16)),hE,hE,hE,hE,hN (.app (List.map (PV.int .i64) x17)),hE] (⟨[(1,pI id),oP 2 0,(6,oL 1 (PV.int .i64) x17),(7,pI i)],[rP 0 3 (zE3 p),(1,rL none (PV.int .i64) x17)],2⟩) (kc (lsAt_map (f := zE2) hx16) (kc (show List.take (List.map (PV.int .i64) ids).length (List.map (PV.int .i64) ids) ++ List.take 1 (List.drop 0 ([.int .i64 (IntKind.wrap .i64 (16 * x16.Id))] : List PV)) = (List.map (PV.int .i64) x17) from (app_ob hx17 (.all _) (.rfl _))) (kc (show List.length (List.map (PV.int .i64) x17) * 8 ≤ 140737488355328 from (by rw [List.length_map]; exact (appL_ok hx17).2.1)) (kc (show List.length (List.map (PV.int .i64) x17) ≤ 9223372036854775807 from (by rw [List.length_map]; exact (appL_ok hx17).2.2)) (kc (le1 (List.map (PV.int .i64) ids)) (kc (show 0 + 1 ≤ List.length ([.int .i64 (IntKind.wrap .i64 (16 * x16.Id))] : List PV) from (by simp)) .nil))))))) ?_
  refine x_bn (x_tn ?_)
  refine x_rgt (rgn [hE,hE,hE] (⟨[(1,pI id),oP 2 0,(6,oL 1 (PV.int .i64) x17),(7,pI (IntKind.wrap .i64 (i + 1)))],[rP 0 3 (zE3 p),(1,rL none (PV.int .i64) x17)],2⟩)) ?_
  refine x_tn ?_
  exact ⟨_,(sj h).symm,by kernel_rfl⟩
 refine kw0 (⟨[(1,pI id),oP 2 0,(6,oL 1 (PV.int .i64) ids)],[rP 0 3 (zE3 p),(1,rL none (PV.int .i64) ids)],2⟩) ?_
 refine x_exit ?_
 refine x_te (x_te ?_)
 replace h := done_map h hx12
 refine x_bh ?_
 refine x_tn (x_seq ?_)
 refine x_rg (rgn [hE] (⟨[(1,pI id),oP 2 0,(6,oL 1 (PV.int .i64) ids),(8,pI 1)],[rP 0 3 (zE3 p),(1,rL none (PV.int .i64) ids)],2⟩)) ?_
 refine x_block ?_
 refine kw0 (⟨[(1,pI id),oP 2 0,(6,oL 1 (PV.int .i64) ids),(8,pI 1)],[rP 0 3 (zE3 p),(1,rL none (PV.int .i64) ids)],2⟩) ?_
 refine x_loop (σ := (Int × (List Int))) h (fun s => ⟨[(1,pI id),oP 2 0,(6,oL 1 (PV.int .i64) s.2),(8,pI s.1)],[rP 0 3 (zE3 p),(1,rL none (PV.int .i64) s.2)],2⟩) (by kernel_rfl) ?_ ?_
 ·rintro ⟨k,ids_1⟩
  kernel_rfl
 rintro ⟨k,ids_1⟩ x22 h hx22
 replace h : ref31_List_L22 p id k ids_1 = some x22 := h
 unfold ref31_List_L22 at h
 refine x_seq ?_
 refine x_rgB (fun b_ => (⟨[(1,pI id),oP 2 0,(6,oL 1 (PV.int .i64) ids_1),(8,pI k),(46,pB b_)],[rP 0 3 (zE3 p),(1,rL none (PV.int .i64) ids_1)],2⟩ : VSt)) ((decide (k ≤ 5)) && (decide (1 < id))) ?_ ?_
 ·rcases bq (decide (k ≤ 5)) with hg23 | hg23
  ·exact rb [hE,hE,hE,hY,hY,hN (.pk true)] (decide (1 < id)) (hk3 hg23 .nil) (by simp only [hg23,bs,reduceIte])
  exact rb [hE,hE,hE,hS,hS,hN (.pk false)] false (hk3 hg23 .nil) (by simp only [hg23,bs,reduceIte])
 refine x_if h rfl (fun hc25 h => ?_) (fun hc25 h => ?_)
 ·refine x_kk (x_skip (x_tn (x_seq (x_block ?_))))
  obtain ⟨x26,hx26,h⟩ := bind_some h
  refine x_rgt (rg0 [hE,hE,hE,hE,hE,hN (.app (List.map (PV.int .i64) x26)),hE] (⟨[(1,pI id),oP 2 0,(6,oL 1 (PV.int .i64) x26),(8,pI k)],[rP 0 3 (zE3 p),(1,rL none (PV.int .i64) x26)],2⟩) (kc (show List.take (List.map (PV.int .i64) ids_1).length (List.map (PV.int .i64) ids_1) ++ List.take 1 (List.drop 0 ([.int .i64 (IntKind.wrap .i64 (id + k))] : List PV)) = (List.map (PV.int .i64) x26) from (app_ob hx26 (.all _) (.rfl _))) (kc (show List.length (List.map (PV.int .i64) x26) * 8 ≤ 140737488355328 from (by rw [List.length_map]; exact (appL_ok hx26).2.1)) (kc (show List.length (List.map (PV.int .i64) x26) ≤ 9223372036854775807 from (by rw [List.length_map]; exact (appL_ok hx26).2.2)) (kc (le1 (List.map (PV.int .i64) ids_1)) (kc (show 0 + 1 ≤ List.length ([.int .i64 (IntKind.wrap .i64 (id + k))] : List PV) from (by simp)) .nil)))))) ?_
  refine x_bn (x_tn ?_)
  refine x_rgt (rgn [hE,hE,hE] (⟨[(1,pI id),oP 2 0,(6,oL 1 (PV.int .i64) x26),(8,pI (IntKind.wrap .i64 (k + 1)))],[rP 0 3 (zE3 p),(1,rL none (PV.int .i64) x26)],2⟩)) ?_
  refine x_tn ?_
  exact ⟨_,(sj h).symm,by kernel_rfl⟩
 refine kw0 (⟨[oP 2 0,(6,oL 1 (PV.int .i64) ids_1)],[rP 0 3 (zE3 p),(1,rL none (PV.int .i64) ids_1)],2⟩) ?_
 refine x_exit ?_
 refine x_te (x_te ?_)
 replace h := done_map h hx22
 refine x_bh ?_
 refine x_tn ?_
 refine x_rg (st2 := { tm := [oP 2 0,(6,.osl 1 0 (List.map (PV.int .i64) ids_1).length),(9,.osl 2 0 (List.map zE5 ([] : List api_Dir)).length)],hp := [rP 0 3 (zE3 p),(1,some (.p none (List.map (PV.int .i64) ids_1))),(2,some (.p (some 13) (List.map zE5 ([] : List api_Dir))))],nx := 3 }) (rg [hE] ({ tm := [oP 2 0,(6,.osl 1 0 (List.map (PV.int .i64) ids_1).length),(9,.pv (.nilsl))],hp := [rP 0 3 (zE3 p),(1,some (.p none (List.map (PV.int .i64) ids_1)))],nx := 2 }) .nil ((Sub.keep (ks := [2,6,9]) (st := ownSt 9 (some 13) ({ tm := [oP 2 0,(6,.osl 1 0 (List.map (PV.int .i64) ids_1).length),(9,.pv (.nilsl))],hp := [rP 0 3 (zE3 p),(1,some (.p none (List.map (PV.int .i64) ids_1)))],nx := 2 })) (st' := { tm := [oP 2 0,(6,.osl 1 0 (List.map (PV.int .i64) ids_1).length),(9,.osl 2 0 (List.map zE5 ([] : List api_Dir)).length)],hp := [rP 0 3 (zE3 p),(1,some (.p none (List.map (PV.int .i64) ids_1))),(2,some (.p (some 13) (List.map zE5 ([] : List api_Dir))))],nx := 3 }) (by kernel_rfl)).trans (own_sound 9 (some 13) ({ tm := [oP 2 0,(6,.osl 1 0 (List.map (PV.int .i64) ids_1).length),(9,.pv (.nilsl))],hp := [rP 0 3 (zE3 p),(1,some (.p none (List.map (PV.int .i64) ids_1)))],nx := 2 })))) ?_
 refine x_seq ?_
 refine x_rg (rg0 [hE,hN (.len (List.length ids_1 : Int)),hE] (⟨[oP 2 0,(6,oL 1 (PV.int .i64) ids_1),(9,oL 2 zE5 ([] : List api_Dir)),(56,pI (List.length ids_1 : Int)),(57,pI 0)],[rP 0 3 (zE3 p),(1,rL none (PV.int .i64) ids_1),(2,rL (some 13) zE5 ([] : List api_Dir))],3⟩) (kc (lenM (PV.int .i64) ids_1) .nil)) ?_
 refine x_block ?_
 refine kw0 (⟨[oP 2 0,(6,oL 1 (PV.int .i64) ids_1),(9,oL 2 zE5 ([] : List api_Dir)),(56,pI (List.length ids_1 : Int)),(57,pI 0)],[rP 0 3 (zE3 p),(1,rL none (PV.int .i64) ids_1),(2,rL (some 13) zE5 ([] : List api_Dir))],3⟩) ?_
 refine x_loop (σ := (Int × (List api_Dir))) h (fun s => ⟨[oP 2 0,(6,oL 1 (PV.int .i64) ids_1),(9,oL 2 zE5 s.2),(56,pI (List.length ids_1 : Int)),(57,pI s.1)],[rP 0 3 (zE3 p),(1,rL none (PV.int .i64) ids_1),(2,rL (some 13) zE5 s.2)],3⟩) (by kernel_rfl) ?_ ?_
 ·rintro ⟨v31,out⟩
  kernel_rfl
 rintro ⟨v31,out⟩ x33 h hx33
 replace h : ref31_List_L33 p ids_1 v31 out = some x33 := h
 unfold ref31_List_L33 at h
 refine x_rg (rgn [hE] (⟨[oP 2 0,(6,oL 1 (PV.int .i64) ids_1),(9,oL 2 zE5 out),(56,pI (List.length ids_1 : Int)),(57,pI v31),(58,pB (decide (v31 < (List.length ids_1 : Int))))],[rP 0 3 (zE3 p),(1,rL none (PV.int .i64) ids_1),(2,rL (some 13) zE5 out)],3⟩)) ?_
 refine x_seq ?_
 refine x_if h rfl (fun hc34 h => ?_) (fun hc34 h => ?_)
 ·refine x_kk (x_skip (x_tn (x_seq (x_block ?_))))
  refine x_rg (rgn [hE,hE] (⟨[oP 2 0,(6,oL 1 (PV.int .i64) ids_1),(9,oL 2 zE5 out),(10,pI v31),(56,pI (List.length ids_1 : Int)),(57,pI v31)],[rP 0 3 (zE3 p),(1,rL none (PV.int .i64) ids_1),(2,rL (some 13) zE5 out)],3⟩)) ?_
  obtain ⟨x35,hx35,h⟩ := bind_some h
  obtain ⟨x36,hx36,h⟩ := bind_some h
  refine x_rg (rg0 [hE,hE,hE,hN .rAt,hN (.ld (.int .i64 x35)),hN (.cal [] (.tup [zE5 x36.1,.int .i64 x36.2]) true),hE,hE,hE,hE,hE,hE] (⟨[oP 2 0,(6,oL 1 (PV.int .i64) ids_1),(9,oL 2 zE5 out),oP 11 3,(56,pI (List.length ids_1 : Int)),(57,pI v31)],[rP 0 3 (zE3 p),(1,rL none (PV.int .i64) ids_1),(2,rL (some 13) zE5 out),rP 3 13 (zE5 x36.1)],4⟩) (kc (rAtM (f := (PV.int .i64)) hx35) (kc (ownAt (f := (PV.int .i64)) hx35) (kc (c19 hx36) .nil)))) ?_
  obtain ⟨x37,hx37,h⟩ := bind_some h
  refine x_rgt (rg0 [hE,hE,hE,hN (.app (List.map zE5 x37)),hE] (⟨[oP 2 0,(6,oL 1 (PV.int .i64) ids_1),(9,oL 2 zE5 x37),(56,pI (List.length ids_1 : Int)),(57,pI v31)],[rP 0 3 (zE3 p),(1,rL none (PV.int .i64) ids_1),(2,rL (some 13) zE5 x37)],3⟩) (kc (show List.take (List.map zE5 out).length (List.map zE5 out) ++ List.take 1 (List.drop 0 ([zE5 x36.1] : List PV)) = (List.map zE5 x37) from (app_ob hx37 (.all _) (.rfl _))) (kc (show List.length (List.map zE5 x37) * 136 ≤ 140737488355328 from (by rw [List.length_map]; exact (appL_ok hx37).2.1)) (kc (show List.length (List.map zE5 x37) ≤ 9223372036854775807 from (by rw [List.length_map]; exact (appL_ok hx37).2.2)) (kc (le1 (List.map zE5 out)) (kc (show 0 + 1 ≤ List.length ([zE5 x36.1] : List PV) from (by simp)) .nil)))))) ?_
  refine x_bn (x_tn ?_)
  refine x_rgt (rgn [hE,hE] (⟨[oP 2 0,(6,oL 1 (PV.int .i64) ids_1),(9,oL 2 zE5 x37),(56,pI (List.length ids_1 : Int)),(57,pI (IntKind.wrap .i64 (v31 + 1)))],[rP 0 3 (zE3 p),(1,rL none (PV.int .i64) ids_1),(2,rL (some 13) zE5 x37)],3⟩)) ?_
  refine x_tn ?_
  exact ⟨_,(sj h).symm,by kernel_rfl⟩
 refine kw0 (⟨[(9,oL 0 zE5 out)],[(0,rL (some 13) zE5 out)],1⟩) ?_
 refine x_exit ?_
 refine x_te (x_te ?_)
 replace h := done_leaf h hx33
 refine x_bh ?_
 refine x_tn ?_
 refine x_rg (rgn [hE,hE,hE] (⟨[(4,oL 0 zE5 out),(5,pI 0)],[(0,rL (some 13) zE5 out)],1⟩)) ?_
 refine x_toret ?_
 obtain rfl := sj h
 exact x_ret (.tup [.usl (some 13) (List.take (List.map zE5 out).length (List.map zE5 out)),.int .i64 0]) [0] [(List.map zE5 out).length ≤ List.length (List.map zE5 out)] (by kernel_rfl) (.cons (Nat.le_refl _) .nil) (by decide) (.tup (.cons (.of_eq (by rw [List.take_length])) (.cons (.refl _) .nil))) (fun _ => tup_ns (.cons (usl_ns (sh := (some 13)) (fun _ => rfl)) (.cons rfl .nil)))
theorem c22 {a : (List api_Dir)} {b : (List api_Dir)} {r : Bool} (h : ref11_Same a b = some r) : CallOK Tryd.prog 22 [.sl (some 13) (List.map zE5 a),.sl (some 13) (List.map zE5 b)] (.bool r) true := by
 apply ok22
 unfold ref11_Same at h
 refine x_rg (rgn [hE] (⟨[(0,pL (some 13) zE5 a),(1,pL (some 13) zE5 b)],[],0⟩)) ?_
 refine x_seq ?_
 refine x_rg (rg0 [hE,hN (.len (List.length a : Int)),hE,hN (.len (List.length b : Int)),hE] (⟨[(0,pL (some 13) zE5 a),(1,pL (some 13) zE5 b),(10,pB (!decide ((List.length a : Int) = (List.length b : Int))))],[],0⟩) (kc (lenM zE5 a) (kc (lenM zE5 b) .nil))) ?_
 refine x_if h rfl (fun hc1 h => ?_) (fun hc1 h => ?_)
 ·refine x_rg (rgn [hE] (⟨[(4,pB false)],[],0⟩)) ?_
  refine x_toret (x_tr ?_)
  obtain rfl := sj h
  exact ret0 (.bool false) (.refl _) (fun _ => rfl)
 refine x_kk (x_skip (x_tn (x_seq ?_)))
 refine x_rg (rg0 [hE,hN (.len (List.length a : Int)),hE] (⟨[(0,pL (some 13) zE5 a),(1,pL (some 13) zE5 b),(12,pI (List.length a : Int)),(13,pI 0)],[],0⟩) (kc (lenM zE5 a) .nil)) ?_
 refine x_block ?_
 refine kw0 (⟨[(0,pL (some 13) zE5 a),(1,pL (some 13) zE5 b),(12,pI (List.length a : Int)),(13,pI 0)],[],0⟩) ?_
 refine x_loop (σ := Int) h (fun s => ⟨[(0,pL (some 13) zE5 a),(1,pL (some 13) zE5 b),(12,pI (List.length a : Int)),(13,pI s)],[],0⟩) (by kernel_rfl) ?_ ?_
 ·rintro v6
  kernel_rfl
 rintro v6 x7 h hx7
 replace h : ref11_Same_L7 a b v6 = some x7 := h
 unfold ref11_Same_L7 at h
 refine x_rg (rgn [hE] (⟨[(0,pL (some 13) zE5 a),(1,pL (some 13) zE5 b),(12,pI (List.length a : Int)),(13,pI v6),(14,pB (decide (v6 < (List.length a : Int))))],[],0⟩)) ?_
 refine x_seq ?_
 refine x_if h rfl (fun hc8 h => ?_) (fun hc8 h => ?_)
 ·refine x_kk (x_skip (x_tn (x_seq (x_block ?_))))
  refine x_rg (rgn [hE,hE] (⟨[(0,pL (some 13) zE5 a),(1,pL (some 13) zE5 b),(5,pI v6),(12,pI (List.length a : Int)),(13,pI v6)],[],0⟩)) ?_
  obtain ⟨x9,hx9,h⟩ := bind_some h
  obtain ⟨x10,hx10,h⟩ := bind_some h
  refine x_rg (rg0 [hE,hE,hN (.pAt (zE5 x9)),hE,hE,hE,hN (.pAt (zE5 x10)),hE,hE] (⟨[(0,pL (some 13) zE5 a),(1,pL (some 13) zE5 b),(12,pI (List.length a : Int)),(13,pI v6),(24,pB (!(decide (x9.Type_ = x10.Type_) && (decide (x9.Dev = x10.Dev) && (decide (x9.Qid.Type_ = x10.Qid.Type_) && (decide (x9.Qid.Vers = x10.Qid.Vers) && (decide (x9.Qid.Path = x10.Qid.Path) && (decide (x9.Mode = x10.Mode) && (decide (x9.Atime = x10.Atime) && (decide (x9.Mtime = x10.Mtime) && (decide (x9.Length = x10.Length) && (decide (x9.Name = x10.Name) && (decide (x9.Uid = x10.Uid) && (decide (x9.Gid = x10.Gid) && (decide (x9.Muid = x10.Muid) && true)))))))))))))))],[],0⟩) (kc (lsAt_map (f := zE5) hx9) (kc (lsAt_map (f := zE5) hx10) .nil))) ?_
  refine x_if h rfl (fun hc11 h => ?_) (fun hc11 h => ?_)
  ·refine x_rg (rgn [hE] (⟨[(4,pB false)],[],0⟩)) ?_
   refine x_toret (x_br (x_tr (x_tr ?_)))
   replace h := done_leaf h hx7
   refine x_br (x_tr ?_)
   obtain rfl := sj h
   exact ret0 (.bool false) (.refl _) (fun _ => rfl)
  refine x_kk (x_skip (x_bn (x_tn ?_)))
  refine x_rgt (rgn [hE,hE] (⟨[(0,pL (some 13) zE5 a),(1,pL (some 13) zE5 b),(12,pI (List.length a : Int)),(13,pI (IntKind.wrap .i64 (v6 + 1)))],[],0⟩)) ?_
  refine x_tn ?_
  exact ⟨_,(sj h).symm,by kernel_rfl⟩
 refine kw0 (⟨[],[],0⟩) ?_
 refine x_exit ?_
 refine x_te (x_te ?_)
 replace h := done_leaf h hx7
 refine x_bh ?_
 refine x_tn ?_
 refine x_rg (rgn [hE] (⟨[(4,pB true)],[],0⟩)) ?_
 refine x_toret ?_
 obtain rfl := sj h
 exact ret0 (.bool true) (.refl _) (fun _ => rfl)
theorem c5 {p : api_Procs} {id : Int} {name : Str} {r : Bool} (h : law31_ProcfsReads p id name = some r) : CallOK Tryd.prog 5 [zE3 p,.int .i64 id,.str name] (.bool r) true := by
 apply ok5
 unfold law31_ProcfsReads at h
 refine x_rg (rgn [hE,hE] (⟨[(1,pI id),(2,pS name),oP 3 0],[rP 0 3 (zE3 p)],1⟩)) ?_
 refine x_seq ?_
 obtain ⟨x1,hx1,h⟩ := bind_some h
 obtain ⟨t5,ht,h⟩ := bind_some h
 refine x_rgB (fun b_ => (⟨[(1,pI id),(2,pS name),oP 3 0,(27,pB b_)],[rP 0 3 (zE3 p)],1⟩ : VSt)) t5 ?_ ?_
 ·rcases bq (!x1) with hg2 | hg2
  ·replace ht := ite_t ht hg2
   obtain rfl := sj ht
   exact rb [hE,hN (.cal [] (.bool x1) true),hE,hE,hS,hS,hS,hN (.pk true),hE,hS,hS,hS,hE] true (kc (c8 hx1) (hk4 hg2 (hk3 tt .nil))) rfl
  replace ht := ite_f ht hg2
  rcases bq (decide (2000 < (List.length name : Int))) with hg3 | hg3
  ·replace ht := ite_t ht hg3
   obtain rfl := sj ht
   exact rb [hE,hN (.cal [] (.bool x1) true),hE,hE,hY,hY,hY,hN (.pk false),hE,hS,hS,hS,hN (.pk true)] true (kc (c8 hx1) (hk4 hg2 (hk4 hg3 .nil))) rfl
  replace ht := ite_f ht hg3
  obtain ⟨x4,hx4,ht⟩ := bind_some ht
  obtain rfl := sj ht
  exact rb [hE,hN (.cal [] (.bool x1) true),hE,hE,hY,hY,hY,hN (.pk false),hE,hY,(.y,(.cal [] (.bool x4) true)),hY,hN (.pk false)] (!x4) (kc (c8 hx1) (hk4 hg2 (hk2 hg3 (kc (c9 hx4) (hk2 hg3 .nil))))) rfl
 clear ht
 refine x_if h rfl (fun hc6 h => ?_) (fun hc6 h => ?_)
 ·obtain ⟨x7,hx7,h⟩ := bind_some h
  refine x_rg (rg0 [hN (.cal [] (.bool x7) true),hE] (⟨[(6,pB x7)],[],0⟩) (kc (c10 hx7) .nil)) ?_
  refine x_toret (x_tr ?_)
  obtain rfl := sj h
  exact ret0 (.bool x7) (.refl _) (fun _ => rfl)
 refine x_kk (x_skip (x_tn ?_))
 obtain ⟨x8,hx8,h⟩ := bind_some h
 refine x_rg (rg0 [hE,hE,hE,hN (.cal [] (.tup [.int .i64 x8.1,.int .i64 x8.2]) true),hE,hE,hE,hE,hE] (⟨[(1,pI id),(2,pS name),oP 3 0,(7,pI x8.1),(8,pI x8.2)],[rP 0 3 (zE3 p)],1⟩) (kc (c16 hx8) .nil)) ?_
 obtain ⟨x9,hx9,h⟩ := bind_some h
 refine x_rg (rg0 [hE,hE,hE,hN (.cal [] (.tup [.int .i64 x9.1,.int .i64 x9.2]) true),hE,hE,hE,hE,hE] (⟨[(1,pI id),oP 3 0,(7,pI x8.1),(8,pI x8.2),(9,pI x9.1),(10,pI x9.2)],[rP 0 3 (zE3 p)],1⟩) (kc (c17 hx9) .nil)) ?_
 refine x_seq ?_
 refine x_rgB (fun b_ => (⟨[(1,pI id),oP 3 0,(50,pB b_)],[rP 0 3 (zE3 p)],1⟩ : VSt)) ((!decide (x8.1 = x9.1)) || (!decide (x8.2 = x9.2))) ?_ ?_
 ·rcases bq (!decide (x8.1 = x9.1)) with hg10 | hg10
  ·exact rb [hE,hE,hE,hE,hS,hS,hS,hN (.pk true)] true (hk4 hg10 .nil) (by simp only [hg10,bs,reduceIte])
  exact rb [hE,hE,hE,hE,hY,hY,hY,hN (.pk false)] (!decide (x8.2 = x9.2)) (hk4 hg10 .nil) (by simp only [hg10,bs,reduceIte])
 refine x_if h rfl (fun hc12 h => ?_) (fun hc12 h => ?_)
 ·refine x_rg (rgn [hE] (⟨[(6,pB false)],[],0⟩)) ?_
  refine x_toret (x_tr ?_)
  obtain rfl := sj h
  exact ret0 (.bool false) (.refl _) (fun _ => rfl)
 refine x_kk (x_skip (x_tn ?_))
 obtain ⟨x13,hx13,h⟩ := bind_some h
 refine x_rg (rg0 [hE,hE,hN (.cal [] (.tup [zE5 x13.1,.int .i64 x13.2]) true),hE,hE,hE,hE,hE,hE] (⟨[(1,pI id),oP 3 0,(8,pI x13.2),oP 11 1],[rP 0 3 (zE3 p),rP 1 13 (zE5 x13.1)],2⟩) (kc (c18 hx13) .nil)) ?_
 obtain ⟨x14,hx14,h⟩ := bind_some h
 refine x_rg (rg0 [hE,hE,hN (.cal [] (.tup [zE5 x14.1,.int .i64 x14.2]) true),hE,hE,hE,hE,hE,hE] (⟨[(1,pI id),oP 3 0,(8,pI x13.2),(10,pI x14.2),oP 11 1,oP 12 2],[rP 0 3 (zE3 p),rP 1 13 (zE5 x13.1),rP 2 13 (zE5 x14.1)],3⟩) (kc (c19 hx14) .nil)) ?_
 refine x_seq ?_
 refine x_rgB (fun b_ => (⟨[(1,pI id),oP 3 0,(70,pB b_)],[rP 0 3 (zE3 p)],1⟩ : VSt)) ((!(decide (x13.1.Type_ = x14.1.Type_) && (decide (x13.1.Dev = x14.1.Dev) && (decide (x13.1.Qid.Type_ = x14.1.Qid.Type_) && (decide (x13.1.Qid.Vers = x14.1.Qid.Vers) && (decide (x13.1.Qid.Path = x14.1.Qid.Path) && (decide (x13.1.Mode = x14.1.Mode) && (decide (x13.1.Atime = x14.1.Atime) && (decide (x13.1.Mtime = x14.1.Mtime) && (decide (x13.1.Length = x14.1.Length) && (decide (x13.1.Name = x14.1.Name) && (decide (x13.1.Uid = x14.1.Uid) && (decide (x13.1.Gid = x14.1.Gid) && (decide (x13.1.Muid = x14.1.Muid) && true)))))))))))))) || (!decide (x13.2 = x14.2))) ?_ ?_
 ·rcases bq (!(decide (x13.1.Type_ = x14.1.Type_) && (decide (x13.1.Dev = x14.1.Dev) && (decide (x13.1.Qid.Type_ = x14.1.Qid.Type_) && (decide (x13.1.Qid.Vers = x14.1.Qid.Vers) && (decide (x13.1.Qid.Path = x14.1.Qid.Path) && (decide (x13.1.Mode = x14.1.Mode) && (decide (x13.1.Atime = x14.1.Atime) && (decide (x13.1.Mtime = x14.1.Mtime) && (decide (x13.1.Length = x14.1.Length) && (decide (x13.1.Name = x14.1.Name) && (decide (x13.1.Uid = x14.1.Uid) && (decide (x13.1.Gid = x14.1.Gid) && (decide (x13.1.Muid = x14.1.Muid) && true)))))))))))))) with hg15 | hg15
  ·exact rb [hE,hE,hE,hE,hS,hS,hS,hN (.pk true)] true (hk4 hg15 .nil) (by simp only [hg15] <;> simp only [bs,reduceIte])
  exact rb [hE,hE,hE,hE,hY,hY,hY,hN (.pk false)] (!decide (x13.2 = x14.2)) (hk4 hg15 .nil) (by simp only [hg15] <;> simp only [bs,reduceIte])
 refine x_if h rfl (fun hc17 h => ?_) (fun hc17 h => ?_)
 ·refine x_rg (rgn [hE] (⟨[(6,pB false)],[],0⟩)) ?_
  refine x_toret (x_tr ?_)
  obtain rfl := sj h
  exact ret0 (.bool false) (.refl _) (fun _ => rfl)
 refine x_kk (x_skip (x_tn ?_))
 obtain ⟨x18,hx18,h⟩ := bind_some h
 refine x_rg (rg0 [hE,hE,hN (.cal [] (.tup [.usl (some 13) (List.map zE5 x18.1),.int .i64 x18.2]) true),hE,hE,hE,hE,hE] (⟨[(1,pI id),oP 3 0,(8,pI x18.2),(13,oL 1 zE5 x18.1)],[rP 0 3 (zE3 p),(1,rL (some 13) zE5 x18.1)],2⟩) (kc (c20 hx18) .nil)) ?_
 obtain ⟨x19,hx19,h⟩ := bind_some h
 refine x_rg (rg0 [hE,hE,hN (.cal [] (.tup [.usl (some 13) (List.map zE5 x19.1),.int .i64 x19.2]) true),hE,hE,hE,hE,hE] (⟨[(8,pI x18.2),(10,pI x19.2),(13,oL 0 zE5 x18.1),(14,oL 1 zE5 x19.1)],[(0,rL (some 13) zE5 x18.1),(1,rL (some 13) zE5 x19.1)],2⟩) (kc (c21 hx19) .nil)) ?_
 obtain ⟨t24,ht,h⟩ := bind_some h
 refine x_rgB (fun b_ => (⟨[(6,pB b_)],[],0⟩ : VSt)) t24 ?_ ?_
 ·rcases bq (decide (x18.2 = x19.2)) with hg20 | hg20
  ·replace ht := ite_t ht hg20
   obtain ⟨x21,hx21,ht⟩ := bind_some ht
   rcases bq x21 with hg22 | hg22
   ·replace ht := ite_t ht hg22
    obtain ⟨x23,hx23,ht⟩ := bind_some ht
    obtain rfl := sj ht
    exact rb [hE,hE,hE,hE,hY,hY,(.y,(.call [] [.sl (some 13) (List.map zE5 x18.1),.sl (some 13) (List.map zE5 x19.1)] (.bool x21) true)),hN (.pk true),hE,(.y,(.cal [] (.bool x23) true)),hN (.pk true),hE] x23 (hk3 hg20 (kc (show LesA [.sl (some 13) (List.take (List.map zE5 x18.1).length (List.drop 0 (List.map zE5 x18.1))),.sl (some 13) (List.take (List.map zE5 x19.1).length (List.drop 0 (List.map zE5 x19.1)))] [.sl (some 13) (List.map zE5 x18.1),.sl (some 13) (List.map zE5 x19.1)] from (.cons (.of_eq (by rw [List.drop_zero,List.take_length])) (.cons (.of_eq (by rw [List.drop_zero,List.take_length])) .nil))) (kc (c22 hx21) (kc (le0 (List.map zE5 x18.1)) (kc (le0 (List.map zE5 x19.1)) (kc hg20 (kc hg22 (kc (c10 hx23) (kc hg22 .nil))))))))) rfl
   replace ht := ite_f ht hg22
   obtain rfl := sj ht
   exact rb [hE,hE,hE,hE,hY,hY,(.y,(.call [] [.sl (some 13) (List.map zE5 x18.1),.sl (some 13) (List.map zE5 x19.1)] (.bool x21) true)),hN (.pk true),hE,hS,hN (.pk false),hE] false (hk3 hg20 (kc (show LesA [.sl (some 13) (List.take (List.map zE5 x18.1).length (List.drop 0 (List.map zE5 x18.1))),.sl (some 13) (List.take (List.map zE5 x19.1).length (List.drop 0 (List.map zE5 x19.1)))] [.sl (some 13) (List.map zE5 x18.1),.sl (some 13) (List.map zE5 x19.1)] from (.cons (.of_eq (by rw [List.drop_zero,List.take_length])) (.cons (.of_eq (by rw [List.drop_zero,List.take_length])) .nil))) (kc (c22 hx21) (kc (le0 (List.map zE5 x18.1)) (kc (le0 (List.map zE5 x19.1)) (kc hg20 (hk2 hg22 .nil))))))) rfl
  replace ht := ite_f ht hg20
  obtain rfl := sj ht
  exact rb [hE,hE,hE,hE,hS,hS,hS,hN (.pk false),hE,hS,hE,hE] false (hk4 hg20 (kc ff .nil)) rfl
 clear ht
 refine x_toret ?_
 obtain rfl := sj h
 exact ret0 (.bool t24) (.refl _) (fun _ => rfl)
end Go.Proofs.YtgmlbldjdhonjaaDoor
