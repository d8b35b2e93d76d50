import Derived.Test.YtfaobpifaobobaaDoorV
import Derived.Test.YtfaobpifaobobaaDoorS
import Derived.Test.YtfaobpifaobobaaDoorShelf
import Derived.Test.YtfaobpifaobobaaDoorVmB
import Derived.Test.YtfaobpifaobobaaDoorF
namespace Go.Proofs.YtfaobpifaobobaaDoor
open Go.Vm
set_option autoImplicit false
set_option linter.unusedVariables false
set_option linter.unusedSimpArgs false
set_option maxRecDepth 100000
abbrev gA1 (x_ : api_Procs) : PV := .agg [.int .i64 x_.Next,.int .i64 x_.Group,.usl (some 13) (List.map zE2 x_.L)]
abbrev gA2 : PV := .agg [.int .i64 0,.int .i64 0,.usl (some 13) []]
abbrev gA3 (x_ : api_Proc) : PV := .agg [.int .i64 x_.Id,.int .i64 x_.Parent,.int .i64 x_.State,.str x_.User,.str x_.Name,.int .i64 x_.Ns,.int .i64 x_.Env,.int .i64 x_.Fds,.str x_.Cwd,.usl none (List.map PV.str x_.Notes),.str x_.Status,.usl (some 2) (List.map zE1 x_.Waits),.bool x_.Alone]
abbrev gA4 : PV := .agg [.int .i64 0,.int .i64 0,.int .i64 0,.str [],.str [],.int .i64 0,.int .i64 0,.int .i64 0,.str [],.usl none [],.str [],.usl (some 2) [],.bool false]
abbrev gA5 (x_ : api_Procs) : PV := .agg [.int .i64 x_.Next,.int .i64 x_.Group,.dsl (some 13) (List.map zE2 x_.L) [9,11]]
abbrev gA6 (x_ : api_Proc) : PV := .agg [.int .i64 x_.Id,.int .i64 x_.Parent,.int .i64 x_.State,.str x_.User,.str x_.Name,.int .i64 x_.Ns,.int .i64 x_.Env,.int .i64 x_.Fds,.str x_.Cwd,.sl none (List.map PV.str x_.Notes),.str x_.Status,.sl (some 2) (List.map zE1 x_.Waits),.bool x_.Alone]
abbrev gA7 (x_ : api_Procs) (k1 : Nat) : HV := .agg [pI x_.Next,pI x_.Group,oL k1 zE2 x_.L]
abbrev gA8 (x_ : api_Procs) : PV := .agg [.int .i64 x_.Next,.int .i64 x_.Group,.sl (some 13) (List.map zE2 x_.L)]
abbrev gA9 (x_ : api_Procs) : PV := .agg [.int .i64 x_.Next,.int .i64 x_.Group,.sl (some 13) (List.take (List.map zE2 x_.L).length (List.drop 0 (List.map zE2 x_.L)))]
abbrev gA10 (x_ : api_Procs) : HV := .agg [.pv (.int .i64 x_.Next),.pv (.int .i64 x_.Group),.osl 3 0 (List.map zE2 x_.L).length]
abbrev gA11 (x_ : api_Procs) : HV := .agg [.pv (.int .i64 x_.Next),.pv (.int .i64 x_.Group),.osl 2 0 (List.map zE2 x_.L).length]
abbrev gA12 (x_ : api_Proc) (k1 k2 : Nat) : HV := .agg [pI x_.Id,pI x_.Parent,pI x_.State,pS x_.User,pS x_.Name,pI x_.Ns,pI x_.Env,pI x_.Fds,pS x_.Cwd,oL k1 PV.str x_.Notes,pS x_.Status,oL k2 zE1 x_.Waits,pB x_.Alone]
abbrev gA13 : PV := .agg [.int .i64 0,.int .i64 0,.int .i64 0,.str [],.str [],.int .i64 0,.int .i64 0,.int .i64 0,.str [],.sl none (List.map PV.str ([] : List Str)),.str [],.usl (some 2) [],.bool false]
abbrev gA16 : PV := .agg [.int .i64 0,.int .i64 0,.str [],.str [],.bool false,.int .i64 0,.bool false]
abbrev gA17 (x_ : api_Procs) : HV := .agg [.pv (.int .i64 x_.Next),.pv (.int .i64 x_.Group),.osl 1 0 (List.map zE2 x_.L).length]
theorem c23 {name : Str} {r : Bool} (h : user_Valid name = some r) : CallOK Tryd.prog 23 [.str name] (.bool r) true := by
 apply ok23
 unfold user_Valid at h
 refine x_rg (rgn [hE] (⟨[(0,pS name)],[],0⟩)) ?_
 refine x_seq ?_
 refine x_rgB (fun b_ => (⟨[(0,pS name),(13,pB b_)],[],0⟩ : VSt)) ((decide (name = [])) || (decide (32 < (List.length name : Int)))) ?_ ?_
 ·rcases bq (decide (name = [])) with hg1 | hg1
  ·exact rb [hE,hE,hE,hS,hS,hS,hN (.pk true)] true (hk4 hg1 .nil) (by simp only [hg1,bs,reduceIte])
  exact rb [hE,hE,hE,hY,hY,hY,hN (.pk false)] (decide (32 < (List.length name : Int))) (hk4 hg1 .nil) (by simp only [hg1,bs,reduceIte])
 refine x_if h rfl (fun hc3 h => ?_) (fun hc3 h => ?_)
 ·refine x_rg (rgn [hE] (⟨[(2,pB false)],[],0⟩)) ?_
  refine x_toret (x_tr ?_)
  obtain rfl := sj h
  exact ret0 (.bool false) (.refl _) (fun _ => rfl)
 refine x_kk (x_skip (x_tn (x_seq ?_)))
 refine x_rg (rgn [hE,hE,hE] (⟨[(0,pS name),(15,pI (List.length name : Int)),(16,pI 0)],[],0⟩)) ?_
 refine x_block ?_
 refine kw0 (⟨[(0,pS name),(15,pI (List.length name : Int)),(16,pI 0)],[],0⟩) ?_
 refine x_loop (σ := Int) h (fun s => ⟨[(0,pS name),(15,pI (List.length name : Int)),(16,pI s)],[],0⟩) (by kernel_rfl) ?_ ?_
 ·rintro v16
  kernel_rfl
 rintro v16 x17 h hx17
 replace h : user_Valid_L17 name v16 = some x17 := h
 unfold user_Valid_L17 at h
 refine x_rg (rgn [hE] (⟨[(0,pS name),(15,pI (List.length name : Int)),(16,pI v16),(17,pB (decide (v16 < (List.length name : Int))))],[],0⟩)) ?_
 refine x_seq ?_
 refine x_if h rfl (fun hc18 h => ?_) (fun hc18 h => ?_)
 ·refine x_kk (x_skip (x_tn (x_seq (x_block ?_))))
  refine x_rg (rgn [hE,hE] (⟨[(0,pS name),(3,pI v16),(15,pI (List.length name : Int)),(16,pI v16)],[],0⟩)) ?_
  obtain ⟨c19,hc19,h⟩ := bind_some h
  refine x_rg (rg0 [hE,hE,hN (.sAt c19),hE] (⟨[(0,pS name),(3,pI v16),(4,.pv (.int .u8 (c19.toNat : Int))),(15,pI (List.length name : Int)),(16,pI v16)],[],0⟩) (kc hc19 .nil)) ?_
  refine x_rgB (fun b_ => (⟨[(0,pS name),(3,pI v16),(4,.pv (.int .u8 (c19.toNat : Int))),(5,pB b_),(15,pI (List.length name : Int)),(16,pI v16)],[],0⟩ : VSt)) ((decide (97 ≤ (c19.toNat : Int))) && (decide ((c19.toNat : Int) ≤ 122))) ?_ ?_
  ·rcases bq (decide (97 ≤ (c19.toNat : Int))) with hg20 | hg20
   ·exact rb [hE,hE,hE,hY,hY,hN (.pk true),hE] (decide ((c19.toNat : Int) ≤ 122)) (hk3 hg20 .nil) (by simp only [hg20,bs,reduceIte])
   exact rb [hE,hE,hE,hS,hS,hN (.pk false),hE] false (hk3 hg20 .nil) (by simp only [hg20,bs,reduceIte])
  refine x_rgB (fun b_ => (⟨[(0,pS name),(3,pI v16),(5,pB ((decide (97 ≤ (c19.toNat : Int))) && (decide ((c19.toNat : Int) ≤ 122)))),(6,pB b_),(15,pI (List.length name : Int)),(16,pI v16)],[],0⟩ : VSt)) (if (decide (48 ≤ (c19.toNat : Int))) then ((decide ((c19.toNat : Int) ≤ 57)) || ((decide ((c19.toNat : Int) = 45)) || (decide ((c19.toNat : Int) = 95)))) else ((decide ((c19.toNat : Int) = 45)) || (decide ((c19.toNat : Int) = 95)))) ?_ ?_
  ·rcases bq (decide (48 ≤ (c19.toNat : Int))) with hg22 | hg22
   ·rcases bq (decide ((c19.toNat : Int) ≤ 57)) with hg23 | hg23
    ·exact rb [hE,hE,hE,hY,hY,hN (.pk true),hE,hS,hS,hN (.pk true),hE,hS,hS,hE,hE] true (hk3 hg22 (hk3 hg23 (hk2 tt .nil))) (by simp only [hg22,hg23,bs,reduceIte])
    rcases bq (decide ((c19.toNat : Int) = 45)) with hg24 | hg24
    ·exact rb [hE,hE,hE,hY,hY,hN (.pk true),hE,hY,hY,hN (.pk false),hE,hS,hS,hN (.pk true),hE] true (hk3 hg22 (hk3 hg23 (hk3 hg24 .nil))) (by simp only [hg22,hg23,hg24,bs,reduceIte])
    exact rb [hE,hE,hE,hY,hY,hN (.pk true),hE,hY,hY,hN (.pk false),hE,hY,hY,hN (.pk false),hE] (decide ((c19.toNat : Int) = 95)) (hk3 hg22 (hk3 hg23 (hk3 hg24 .nil))) (by simp only [hg22,hg23,hg24,bs,reduceIte])
   rcases bq (decide ((c19.toNat : Int) = 45)) with hg25 | hg25
   ·exact rb [hE,hE,hE,hS,hS,hN (.pk false),hE,hY,hY,hE,hE,hS,hS,hN (.pk true),hE] true (hk3 hg22 (hk2 ff (hk3 hg25 .nil))) (by simp only [hg22,hg25,bs,reduceIte])
   exact rb [hE,hE,hE,hS,hS,hN (.pk false),hE,hY,hY,hE,hE,hY,hY,hN (.pk false),hE] (decide ((c19.toNat : Int) = 95)) (hk3 hg22 (hk2 ff (hk3 hg25 .nil))) (by simp only [hg22,hg25,bs,reduceIte])
  refine x_rgB (fun b_ => (⟨[(0,pS name),(15,pI (List.length name : Int)),(16,pI v16),(51,pB b_)],[],0⟩ : VSt)) ((!((decide (97 ≤ (c19.toNat : Int))) && (decide ((c19.toNat : Int) ≤ 122)))) && ((decide (v16 = 0)) || (!(if (decide (48 ≤ (c19.toNat : Int))) then ((decide ((c19.toNat : Int) ≤ 57)) || ((decide ((c19.toNat : Int) = 45)) || (decide ((c19.toNat : Int) = 95)))) else ((decide ((c19.toNat : Int) = 45)) || (decide ((c19.toNat : Int) = 95))))))) ?_ ?_
  ·rcases bq (!((decide (97 ≤ (c19.toNat : Int))) && (decide ((c19.toNat : Int) ≤ 122)))) with hg27 | hg27
   ·rcases bq (decide (v16 = 0)) with hg28 | hg28
    ·exact rb [hE,hE,hE,hY,hY,hY,hS,hS,(.y,(.pk true)),hN (.pk true)] true (hk3 hg27 (hk2 hg28 (kc hg27 (kc hg28 (kc hg27 .nil))))) (by simp only [hg27,hg28,bs,reduceIte])
    exact rb [hE,hE,hE,hY,hY,hY,hY,hY,(.y,(.pk false)),hN (.pk true)] (!(if (decide (48 ≤ (c19.toNat : Int))) then ((decide ((c19.toNat : Int) ≤ 57)) || ((decide ((c19.toNat : Int) = 45)) || (decide ((c19.toNat : Int) = 95)))) else ((decide ((c19.toNat : Int) = 45)) || (decide ((c19.toNat : Int) = 95))))) (hk3 hg27 (hk2 hg28 (kc hg27 (kc hg28 (kc hg27 .nil))))) (by simp only [hg27,hg28,bs,reduceIte])
   exact rb [hE,hE,hE,hS,hS,hS,(.u,.e),(.u,.e),hS,hN (.pk false)] false (hk5 hg27 .nil) (by simp only [hg27,bs,reduceIte])
  refine x_if h rfl (fun hc30 h => ?_) (fun hc30 h => ?_)
  ·refine x_rg (rgn [hE] (⟨[(2,pB false)],[],0⟩)) ?_
   refine x_toret (x_br (x_tr (x_tr ?_)))
   replace h := done_leaf h hx17
   refine x_br (x_tr ?_)
   obtain rfl := sj h
   exact ret0 (.bool false) (.refl _) (fun _ => rfl)
  refine x_kk (x_skip (x_bn (x_tn ?_)))
  refine x_rgt (rgn [hE,hE] (⟨[(0,pS name),(15,pI (List.length name : Int)),(16,pI (IntKind.wrap .i64 (v16 + 1)))],[],0⟩)) ?_
  refine x_tn ?_
  exact ⟨_,(sj h).symm,by kernel_rfl⟩
 refine kw0 (⟨[],[],0⟩) ?_
 refine x_exit ?_
 refine x_te (x_te ?_)
 replace h := done_leaf h hx17
 refine x_bh ?_
 refine x_tn ?_
 refine x_rg (rgn [hE] (⟨[(2,pB true)],[],0⟩)) ?_
 refine x_toret ?_
 obtain rfl := sj h
 exact ret0 (.bool true) (.refl _) (fun _ => rfl)
theorem c9 {name : Str} {r : (api_Procs × Int)} (h : proc_New name = some r) : CallOK Tryd.prog 9 [.str name] (.tup [(gA1 r.1),.int .i64 r.2]) false := by
 apply ok9
 unfold proc_New at h
 refine x_rg (rgn [hE,hE] (⟨[(0,pS name),oP 2 0],[rP 0 3 gA2],1⟩)) ?_
 refine x_seq ?_
 obtain ⟨x1,hx1,h⟩ := bind_some h
 refine x_rg (rg0 [hE,hN (.cal [] (.bool x1) true),hE] (⟨[(0,pS name),oP 2 0,(7,pB (!x1))],[rP 0 3 gA2],1⟩) (kc (c23 hx1) .nil)) ?_
 refine x_if h rfl (fun hc2 h => ?_) (fun hc2 h => ?_)
 ·refine x_rg (rgn [hE,hE,hE] (⟨[oP 2 0,(3,pI 25)],[rP 0 3 gA2],1⟩)) ?_
  refine x_toret (x_tr ?_)
  obtain rfl := sj h
  exact ret0 (.tup [gA2,.int .i64 25]) (.tup (.cons (.refl _) (.cons (.refl _) .nil))) (fun h => nomatch h)
 refine x_kk (x_skip (x_tn ?_))
 refine x_rg (rgn [hE,hE,hE,hE] (⟨[oP 2 0,oP 4 1],[rP 0 3 gA2,rP 1 13 (.agg [.int .i64 1,.int .i64 0,.int .i64 1,.str name,.str [],.int .i64 1,.int .i64 1,.int .i64 1,.str [47],.usl none [],.str [],.usl (some 2) [],.bool false])],2⟩)) ?_
 refine x_rg (rgn [hE,hE,hE,hE,hE] (⟨[oP 2 0,(3,pI 0)],[rH 0 3 (.agg [pI 2,pI 2,.osl 1 0 1]),rP 1 13 (.agg [.int .i64 1,.int .i64 0,.int .i64 1,.str name,.str [],.int .i64 1,.int .i64 1,.int .i64 1,.str [47],.sl none (List.map PV.str ([] : List Str)),.str [],.sl (some 2) (List.map zE1 ([] : List api_Wait)),.bool false])],2⟩)) ?_
 refine x_toret ?_
 obtain rfl := sj h
 exact x_ret (.tup [.agg [.int .i64 2,.int .i64 2,.usl (some 13) (List.take 1 ([.agg [.int .i64 1,.int .i64 0,.int .i64 1,.str name,.str [],.int .i64 1,.int .i64 1,.int .i64 1,.str [47],.sl none (List.map PV.str ([] : List Str)),.str [],.sl (some 2) (List.map zE1 ([] : List api_Wait)),.bool false]] : List PV))],.int .i64 0]) [1] [1 ≤ List.length ([.agg [.int .i64 1,.int .i64 0,.int .i64 1,.str name,.str [],.int .i64 1,.int .i64 1,.int .i64 1,.str [47],.sl none (List.map PV.str ([] : List Str)),.str [],.sl (some 2) (List.map zE1 ([] : List api_Wait)),.bool false]] : List PV)] (by kernel_rfl) (.cons (Nat.le_refl _) .nil) (by decide) (.tup (.cons (.refl _) (.cons (.refl _) .nil))) (fun h => nomatch h)
theorem c51_n {r : (List Str)} (h : slices_Clone_string_string_n = some r) : CallOK Tryd.prog 51 [.nilsl] (.usl none (List.map PV.str r)) true := by
 apply ok51
 unfold slices_Clone_string_string_n at h
 refine x_rg (rgn [hE] (⟨[(0,.pv (.nilsl))],[],0⟩)) ?_
 refine x_seq ?_
 refine x_rg (rgn [hE,hE] (⟨[(0,.pv (.nilsl)),(4,pB true)],[],0⟩)) ?_
 refine x_cond true rfl (fun _ => ?_) (fun hc => nomatch hc)
 refine x_rg (rgn [hE] (⟨[(2,.pv (.nilsl))],[],0⟩)) ?_
 refine x_toret (x_tr ?_)
 obtain rfl := sj h
 exact ret0 (.nilsl) (.nilUsl _) (fun _ => (usl_ns (sh := none) (fun _ => rfl)))
theorem c51_e {r : (List Str)} (h : slices_Clone_string_string_e = some r) : CallOK Tryd.prog 51 [.esl none] (.usl none (List.map PV.str r)) true := by
 apply ok51
 unfold slices_Clone_string_string_e at h
 refine x_rg (rgn [hE] (⟨[(0,.pv (.esl none))],[],0⟩)) ?_
 refine x_seq ?_
 refine x_rg (rgn [hE,hE] (⟨[(0,.pv (.esl none)),(4,pB false)],[],0⟩)) ?_
 refine x_cond false rfl (fun hc => nomatch hc) (fun _ => ?_)
 refine x_kk (x_skip (x_tn ?_))
 obtain ⟨x1,hx1,h⟩ := bind_some h
 refine x_rg (rg0 [hE,hE,hN (.app (List.map PV.str x1)),hE] (⟨[(2,oL 0 PV.str x1)],[(0,rL none PV.str x1)],1⟩) (kc (show List.take 0 ([] : List PV) ++ [] = (List.map PV.str x1) from (app_ob hx1 (.rfl _) (.rfl _))) (kc (show List.length (List.map PV.str x1) * 16 ≤ 140737488355328 from (by rw [List.length_map]; exact (appL_ok hx1).2.1)) (kc (show List.length (List.map PV.str x1) ≤ 9223372036854775807 from (by rw [List.length_map]; exact (appL_ok hx1).2.2)) (kc (show 0 ≤ List.length ([] : List PV) from (Nat.le_refl _)) .nil))))) ?_
 refine x_toret ?_
 obtain rfl := sj h
 exact x_ret (.usl none (List.take (List.map PV.str x1).length (List.map PV.str x1))) [0] [(List.map PV.str x1).length ≤ List.length (List.map PV.str x1)] (by kernel_rfl) (.cons (Nat.le_refl _) .nil) (by decide) (.of_eq (by rw [List.take_length])) (fun _ => (usl_ns (sh := none) (fun _ => rfl)))
theorem c51_p {s_ : (List Str)} (hne : s_ ≠ []) {r : (List Str)} (h : slices_Clone_string_string s_ = some r) : CallOK Tryd.prog 51 [.sl none (List.map PV.str s_)] (.usl none (List.map PV.str r)) true := by
 apply ok51
 unfold slices_Clone_string_string at h
 refine x_rg (rgn [hE] (⟨[(0,pL none PV.str s_)],[],0⟩)) ?_
 refine x_seq ?_
 refine x_rg (rg0 [hE,hN .isn] (⟨[(0,pL none PV.str s_),(4,pB false)],[],0⟩) (kc (show List.isEmpty (List.map PV.str s_) = false from (isEmptyF hne)) .nil)) ?_
 refine x_cond false rfl (fun hc => nomatch hc) (fun _ => ?_)
 refine x_kk (x_skip (x_tn ?_))
 obtain ⟨x1,hx1,h⟩ := bind_some h
 refine x_rg (rg0 [hE,hE,hN (.app (List.map PV.str x1)),hE] (⟨[(2,oL 0 PV.str x1)],[(0,rL none PV.str x1)],1⟩) (kc (show List.take 0 ([] : List PV) ++ List.map PV.str s_ = (List.map PV.str x1) from (app_ob hx1 (.rfl _) (.rfl _))) (kc (show List.length (List.map PV.str x1) * 16 ≤ 140737488355328 from (by rw [List.length_map]; exact (appL_ok hx1).2.1)) (kc (show List.length (List.map PV.str x1) ≤ 9223372036854775807 from (by rw [List.length_map]; exact (appL_ok hx1).2.2)) (kc (show 0 ≤ List.length ([] : List PV) from (Nat.le_refl _)) .nil))))) ?_
 refine x_toret ?_
 obtain rfl := sj h
 exact x_ret (.usl none (List.take (List.map PV.str x1).length (List.map PV.str x1))) [0] [(List.map PV.str x1).length ≤ List.length (List.map PV.str x1)] (by kernel_rfl) (.cons (Nat.le_refl _) .nil) (by decide) (.of_eq (by rw [List.take_length])) (fun _ => (usl_ns (sh := none) (fun _ => rfl)))
theorem c51 {s_ : (List Str)} {r : (List Str)} (h : slices_Clone_string_string s_ = some r) : CallOK Tryd.prog 51 [.sl none (List.map PV.str s_)] (.usl none (List.map PV.str r)) true := by
 cases s_ with
 | nil =>
   have e : r = [] := by
     simp [slices_Clone_string_string,appL] at h
     first | exact h | exact h.symm
   subst e
   exact CallOK.nilSplit (c51_n (r := []) rfl) (c51_e (r := []) (by simp [slices_Clone_string_string_e,appL]))
 | cons a l => exact c51_p (by simp) h
theorem c52_n {r : (List api_Wait)} (h : slices_Clone_api_Wait_api_Wait_n = some r) : CallOK Tryd.prog 52 [.nilsl] (.usl (some 2) (List.map zE1 r)) true := by
 apply ok52
 unfold slices_Clone_api_Wait_api_Wait_n at h
 refine x_rg (rgn [hE] (⟨[(0,.pv (.nilsl))],[],0⟩)) ?_
 refine x_seq ?_
 refine x_rg (rgn [hE,hE] (⟨[(0,.pv (.nilsl)),(4,pB true)],[],0⟩)) ?_
 refine x_cond true rfl (fun _ => ?_) (fun hc => nomatch hc)
 refine x_rg (rgn [hE] (⟨[(2,.pv (.nilsl))],[],0⟩)) ?_
 refine x_toret (x_tr ?_)
 obtain rfl := sj h
 exact ret0 (.nilsl) (.nilUsl _) (fun _ => (usl_ns (sh := (some 2)) (fun _ => rfl)))
theorem c52_e {r : (List api_Wait)} (h : slices_Clone_api_Wait_api_Wait_e = some r) : CallOK Tryd.prog 52 [.esl (some 2)] (.usl (some 2) (List.map zE1 r)) true := by
 apply ok52
 unfold slices_Clone_api_Wait_api_Wait_e at h
 refine x_rg (rgn [hE] (⟨[(0,.pv (.esl (some 2)))],[],0⟩)) ?_
 refine x_seq ?_
 refine x_rg (rgn [hE,hE] (⟨[(0,.pv (.esl (some 2))),(4,pB false)],[],0⟩)) ?_
 refine x_cond false rfl (fun hc => nomatch hc) (fun _ => ?_)
 refine x_kk (x_skip (x_tn ?_))
 obtain ⟨x1,hx1,h⟩ := bind_some h
 refine x_rg (rg0 [hE,hE,hN (.app (List.map zE1 x1)),hE] (⟨[(2,oL 0 zE1 x1)],[(0,rL (some 2) zE1 x1)],1⟩) (kc (show List.take 0 ([] : List PV) ++ [] = (List.map zE1 x1) from (app_ob hx1 (.rfl _) (.rfl _))) (kc (show List.length (List.map zE1 x1) * 24 ≤ 140737488355328 from (by rw [List.length_map]; exact (appL_ok hx1).2.1)) (kc (show List.length (List.map zE1 x1) ≤ 9223372036854775807 from (by rw [List.length_map]; exact (appL_ok hx1).2.2)) (kc (show 0 ≤ List.length ([] : List PV) from (Nat.le_refl _)) .nil))))) ?_
 refine x_toret ?_
 obtain rfl := sj h
 exact x_ret (.usl (some 2) (List.take (List.map zE1 x1).length (List.map zE1 x1))) [0] [(List.map zE1 x1).length ≤ List.length (List.map zE1 x1)] (by kernel_rfl) (.cons (Nat.le_refl _) .nil) (by decide) (.of_eq (by rw [List.take_length])) (fun _ => (usl_ns (sh := (some 2)) (fun _ => rfl)))
theorem c52_p {s_ : (List api_Wait)} (hne : s_ ≠ []) {r : (List api_Wait)} (h : slices_Clone_api_Wait_api_Wait s_ = some r) : CallOK Tryd.prog 52 [.sl (some 2) (List.map zE1 s_)] (.usl (some 2) (List.map zE1 r)) true := by
 apply ok52
 unfold slices_Clone_api_Wait_api_Wait at h
 refine x_rg (rgn [hE] (⟨[(0,pL (some 2) zE1 s_)],[],0⟩)) ?_
 refine x_seq ?_
 refine x_rg (rg0 [hE,hN .isn] (⟨[(0,pL (some 2) zE1 s_),(4,pB false)],[],0⟩) (kc (show List.isEmpty (List.map zE1 s_) = false from (isEmptyF hne)) .nil)) ?_
 refine x_cond false rfl (fun hc => nomatch hc) (fun _ => ?_)
 refine x_kk (x_skip (x_tn ?_))
 obtain ⟨x1,hx1,h⟩ := bind_some h
 refine x_rg (rg0 [hE,hE,hN (.app (List.map zE1 x1)),hE] (⟨[(2,oL 0 zE1 x1)],[(0,rL (some 2) zE1 x1)],1⟩) (kc (show List.take 0 ([] : List PV) ++ List.map zE1 s_ = (List.map zE1 x1) from (app_ob hx1 (.rfl _) (.rfl _))) (kc (show List.length (List.map zE1 x1) * 24 ≤ 140737488355328 from (by rw [List.length_map]; exact (appL_ok hx1).2.1)) (kc (show List.length (List.map zE1 x1) ≤ 9223372036854775807 from (by rw [List.length_map]; exact (appL_ok hx1).2.2)) (kc (show 0 ≤ List.length ([] : List PV) from (Nat.le_refl _)) .nil))))) ?_
 refine x_toret ?_
 obtain rfl := sj h
 exact x_ret (.usl (some 2) (List.take (List.map zE1 x1).length (List.map zE1 x1))) [0] [(List.map zE1 x1).length ≤ List.length (List.map zE1 x1)] (by kernel_rfl) (.cons (Nat.le_refl _) .nil) (by decide) (.of_eq (by rw [List.take_length])) (fun _ => (usl_ns (sh := (some 2)) (fun _ => rfl)))
theorem c52 {s_ : (List api_Wait)} {r : (List api_Wait)} (h : slices_Clone_api_Wait_api_Wait s_ = some r) : CallOK Tryd.prog 52 [.sl (some 2) (List.map zE1 s_)] (.usl (some 2) (List.map zE1 r)) true := by
 cases s_ with
 | nil =>
   have e : r = [] := by
     simp [slices_Clone_api_Wait_api_Wait,appL] at h
     first | exact h | exact h.symm
   subst e
   exact CallOK.nilSplit (c52_n (r := []) rfl) (c52_e (r := []) (by simp [slices_Clone_api_Wait_api_Wait_e,appL]))
 | cons a l => exact c52_p (by simp) h
theorem c26 {x_ : api_Proc} {r : api_Proc} (h : proc_clone x_ = some r) : CallOK Tryd.prog 26 [zE2 x_] (gA3 r) true := by
 apply ok26
 unfold proc_clone at h
 refine x_rg (rgn [hE,hE] (⟨[oP 1 0,oP 2 1],[rP 0 13 (zE2 x_),rP 1 13 gA4],2⟩)) ?_
 obtain ⟨x1,hx1,h⟩ := bind_some h
 refine x_rg (rg0 [hE,hE,hN (.cal [] (.usl none (List.map PV.str x1)) true),hE,hE] (⟨[oP 1 0,oP 2 2],[rH 0 13 (.agg [pI x_.Id,pI x_.Parent,pI x_.State,pS x_.User,pS x_.Name,pI x_.Ns,pI x_.Env,pI x_.Fds,pS x_.Cwd,oL 1 PV.str x1,pS x_.Status,pL (some 2) zE1 x_.Waits,pB x_.Alone]),(1,rL none PV.str x1),rP 2 13 gA4],3⟩) (kc (c51 hx1) .nil)) ?_
 obtain ⟨x2,hx2,h⟩ := bind_some h
 refine x_rg (rg0 [hE,hE,hN (.cal [] (.usl (some 2) (List.map zE1 x2)) true),hE,hE] (⟨[oP 1 0,oP 2 3],[rH 0 13 (.agg [pI x_.Id,pI x_.Parent,pI x_.State,pS x_.User,pS x_.Name,pI x_.Ns,pI x_.Env,pI x_.Fds,pS x_.Cwd,oL 1 PV.str x1,pS x_.Status,oL 2 zE1 x2,pB x_.Alone]),(1,rL none PV.str x1),(2,rL (some 2) zE1 x2),rP 3 13 gA4],4⟩) (kc (c52 hx2) .nil)) ?_
 refine x_rg (rgn [hE,hE] (⟨[oP 2 0],[rH 0 13 (.agg [pI x_.Id,pI x_.Parent,pI x_.State,pS x_.User,pS x_.Name,pI x_.Ns,pI x_.Env,pI x_.Fds,pS x_.Cwd,oL 1 PV.str x1,pS x_.Status,oL 2 zE1 x2,pB x_.Alone]),(1,rL none PV.str x1),(2,rL (some 2) zE1 x2)],3⟩)) ?_
 refine x_toret ?_
 obtain rfl := sj h
 exact x_ret (.agg [.int .i64 x_.Id,.int .i64 x_.Parent,.int .i64 x_.State,.str x_.User,.str x_.Name,.int .i64 x_.Ns,.int .i64 x_.Env,.int .i64 x_.Fds,.str x_.Cwd,.usl none (List.take (List.map PV.str x1).length (List.map PV.str x1)),.str x_.Status,.usl (some 2) (List.take (List.map zE1 x2).length (List.map zE1 x2)),.bool x_.Alone]) [1,2] [(List.map PV.str x1).length ≤ List.length (List.map PV.str x1),(List.map zE1 x2).length ≤ List.length (List.map zE1 x2)] (by kernel_rfl) (.cons (Nat.le_refl _) (.cons (Nat.le_refl _) .nil)) (by decide) (.agg (.cons (.refl _) (.cons (.refl _) (.cons (.refl _) (.cons (.refl _) (.cons (.refl _) (.cons (.refl _) (.cons (.refl _) (.cons (.refl _) (.cons (.refl _) (.cons (.of_eq (by rw [List.take_length])) (.cons (.refl _) (.cons (.of_eq (by rw [List.take_length])) (.cons (.refl _) .nil)))))))))))))) (fun _ => (agg_ns (.cons rfl (.cons rfl (.cons rfl (.cons rfl (.cons rfl (.cons rfl (.cons rfl (.cons rfl (.cons rfl (.cons (usl_nsU (sh := none) (fun _ => rfl)) (.cons rfl (.cons (usl_nsU (sh := (some 2)) (fun _ => rfl)) (.cons rfl .nil)))))))))))))))
theorem c31 {p : api_Procs} {r : api_Procs} (h : proc_own p = some r) : CallOK Tryd.prog 31 [zE3 p] (gA5 r) false := by
 apply ok31
 unfold proc_own at h
 refine x_rg (rgn [hE,hE] (⟨[oP 1 0,oP 2 1],[rP 0 3 (zE3 p),rP 1 3 gA2],2⟩)) ?_
 obtain ⟨x1,hx1,h⟩ := bind_some h
 refine x_rg (rg0 [hE,hE,hN (.len (List.length p.L : Int)),hN (.mk (List.map zE2 x1)),hE] (⟨[oP 1 0,oP 2 1,(3,oL 2 zE2 x1)],[rP 0 3 (zE3 p),rP 1 3 gA2,(2,some (.p (some 13) (List.map zE2 x1) [(9,none),(11,none)]))],3⟩) (kc (lenM zE2 p.L) (kc (show mkC 168 (.agg [.int .i64 0,.int .i64 0,.int .i64 0,.str [],.str [],.int .i64 0,.int .i64 0,.int .i64 0,.str [],.sl none [],.str [],.sl (some 2) [],.bool false]) (List.length p.L : Int) (List.length p.L : Int) = some (List.map zE2 x1) from (mkC_map (f := zE2) hx1)) .nil))) ?_
 refine x_seq ?_
 refine x_rg (rg0 [hE,hE,hN (.len (List.length p.L : Int)),hE] (⟨[oP 1 0,oP 2 1,(3,oL 2 zE2 x1),(11,pL (some 13) zE2 p.L),(12,pI (List.length p.L : Int)),(13,pI 0)],[rP 0 3 (zE3 p),rP 1 3 gA2,(2,some (.p (some 13) (List.map zE2 x1) [(9,none),(11,none)]))],3⟩) (kc (lenM zE2 p.L) .nil)) ?_
 refine x_block ?_
 refine kw0 (⟨[oP 1 0,oP 2 1,(3,oL 2 zE2 x1),(11,pL (some 13) zE2 p.L),(12,pI (List.length p.L : Int)),(13,pI 0)],[rP 0 3 (zE3 p),rP 1 3 gA2,(2,some (.p (some 13) (List.map zE2 x1) [(9,none),(11,none)]))],3⟩) ?_
 refine x_loop (σ := (Int × (List api_Proc))) h (fun s => ⟨[oP 1 0,oP 2 1,(3,oL 2 zE2 s.2),(11,pL (some 13) zE2 p.L),(12,pI (List.length p.L : Int)),(13,pI s.1)],[rP 0 3 (zE3 p),rP 1 3 gA2,(2,some (.p (some 13) (List.map zE2 s.2) [(9,none),(11,none)]))],3⟩) (by kernel_rfl) ?_ ?_
 ·rintro ⟨v6,l⟩
  kernel_rfl
 rintro ⟨v6,l⟩ x8 h hx8
 replace h : proc_own_L8 p v6 l = some x8 := h
 unfold proc_own_L8 at h
 refine x_rg (rgn [hE] (⟨[oP 1 0,oP 2 1,(3,oL 2 zE2 l),(11,pL (some 13) zE2 p.L),(12,pI (List.length p.L : Int)),(13,pI v6),(14,pB (decide (v6 < (List.length p.L : Int))))],[rP 0 3 (zE3 p),rP 1 3 gA2,(2,some (.p (some 13) (List.map zE2 l) [(9,none),(11,none)]))],3⟩)) ?_
 refine x_seq ?_
 refine x_if h rfl (fun hc9 h => ?_) (fun hc9 h => ?_)
 ·refine x_kk (x_skip (x_tn (x_seq (x_block ?_))))
  obtain ⟨x10,hx10,h⟩ := bind_some h
  refine x_rg (rg0 [hE,hN (.pAt (zE2 x10)),hE,hE,hE,hE] (⟨[oP 1 0,oP 2 1,(3,oL 2 zE2 l),(4,pI v6),oP 5 3,(11,pL (some 13) zE2 p.L),(12,pI (List.length p.L : Int)),(13,pI v6)],[rP 0 3 (zE3 p),rP 1 3 gA2,(2,some (.p (some 13) (List.map zE2 l) [(9,none),(11,none)])),rP 3 13 (zE2 x10)],4⟩) (kc (lsAt_map (f := zE2) hx10) .nil)) ?_
  obtain ⟨x11,hx11,h⟩ := bind_some h
  obtain ⟨x12,hx12,h⟩ := bind_some h
  refine x_rgt (st2 := { tm := [oP 1 0,oP 2 1,(3,.osl 2 0 (List.map zE2 (List.set l (Int.toNat v6) x11)).length),(11,.pv (.sl (some 13) (List.map zE2 p.L))),(12,.pv (.int .i64 (List.length p.L : Int))),(13,.pv (.int .i64 v6))],hp := [rP 0 3 (zE3 p),rP 1 3 gA2,(2,some (.p (some 13) (List.map zE2 (List.set l (Int.toNat v6) x11)) [(9,none),(11,none)]))],nx := 3 }) (rg [hE,hE,hE,hN (.cal [] (gA3 x11) true),hN .rAt,hN (.put (gA6 x12) (List.map zE2 (List.set l (Int.toNat v6) x11)))] ({ tm := [oP 1 0,oP 2 1,(3,.osl 2 0 (List.map zE2 l).length),(11,.pv (.sl (some 13) (List.map zE2 p.L))),(12,.pv (.int .i64 (List.length p.L : Int))),(13,.pv (.int .i64 v6))],hp := [rP 0 3 (zE3 p),rP 1 3 gA2,(2,some (.p (some 13) (List.map zE2 (List.set l (Int.toNat v6) x11)) [(9,none),(11,none)]))],nx := 3 }) (kc (c26 hx11) (kc (rAtM (f := zE2) hx12) (kc (ownAt (f := zE2) hx12) (kc (show List.set (List.map zE2 l) (0 + Int.toNat v6) (gA6 x11) = (List.map zE2 (List.set l (Int.toNat v6) x11)) from (by rw [Nat.zero_add,List.map_set]; try rfl)) (kc (show (List.map PV.str x11.Notes).length = List.length (List.map PV.str x11.Notes) from rfl) (kc (show (List.map zE1 x11.Waits).length = List.length (List.map zE1 x11.Waits) from rfl) .nil)))))) (Sub.of_eq (by simp only [List.length_map,List.length_set]))) ?_
  refine x_bn (x_tn ?_)
  refine x_rgt (rgn [hE,hE] (⟨[oP 1 0,oP 2 1,(3,oL 2 zE2 (List.set l (Int.toNat v6) x11)),(11,pL (some 13) zE2 p.L),(12,pI (List.length p.L : Int)),(13,pI (IntKind.wrap .i64 (v6 + 1)))],[rP 0 3 (zE3 p),rP 1 3 gA2,(2,some (.p (some 13) (List.map zE2 (List.set l (Int.toNat v6) x11)) [(9,none),(11,none)]))],3⟩)) ?_
  refine x_tn ?_
  exact ⟨_,(sj h).symm,by kernel_rfl⟩
 refine kw0 (⟨[oP 1 0,oP 2 1,(3,oL 2 zE2 l)],[rP 0 3 (zE3 p),rP 1 3 gA2,(2,some (.p (some 13) (List.map zE2 l) [(9,none),(11,none)]))],3⟩) ?_
 refine x_exit ?_
 refine x_te (x_te ?_)
 replace h := done_leaf h hx8
 refine x_bh ?_
 refine x_tn ?_
 refine x_rg (rgn [hE,hE,hE] (⟨[oP 1 0,oP 2 2],[rH 0 3 (.agg [pI p.Next,pI p.Group,oL 1 zE2 l]),(1,some (.p (some 13) (List.map zE2 l) [(9,none),(11,none)])),rP 2 3 gA2],3⟩)) ?_
 refine x_rg (rgn [hE,hE] (⟨[oP 2 0],[rH 0 3 (.agg [pI p.Next,pI p.Group,oL 1 zE2 l]),(1,some (.p (some 13) (List.map zE2 l) [(9,none),(11,none)]))],2⟩)) ?_
 refine x_toret ?_
 obtain rfl := sj h
 exact x_ret (.agg [.int .i64 p.Next,.int .i64 p.Group,.dsl (some 13) (List.map zE2 l) [9,11]]) [1] [(List.map zE2 l).length = List.length (List.map zE2 l)] (by kernel_rfl) (.cons rfl .nil) (by decide) (.refl _) (fun h => nomatch h)
theorem c50 {x_ : api_Proc} {a1 : Int} {r : Bool} (h : proc_index_1 x_ a1 = some r) : CallOK Tryd.prog 50 [zE2 x_,.rptr none (.int .i64 a1) 0] (.bool r) true := by
 apply ok50
 unfold proc_index_1 at h
 refine x_rg (rgn [hE,hE] (⟨[(1,.pv (.rptr none (.int .i64 a1) 0)),oP 2 0],[rP 0 13 (zE2 x_)],1⟩)) ?_
 refine x_rg (rgn [hE,hE,hE,hE,hE] (⟨[(3,pB (decide (x_.Id = a1)))],[],0⟩)) ?_
 refine x_toret ?_
 obtain rfl := sj h
 exact ret0 (.bool (decide (x_.Id = a1))) (.refl _) (fun _ => rfl)
theorem c49_f50 {s_ : (List api_Proc)} {f : Int} {r : Int} (h : slices_IndexFunc_api_Proc_api_Proc_f50 s_ f = some r) : CallOK Tryd.prog 49 [.sl (some 13) (List.map zE2 s_),.fn 50 [.rptr none (.int .i64 f) 0]] (.int .i64 r) true := by
 apply ok49
 unfold slices_IndexFunc_api_Proc_api_Proc_f50 at h
 refine x_rg (rgn [hE] (⟨[(0,pL (some 13) zE2 s_),(1,.pv (.fn 50 [.rptr none (.int .i64 f) 0]))],[],0⟩)) ?_
 refine x_seq ?_
 refine x_rg (rg0 [hE,hN (.len (List.length s_ : Int)),hE] (⟨[(0,pL (some 13) zE2 s_),(1,.pv (.fn 50 [.rptr none (.int .i64 f) 0])),(7,pI (List.length s_ : Int)),(8,pI 0)],[],0⟩) (kc (lenM zE2 s_) .nil)) ?_
 refine x_block ?_
 refine kw0 (⟨[(0,pL (some 13) zE2 s_),(1,.pv (.fn 50 [.rptr none (.int .i64 f) 0])),(7,pI (List.length s_ : Int)),(8,pI 0)],[],0⟩) ?_
 refine x_loop (σ := Int) h (fun s => ⟨[(0,pL (some 13) zE2 s_),(1,.pv (.fn 50 [.rptr none (.int .i64 f) 0])),(7,pI (List.length s_ : Int)),(8,pI s)],[],0⟩) (by kernel_rfl) ?_ ?_
 ·rintro v5
  kernel_rfl
 rintro v5 x6 h hx6
 replace h : slices_IndexFunc_api_Proc_api_Proc_f50_L6 s_ f v5 = some x6 := h
 unfold slices_IndexFunc_api_Proc_api_Proc_f50_L6 at h
 refine x_rg (rgn [hE] (⟨[(0,pL (some 13) zE2 s_),(1,.pv (.fn 50 [.rptr none (.int .i64 f) 0])),(7,pI (List.length s_ : Int)),(8,pI v5),(9,pB (decide (v5 < (List.length s_ : Int))))],[],0⟩)) ?_
 refine x_seq ?_
 refine x_if h rfl (fun hc7 h => ?_) (fun hc7 h => ?_)
 ·refine x_kk (x_skip (x_tn (x_seq (x_block ?_))))
  refine x_rg (rgn [hE,hE] (⟨[(0,pL (some 13) zE2 s_),(1,.pv (.fn 50 [.rptr none (.int .i64 f) 0])),(5,pI v5),(7,pI (List.length s_ : Int)),(8,pI v5)],[],0⟩)) ?_
  obtain ⟨x8,hx8,h⟩ := bind_some h
  obtain ⟨x9,hx9,h⟩ := bind_some h
  refine x_rg (rg0 [hE,hE,hE,hN (.pAt (zE2 x8)),hE,hN (.cal [] (.bool x9) true)] (⟨[(0,pL (some 13) zE2 s_),(1,.pv (.fn 50 [.rptr none (.int .i64 f) 0])),(5,pI v5),(7,pI (List.length s_ : Int)),(8,pI v5),(16,pB x9)],[],0⟩) (kc (lsAt_map (f := zE2) hx8) (kc (c50 hx9) .nil))) ?_
  refine x_if h rfl (fun hc10 h => ?_) (fun hc10 h => ?_)
  ·refine x_rg (rgn [hE,hE] (⟨[(4,pI v5)],[],0⟩)) ?_
   refine x_toret (x_br (x_tr (x_tr ?_)))
   replace h := done_leaf h hx6
   refine x_br (x_tr ?_)
   obtain rfl := sj h
   exact ret0 (.int .i64 v5) (.refl _) (fun _ => rfl)
  refine x_kk (x_skip (x_bn (x_tn ?_)))
  refine x_rgt (rgn [hE,hE] (⟨[(0,pL (some 13) zE2 s_),(1,.pv (.fn 50 [.rptr none (.int .i64 f) 0])),(7,pI (List.length s_ : Int)),(8,pI (IntKind.wrap .i64 (v5 + 1)))],[],0⟩)) ?_
  refine x_tn ?_
  exact ⟨_,(sj h).symm,by kernel_rfl⟩
 refine kw0 (⟨[],[],0⟩) ?_
 refine x_exit ?_
 refine x_te (x_te ?_)
 replace h := done_leaf h hx6
 refine x_bh ?_
 refine x_tn ?_
 refine x_rg (rgn [hE] (⟨[(4,pI (-1))],[],0⟩)) ?_
 refine x_toret ?_
 obtain rfl := sj h
 exact ret0 (.int .i64 (-1)) (.refl _) (fun _ => rfl)
theorem c25 {p : api_Procs} {id : Int} {r : Int} (h : proc_index p id = some r) : CallOK Tryd.prog 25 [zE3 p,.int .i64 id] (.int .i64 r) true := by
 apply ok25
 unfold proc_index at h
 refine x_rg (rgn [hE,hE,hE] (⟨[oP 2 0,oP 3 1],[rP 0 3 (zE3 p),(1,some (.p none [.int .i64 id]))],2⟩)) ?_
 obtain ⟨x1,hx1,h⟩ := bind_some h
 refine x_rg (rg0 [hE,hE,hE,hN (.cal [] (.int .i64 x1) true),hE] (⟨[(4,pI x1)],[],0⟩) (kc (c49_f50 hx1) .nil)) ?_
 refine x_toret ?_
 obtain rfl := sj h
 exact ret0 (.int .i64 x1) (.refl _) (fun _ => rfl)
theorem c35 {x_ : api_Proc} {a1 : Int} {r : Bool} (h : proc_Await_1 x_ a1 = some r) : CallOK Tryd.prog 35 [zE2 x_,.rptr none (.int .i64 a1) 0] (.bool r) true := by
 apply ok35
 unfold proc_Await_1 at h
 refine x_rg (rgn [hE,hE] (⟨[(1,.pv (.rptr none (.int .i64 a1) 0)),oP 2 0],[rP 0 13 (zE2 x_)],1⟩)) ?_
 refine x_rgB (fun b_ => (⟨[(3,pB b_)],[],0⟩ : VSt)) ((decide (x_.Parent = a1)) && (!x_.Alone)) ?_ ?_
 ·rcases bq (decide (x_.Parent = a1)) with hg1 | hg1
  ·exact rb [hE,hE,hE,hE,hE,hY,hY,hY,hN (.pk true),hE] (!x_.Alone) (hk4 hg1 .nil) (by simp only [hg1,bs,reduceIte])
  exact rb [hE,hE,hE,hE,hE,hS,hS,hS,hN (.pk false),hE] false (hk4 hg1 .nil) (by simp only [hg1,bs,reduceIte])
 refine x_toret ?_
 obtain rfl := sj h
 exact ret0 (.bool ((decide (x_.Parent = a1)) && (!x_.Alone))) (.refl _) (fun _ => rfl)
theorem c49_f35 {s_ : (List api_Proc)} {f : Int} {r : Int} (h : slices_IndexFunc_api_Proc_api_Proc_f35 s_ f = some r) : CallOK Tryd.prog 49 [.sl (some 13) (List.map zE2 s_),.fn 35 [.rptr none (.int .i64 f) 0]] (.int .i64 r) true := by
 apply ok49
 unfold slices_IndexFunc_api_Proc_api_Proc_f35 at h
 refine x_rg (rgn [hE] (⟨[(0,pL (some 13) zE2 s_),(1,.pv (.fn 35 [.rptr none (.int .i64 f) 0]))],[],0⟩)) ?_
 refine x_seq ?_
 refine x_rg (rg0 [hE,hN (.len (List.length s_ : Int)),hE] (⟨[(0,pL (some 13) zE2 s_),(1,.pv (.fn 35 [.rptr none (.int .i64 f) 0])),(7,pI (List.length s_ : Int)),(8,pI 0)],[],0⟩) (kc (lenM zE2 s_) .nil)) ?_
 refine x_block ?_
 refine kw0 (⟨[(0,pL (some 13) zE2 s_),(1,.pv (.fn 35 [.rptr none (.int .i64 f) 0])),(7,pI (List.length s_ : Int)),(8,pI 0)],[],0⟩) ?_
 refine x_loop (σ := Int) h (fun s => ⟨[(0,pL (some 13) zE2 s_),(1,.pv (.fn 35 [.rptr none (.int .i64 f) 0])),(7,pI (List.length s_ : Int)),(8,pI s)],[],0⟩) (by kernel_rfl) ?_ ?_
 ·rintro v5
  kernel_rfl
 rintro v5 x6 h hx6
 replace h : slices_IndexFunc_api_Proc_api_Proc_f35_L6 s_ f v5 = some x6 := h
 unfold slices_IndexFunc_api_Proc_api_Proc_f35_L6 at h
 refine x_rg (rgn [hE] (⟨[(0,pL (some 13) zE2 s_),(1,.pv (.fn 35 [.rptr none (.int .i64 f) 0])),(7,pI (List.length s_ : Int)),(8,pI v5),(9,pB (decide (v5 < (List.length s_ : Int))))],[],0⟩)) ?_
 refine x_seq ?_
 refine x_if h rfl (fun hc7 h => ?_) (fun hc7 h => ?_)
 ·refine x_kk (x_skip (x_tn (x_seq (x_block ?_))))
  refine x_rg (rgn [hE,hE] (⟨[(0,pL (some 13) zE2 s_),(1,.pv (.fn 35 [.rptr none (.int .i64 f) 0])),(5,pI v5),(7,pI (List.length s_ : Int)),(8,pI v5)],[],0⟩)) ?_
  obtain ⟨x8,hx8,h⟩ := bind_some h
  obtain ⟨x9,hx9,h⟩ := bind_some h
  refine x_rg (rg0 [hE,hE,hE,hN (.pAt (zE2 x8)),hE,hN (.cal [] (.bool x9) true)] (⟨[(0,pL (some 13) zE2 s_),(1,.pv (.fn 35 [.rptr none (.int .i64 f) 0])),(5,pI v5),(7,pI (List.length s_ : Int)),(8,pI v5),(16,pB x9)],[],0⟩) (kc (lsAt_map (f := zE2) hx8) (kc (c35 hx9) .nil))) ?_
  refine x_if h rfl (fun hc10 h => ?_) (fun hc10 h => ?_)
  ·refine x_rg (rgn [hE,hE] (⟨[(4,pI v5)],[],0⟩)) ?_
   refine x_toret (x_br (x_tr (x_tr ?_)))
   replace h := done_leaf h hx6
   refine x_br (x_tr ?_)
   obtain rfl := sj h
   exact ret0 (.int .i64 v5) (.refl _) (fun _ => rfl)
  refine x_kk (x_skip (x_bn (x_tn ?_)))
  refine x_rgt (rgn [hE,hE] (⟨[(0,pL (some 13) zE2 s_),(1,.pv (.fn 35 [.rptr none (.int .i64 f) 0])),(7,pI (List.length s_ : Int)),(8,pI (IntKind.wrap .i64 (v5 + 1)))],[],0⟩)) ?_
  refine x_tn ?_
  exact ⟨_,(sj h).symm,by kernel_rfl⟩
 refine kw0 (⟨[],[],0⟩) ?_
 refine x_exit ?_
 refine x_te (x_te ?_)
 replace h := done_leaf h hx6
 refine x_bh ?_
 refine x_tn ?_
 refine x_rg (rgn [hE] (⟨[(4,pI (-1))],[],0⟩)) ?_
 refine x_toret ?_
 obtain rfl := sj h
 exact ret0 (.int .i64 (-1)) (.refl _) (fun _ => rfl)
theorem c34_f35 {s_ : (List api_Proc)} {f : Int} {r : Bool} (h : slices_ContainsFunc_api_Proc_api_Proc_f35 s_ f = some r) : CallOK Tryd.prog 34 [.sl (some 13) (List.map zE2 s_),.fn 35 [.rptr none (.int .i64 f) 0]] (.bool r) true := by
 apply ok34
 unfold slices_ContainsFunc_api_Proc_api_Proc_f35 at h
 refine x_rg (rgn [hE] (⟨[(0,pL (some 13) zE2 s_),(1,.pv (.fn 35 [.rptr none (.int .i64 f) 0]))],[],0⟩)) ?_
 obtain ⟨x1,hx1,h⟩ := bind_some h
 refine x_rg (rg0 [hE,hE,hN (.cal [] (.int .i64 x1) true),hE,hE] (⟨[(4,pB (decide (0 ≤ x1)))],[],0⟩) (kc (c49_f35 hx1) .nil)) ?_
 refine x_toret ?_
 obtain rfl := sj h
 exact ret0 (.bool (decide (0 ≤ x1))) (.refl _) (fun _ => rfl)
theorem c19 {p : api_Procs} {id : Int} {r : (api_Procs × api_Wait × Bool × Int)} (h : proc_Await p id = some r) : CallOK Tryd.prog 19 [zE3 p,.int .i64 id] (.tup [(gA1 r.1),zE1 r.2.1,.bool r.2.2.1,.int .i64 r.2.2.2]) false := by
 apply ok19
 unfold proc_Await at h
 refine x_rg (rgn [hE,hE,hE,hE,hE,hE] (⟨[oP 2 0,oP 3 1,oP 4 2,oP 5 3],[rP 0 3 (zE3 p),(1,some (.p none [.int .i64 id])),rP 2 3 gA2,rP 3 2 (.agg [.int .i64 0,.str []])],4⟩)) ?_
 obtain ⟨x1,hx1,h⟩ := bind_some h
 refine x_rg (rg0 [hE,hN (.cal [] (gA5 x1) false),hE,hE] (⟨[oP 3 0,oP 4 1,oP 5 2,oP 8 3],[(0,some (.p none [.int .i64 id])),rP 1 3 gA2,rP 2 2 (.agg [.int .i64 0,.str []]),rH 3 3 (gA7 x1 4),(4,some (.p (some 13) (List.map zE2 x1.L) [(9,none),(11,none)]))],5⟩) (kc (c31 hx1) .nil)) ?_
 obtain ⟨x2,hx2,h⟩ := bind_some h
 refine x_rg (rg0 [hE,hE,hN (.call [] [(gA8 x1),.int .i64 id] (.int .i64 x2) true),hE] (⟨[oP 3 0,oP 4 1,oP 5 2,oP 8 3,(9,pI x2)],[(0,some (.p none [.int .i64 id])),rP 1 3 gA2,rP 2 2 (.agg [.int .i64 0,.str []]),rH 3 3 (gA7 x1 4),(4,some (.p (some 13) (List.map zE2 x1.L) [(9,none),(11,none)]))],5⟩) (kc (show LesA [(gA9 x1),.int .i64 id] [(gA8 x1),.int .i64 id] from (.cons (.agg (.cons (.refl _) (.cons (.refl _) (.cons (.of_eq (by rw [List.drop_zero,List.take_length])) .nil)))) (.cons (.refl _) .nil))) (kc (c25 hx2) (kc (le0 (List.map zE2 x1.L)) .nil)))) ?_
 refine x_seq ?_
 refine x_rg (rgn [hE,hE] (⟨[oP 3 0,oP 4 1,oP 5 2,oP 8 3,(9,pI x2),(17,pB (decide (x2 < 0)))],[(0,some (.p none [.int .i64 id])),rP 1 3 gA2,rP 2 2 (.agg [.int .i64 0,.str []]),rH 3 3 (gA7 x1 4),(4,some (.p (some 13) (List.map zE2 x1.L) [(9,none),(11,none)]))],5⟩)) ?_
 refine x_if h rfl (fun hc3 h => ?_) (fun hc3 h => ?_)
 ·refine x_rg (rgn [hE,hE,hE,hE,hE,hE] (⟨[oP 4 0,oP 5 2,(6,pB false),(7,pI 42)],[rH 0 3 (gA7 x1 1),(1,some (.p (some 13) (List.map zE2 x1.L) [(9,none),(11,none)])),rP 2 2 (.agg [.int .i64 0,.str []])],3⟩)) ?_
  refine x_toret (x_tr ?_)
  obtain rfl := sj h
  exact x_ret (.tup [(gA5 x1),.agg [.int .i64 0,.str []],.bool false,.int .i64 42]) [1] [(List.map zE2 x1.L).length = List.length (List.map zE2 x1.L)] (by kernel_rfl) (.cons rfl .nil) (by decide) (.tup (.cons (.agg (.cons (.refl _) (.cons (.refl _) (.cons (.dslU _ _ _) .nil)))) (.cons (.refl _) (.cons (.refl _) (.cons (.refl _) .nil))))) (fun h => nomatch h)
 refine x_kk (x_skip (x_tn (x_seq ?_)))
 obtain ⟨x4,hx4,h⟩ := bind_some h
 refine x_rg (rg0 [hE,hE,hE,hN .rAt,hE,hN (.ld (zE2 x4)),hE] (⟨[oP 3 0,oP 4 1,oP 5 2,oP 8 3,(9,pI x2),(10,pL (some 2) zE1 x4.Waits)],[(0,some (.p none [.int .i64 id])),rP 1 3 gA2,rP 2 2 (.agg [.int .i64 0,.str []]),rH 3 3 (gA7 x1 4),(4,some (.p (some 13) (List.map zE2 x1.L) [(9,none),(11,none)]))],5⟩) (kc (rAtM (f := zE2) hx4) (kc (ownAt (f := zE2) hx4) .nil))) ?_
 refine x_rg (rg0 [hE,hN (.len (List.length x4.Waits : Int)),hE] (⟨[oP 3 0,oP 4 1,oP 5 2,oP 8 3,(9,pI x2),(10,pL (some 2) zE1 x4.Waits),(28,pB (decide (0 < (List.length x4.Waits : Int))))],[(0,some (.p none [.int .i64 id])),rP 1 3 gA2,rP 2 2 (.agg [.int .i64 0,.str []]),rH 3 3 (gA7 x1 4),(4,some (.p (some 13) (List.map zE2 x1.L) [(9,none),(11,none)]))],5⟩) (kc (lenM zE1 x4.Waits) .nil)) ?_
 refine x_if h rfl (fun hc5 h => ?_) (fun hc5 h => ?_)
 ·obtain ⟨x6,hx6,h⟩ := bind_some h
  obtain ⟨x7,hx7,h⟩ := bind_some h
  refine x_rg (st2 := { tm := [oP 4 0,oP 5 1,oP 8 2,(10,.pv (.sl (some 2) (List.map zE1 x4.Waits)))],hp := [rP 0 3 gA2,rP 1 2 (.agg [.int .i64 0,.str []]),rH 2 3 (.agg [.pv (.int .i64 x1.Next),.pv (.int .i64 x1.Group),.osl 3 0 (List.map zE2 (List.set x1.L (Int.toNat x2) (api_Proc.mk x7.Id x7.Parent x7.State x7.User x7.Name x7.Ns x7.Env x7.Fds x7.Cwd x7.Notes x7.Status x6 x7.Alone))).length]),(3,some (.p (some 13) (List.map zE2 (List.set x1.L (Int.toNat x2) (api_Proc.mk x7.Id x7.Parent x7.State x7.User x7.Name x7.Ns x7.Env x7.Fds x7.Cwd x7.Notes x7.Status x6 x7.Alone))) [(9,none)]))],nx := 4 }) (rg [hE,hE,hE,hE,hN (.cutP (List.map zE1 x6)),hN .rAt,hE,hN (.put (gA6 x7) (List.map zE2 (List.set x1.L (Int.toNat x2) (api_Proc.mk x7.Id x7.Parent x7.State x7.User x7.Name x7.Ns x7.Env x7.Fds x7.Cwd x7.Notes x7.Status x6 x7.Alone))))] ({ tm := [oP 4 0,oP 5 1,oP 8 2,(10,.pv (.sl (some 2) (List.map zE1 x4.Waits)))],hp := [rP 0 3 gA2,rP 1 2 (.agg [.int .i64 0,.str []]),rH 2 3 (gA10 x1),(3,some (.p (some 13) (List.map zE2 (List.set x1.L (Int.toNat x2) (api_Proc.mk x7.Id x7.Parent x7.State x7.User x7.Name x7.Ns x7.Env x7.Fds x7.Cwd x7.Notes x7.Status x6 x7.Alone))) [(9,none)]))],nx := 4 }) (kc (show cut (List.map zE1 x4.Waits) 1 (List.length (List.map zE1 x4.Waits) : Int) = some (List.map zE1 x6) from (cut_map_end hx6)) (kc (rAtM (f := zE2) hx7) (kc (ownAt (f := zE2) hx7) (kc (show List.set (List.map zE2 x1.L) (0 + Int.toNat x2) (.agg [.int .i64 x7.Id,.int .i64 x7.Parent,.int .i64 x7.State,.str x7.User,.str x7.Name,.int .i64 x7.Ns,.int .i64 x7.Env,.int .i64 x7.Fds,.str x7.Cwd,.sl none (List.map PV.str x7.Notes),.str x7.Status,.sl (some 2) (List.map zE1 x6),.bool x7.Alone]) = (List.map zE2 (List.set x1.L (Int.toNat x2) (api_Proc.mk x7.Id x7.Parent x7.State x7.User x7.Name x7.Ns x7.Env x7.Fds x7.Cwd x7.Notes x7.Status x6 x7.Alone))) from (by rw [Nat.zero_add,List.map_set]; try rfl)) .nil)))) (Sub.of_eq (by simp only [List.length_map,List.length_set,gA10]))) ?_
  obtain ⟨x8,hx8,h⟩ := bind_some h
  refine x_rg (rg0 [hE,hE,hN (.pAt (zE1 x8)),hE,hE,hE,hE,hE] (⟨[oP 4 0,oP 5 2,(6,pB false),(7,pI 0)],[rH 0 3 (.agg [pI x1.Next,pI x1.Group,oL 1 zE2 (List.set x1.L (Int.toNat x2) (api_Proc.mk x7.Id x7.Parent x7.State x7.User x7.Name x7.Ns x7.Env x7.Fds x7.Cwd x7.Notes x7.Status x6 x7.Alone))]),(1,some (.p (some 13) (List.map zE2 (List.set x1.L (Int.toNat x2) (api_Proc.mk x7.Id x7.Parent x7.State x7.User x7.Name x7.Ns x7.Env x7.Fds x7.Cwd x7.Notes x7.Status x6 x7.Alone))) [(9,none)])),rP 2 2 (zE1 x8)],3⟩) (kc (lsAt_map (f := zE1) hx8) .nil)) ?_
  refine x_toret (x_tr ?_)
  obtain rfl := sj h
  exact x_ret (.tup [.agg [.int .i64 x1.Next,.int .i64 x1.Group,.dsl (some 13) (List.map zE2 (List.set x1.L (Int.toNat x2) (api_Proc.mk x7.Id x7.Parent x7.State x7.User x7.Name x7.Ns x7.Env x7.Fds x7.Cwd x7.Notes x7.Status x6 x7.Alone))) [9]],zE1 x8,.bool false,.int .i64 0]) [1] [(List.map zE2 (List.set x1.L (Int.toNat x2) (api_Proc.mk x7.Id x7.Parent x7.State x7.User x7.Name x7.Ns x7.Env x7.Fds x7.Cwd x7.Notes x7.Status x6 x7.Alone))).length = List.length (List.map zE2 (List.set x1.L (Int.toNat x2) (api_Proc.mk x7.Id x7.Parent x7.State x7.User x7.Name x7.Ns x7.Env x7.Fds x7.Cwd x7.Notes x7.Status x6 x7.Alone)))] (by kernel_rfl) (.cons rfl .nil) (by decide) (.tup (.cons (.agg (.cons (.refl _) (.cons (.refl _) (.cons (.dslU _ _ _) .nil)))) (.cons (.refl _) (.cons (.refl _) (.cons (.refl _) .nil))))) (fun h => nomatch h)
 refine x_kk (x_skip (x_tn (x_seq ?_)))
 obtain ⟨x9,hx9,h⟩ := bind_some h
 refine x_rg (rg0 [hE,hE,hE,hN (.call [] [.sl (some 13) (List.map zE2 x1.L),.fn 35 [.rptr none (.int .i64 id) 0]] (.bool x9) true)] (⟨[oP 4 0,oP 5 1,oP 8 2,(43,pB x9)],[rP 0 3 gA2,rP 1 2 (.agg [.int .i64 0,.str []]),rH 2 3 (gA7 x1 3),(3,some (.p (some 13) (List.map zE2 x1.L) [(9,none),(11,none)]))],4⟩) (kc (show LesA [.sl (some 13) (List.take (List.map zE2 x1.L).length (List.drop 0 (List.map zE2 x1.L))),.fn 35 [.rptr none (.int .i64 id) 0]] [.sl (some 13) (List.map zE2 x1.L),.fn 35 [.rptr none (.int .i64 id) 0]] from (.cons (.of_eq (by rw [List.drop_zero,List.take_length])) (.cons (.refl _) .nil))) (kc (c34_f35 hx9) (kc (le0 (List.map zE2 x1.L)) .nil)))) ?_
 refine x_if h rfl (fun hc10 h => ?_) (fun hc10 h => ?_)
 ·refine x_rg (rgn [hE,hE,hE,hE,hE,hE] (⟨[oP 4 0,oP 5 2,(6,pB true),(7,pI 0)],[rH 0 3 (gA7 x1 1),(1,some (.p (some 13) (List.map zE2 x1.L) [(9,none),(11,none)])),rP 2 2 (.agg [.int .i64 0,.str []])],3⟩)) ?_
  refine x_toret (x_tr ?_)
  obtain rfl := sj h
  exact x_ret (.tup [(gA5 x1),.agg [.int .i64 0,.str []],.bool true,.int .i64 0]) [1] [(List.map zE2 x1.L).length = List.length (List.map zE2 x1.L)] (by kernel_rfl) (.cons rfl .nil) (by decide) (.tup (.cons (.agg (.cons (.refl _) (.cons (.refl _) (.cons (.dslU _ _ _) .nil)))) (.cons (.refl _) (.cons (.refl _) (.cons (.refl _) .nil))))) (fun h => nomatch h)
 refine x_kk (x_skip (x_tn ?_))
 refine x_rg (rgn [hE,hE,hE,hE,hE,hE] (⟨[oP 4 0,oP 5 2,(6,pB false),(7,pI 42)],[rH 0 3 (gA7 x1 1),(1,some (.p (some 13) (List.map zE2 x1.L) [(9,none),(11,none)])),rP 2 2 (.agg [.int .i64 0,.str []])],3⟩)) ?_
 refine x_toret ?_
 obtain rfl := sj h
 exact x_ret (.tup [(gA5 x1),.agg [.int .i64 0,.str []],.bool false,.int .i64 42]) [1] [(List.map zE2 x1.L).length = List.length (List.map zE2 x1.L)] (by kernel_rfl) (.cons rfl .nil) (by decide) (.tup (.cons (.agg (.cons (.refl _) (.cons (.refl _) (.cons (.dslU _ _ _) .nil)))) (.cons (.refl _) (.cons (.refl _) (.cons (.refl _) .nil))))) (fun h => nomatch h)
theorem c36 {flags : Int} {r : Bool} (h : proc_contradicts flags = some r) : CallOK Tryd.prog 36 [.int .i64 flags] (.bool r) true := by
 apply ok36
 unfold proc_contradicts at h
 refine x_rg (rgn [hE] (⟨[(0,pI flags)],[],0⟩)) ?_
 refine x_seq ?_
 refine x_rg (rgn [hE,hE,hE] (⟨[(0,pI flags),(5,.osl 0 0 3),(6,pI 3),(7,pI 0)],[(0,some (.p none [.int .i64 9,.int .i64 18,.int .i64 36]))],1⟩)) ?_
 refine x_block ?_
 refine kw0 (⟨[(0,pI flags),(5,.osl 0 0 3),(6,pI 3),(7,pI 0)],[(0,some (.p none [.int .i64 9,.int .i64 18,.int .i64 36]))],1⟩) ?_
 refine x_loop (σ := Int) h (fun s => ⟨[(0,pI flags),(5,.osl 0 0 3),(6,pI 3),(7,pI s)],[(0,some (.p none [.int .i64 9,.int .i64 18,.int .i64 36]))],1⟩) (by kernel_rfl) ?_ ?_
 ·rintro v2
  kernel_rfl
 rintro v2 x3 h hx3
 replace h : proc_contradicts_L3 flags v2 = some x3 := h
 unfold proc_contradicts_L3 at h
 refine x_rg (rgn [hE] (⟨[(0,pI flags),(5,.osl 0 0 3),(6,pI 3),(7,pI v2),(8,pB (decide (v2 < 3)))],[(0,some (.p none [.int .i64 9,.int .i64 18,.int .i64 36]))],1⟩)) ?_
 refine x_seq ?_
 refine x_if h rfl (fun hc4 h => ?_) (fun hc4 h => ?_)
 ·refine x_kk (x_skip (x_tn (x_seq (x_block ?_))))
  obtain ⟨x5,hx5,h⟩ := bind_some h
  refine x_rg (rg0 [hN .rAt,hN (.ld (.int .i64 x5)),hE] (⟨[(0,pI flags),(4,pI x5),(5,.osl 0 0 3),(6,pI 3),(7,pI v2)],[(0,some (.p none [.int .i64 9,.int .i64 18,.int .i64 36]))],1⟩) (kc (show 0 ≤ (v2 : Int) ∧ Int.toNat v2 < 3 from (rAt_ob hx5 (by simp))) (kc (ownAt (f := (PV.int .i64)) hx5) .nil))) ?_
  refine x_rg (rgn [hE,hE,hE,hE,hE] (⟨[(0,pI flags),(5,.osl 0 0 3),(6,pI 3),(7,pI v2),(15,pB (decide ((IntKind.wrap .i64 ((BitVec.ofInt (IntKind.bits .i64) flags &&& (BitVec.ofInt (IntKind.bits .i64) x5)).toNat : Nat)) = x5)))],[(0,some (.p none [.int .i64 9,.int .i64 18,.int .i64 36]))],1⟩)) ?_
  refine x_if h rfl (fun hc6 h => ?_) (fun hc6 h => ?_)
  ·refine x_rg (rgn [hE] (⟨[(2,pB true)],[],0⟩)) ?_
   refine x_toret (x_br (x_tr (x_tr ?_)))
   replace h := done_leaf h hx3
   refine x_br (x_tr ?_)
   obtain rfl := sj h
   exact ret0 (.bool true) (.refl _) (fun _ => rfl)
  refine x_kk (x_skip (x_bn (x_tn ?_)))
  refine x_rgt (rgn [hE,hE] (⟨[(0,pI flags),(5,.osl 0 0 3),(6,pI 3),(7,pI (IntKind.wrap .i64 (v2 + 1)))],[(0,some (.p none [.int .i64 9,.int .i64 18,.int .i64 36]))],1⟩)) ?_
  refine x_tn ?_
  exact ⟨_,(sj h).symm,by kernel_rfl⟩
 refine kw0 (⟨[],[],0⟩) ?_
 refine x_exit ?_
 refine x_te (x_te ?_)
 replace h := done_leaf h hx3
 refine x_bh ?_
 refine x_tn ?_
 refine x_rg (rgn [hE] (⟨[(2,pB false)],[],0⟩)) ?_
 refine x_toret ?_
 obtain rfl := sj h
 exact ret0 (.bool false) (.refl _) (fun _ => rfl)
theorem c20 {p : api_Procs} {id : Int} {flags : Int} {r : (api_Procs × Int × Int)} (h : proc_Fork p id flags = some r) : CallOK Tryd.prog 20 [zE3 p,.int .i64 id,.int .i64 flags] (.tup [(gA1 r.1),.int .i64 r.2.1,.int .i64 r.2.2]) false := by
 apply ok20
 unfold proc_Fork at h
 refine x_rg (rgn [hE,hE,hE,hE,hE] (⟨[(1,pI id),oP 3 0,oP 5 1,oP 6 2],[rP 0 3 (zE3 p),(1,some (.p none [.int .i64 flags])),rP 2 3 gA2],3⟩)) ?_
 obtain ⟨x1,hx1,h⟩ := bind_some h
 refine x_rg (rg0 [hE,hN (.cal [] (gA5 x1) false),hE,hE] (⟨[(1,pI id),oP 5 0,oP 6 1,oP 9 2],[(0,some (.p none [.int .i64 flags])),rP 1 3 gA2,rH 2 3 (gA7 x1 3),(3,some (.p (some 13) (List.map zE2 x1.L) [(9,none),(11,none)]))],4⟩) (kc (c31 hx1) .nil)) ?_
 obtain ⟨x2,hx2,h⟩ := bind_some h
 refine x_rg (rg0 [hE,hE,hN (.call [] [(gA8 x1),.int .i64 id] (.int .i64 x2) true),hE] (⟨[(1,pI id),oP 5 0,oP 6 1,oP 9 2,(10,pI x2)],[(0,some (.p none [.int .i64 flags])),rP 1 3 gA2,rH 2 3 (gA7 x1 3),(3,some (.p (some 13) (List.map zE2 x1.L) [(9,none),(11,none)]))],4⟩) (kc (show LesA [(gA9 x1),.int .i64 id] [(gA8 x1),.int .i64 id] from (.cons (.agg (.cons (.refl _) (.cons (.refl _) (.cons (.of_eq (by rw [List.drop_zero,List.take_length])) .nil)))) (.cons (.refl _) .nil))) (kc (c25 hx2) (kc (le0 (List.map zE2 x1.L)) .nil)))) ?_
 refine x_seq (x_block ?_)
 refine x_rg (rgn [hE,hE,hE] (⟨[(1,pI id),oP 5 0,oP 6 1,oP 9 2,(10,pI x2),(19,pB (decide (x2 < 0)))],[(0,some (.p none [.int .i64 flags])),rP 1 3 gA2,rH 2 3 (gA7 x1 3),(3,some (.p (some 13) (List.map zE2 x1.L) [(9,none),(11,none)]))],4⟩)) ?_
 refine x_if h rfl (fun hc3 h => ?_) (fun hc3 h => ?_)
 ·refine x_rg (rgn [hE,hE,hE,hE] (⟨[oP 6 0,(7,pI 0),(8,pI 42)],[rH 0 3 (gA7 x1 1),(1,some (.p (some 13) (List.map zE2 x1.L) [(9,none),(11,none)]))],2⟩)) ?_
  refine x_toret (x_br (x_tr ?_))
  obtain rfl := sj h
  exact x_ret (.tup [(gA5 x1),.int .i64 0,.int .i64 42]) [1] [(List.map zE2 x1.L).length = List.length (List.map zE2 x1.L)] (by kernel_rfl) (.cons rfl .nil) (by decide) (.tup (.cons (.agg (.cons (.refl _) (.cons (.refl _) (.cons (.dslU _ _ _) .nil)))) (.cons (.refl _) (.cons (.refl _) .nil)))) (fun h => nomatch h)
 refine x_join (τ := Bool) (fun t => proc_Fork_K4 id flags x1 x2 t = some r) (fun t => { tm := [(1,.pv (.int .i64 id)),oP 5 0,oP 6 1,oP 9 2,(10,.pv (.int .i64 x2)),(23,.pv (.bool t))],hp := [(0,some (.p none [.int .i64 flags])),rP 1 3 gA2,rH 2 3 (gA10 x1),(3,some (.p (some 13) (List.map zE2 x1.L) [(9,none),(11,none)]))],nx := 4 }) ?_ ?_
 ·rintro p5 h
  replace h : proc_Fork_K4 id flags x1 x2 p5 = some r := h
  unfold proc_Fork_K4 at h
  refine x_if h rfl (fun hc6 h => ?_) (fun hc6 h => ?_)
  ·refine x_rg (rgn [hE,hE,hE,hE] (⟨[oP 6 0,(7,pI 0),(8,pI 1)],[rH 0 3 (gA7 x1 1),(1,some (.p (some 13) (List.map zE2 x1.L) [(9,none),(11,none)]))],2⟩)) ?_
   refine x_toret (x_br (x_tr ?_))
   obtain rfl := sj h
   exact x_ret (.tup [(gA5 x1),.int .i64 0,.int .i64 1]) [1] [(List.map zE2 x1.L).length = List.length (List.map zE2 x1.L)] (by kernel_rfl) (.cons rfl .nil) (by decide) (.tup (.cons (.agg (.cons (.refl _) (.cons (.refl _) (.cons (.dslU _ _ _) .nil)))) (.cons (.refl _) (.cons (.refl _) .nil)))) (fun h => nomatch h)
  refine x_join (τ := Bool) (fun t => proc_Fork_K7 id flags x1 x2 t = some r) (fun t => { tm := [(1,.pv (.int .i64 id)),oP 5 0,oP 6 1,oP 9 2,(10,.pv (.int .i64 x2)),(32,.pv (.bool t))],hp := [(0,some (.p none [.int .i64 flags])),rP 1 3 gA2,rH 2 3 (gA10 x1),(3,some (.p (some 13) (List.map zE2 x1.L) [(9,none),(11,none)]))],nx := 4 }) ?_ ?_
  ·rintro p8 h
   replace h : proc_Fork_K7 id flags x1 x2 p8 = some r := h
   unfold proc_Fork_K7 at h
   refine x_if h rfl (fun hc9 h => ?_) (fun hc9 h => ?_)
   ·refine x_rg (rgn [hE,hE,hE,hE] (⟨[oP 6 0,(7,pI 0),(8,pI 22)],[rH 0 3 (gA7 x1 1),(1,some (.p (some 13) (List.map zE2 x1.L) [(9,none),(11,none)]))],2⟩)) ?_
    refine x_toret (x_br (x_tr ?_))
    obtain rfl := sj h
    exact x_ret (.tup [(gA5 x1),.int .i64 0,.int .i64 22]) [1] [(List.map zE2 x1.L).length = List.length (List.map zE2 x1.L)] (by kernel_rfl) (.cons rfl .nil) (by decide) (.tup (.cons (.agg (.cons (.refl _) (.cons (.refl _) (.cons (.dslU _ _ _) .nil)))) (.cons (.refl _) (.cons (.refl _) .nil)))) (fun h => nomatch h)
   refine x_kk (x_skip (x_bn (x_tn ?_)))
   obtain ⟨x10,hx10,h⟩ := bind_some h
   refine x_rg (rg0 [hE,hE,hE,hN .rAt,hN (.ld (zE2 x10)),hE,hE] (⟨[(1,pI id),oP 5 0,oP 6 1,oP 9 2,oP 11 4],[(0,some (.p none [.int .i64 flags])),rP 1 3 gA2,rH 2 3 (gA7 x1 3),(3,some (.p (some 13) (List.map zE2 x1.L) [(9,none),(11,none)])),rP 4 13 (zE2 x10)],5⟩) (kc (rAtM (f := zE2) hx10) (kc (ownAt (f := zE2) hx10) .nil))) ?_
   refine x_rg (rgn [hE,hE,hE,hE,hE,hE,hE,hE,hE,hE,hE,hE,hE,hE,hE,hE,hE,hE,hE,hE,hE] (⟨[oP 5 0,oP 6 1,oP 9 2,oP 12 4],[(0,some (.p none [.int .i64 flags])),rP 1 3 gA2,rH 2 3 (gA7 x1 3),(3,some (.p (some 13) (List.map zE2 x1.L) [(9,none),(11,none)])),rP 4 13 (.agg [.int .i64 x1.Next,.int .i64 id,.int .i64 1,.str x10.User,.str x10.Name,.int .i64 x10.Ns,.int .i64 x10.Env,.int .i64 x10.Fds,.str x10.Cwd,.usl none [],.str [],.usl (some 2) [],.bool (!decide ((IntKind.wrap .i64 ((BitVec.ofInt (IntKind.bits .i64) flags &&& (BitVec.ofInt (IntKind.bits .i64) 64)).toNat : Nat)) = 0))])],5⟩)) ?_
   refine x_rg (rgn [hE,hE] (⟨[oP 6 0,oP 9 1,oP 12 3,(13,.fn 37 [.optr 4 0 0,.optr 1 0 0])],[rP 0 3 gA2,rH 1 3 (gA7 x1 2),(2,some (.p (some 13) (List.map zE2 x1.L) [(9,none),(11,none)])),rP 3 13 (.agg [.int .i64 x1.Next,.int .i64 id,.int .i64 1,.str x10.User,.str x10.Name,.int .i64 x10.Ns,.int .i64 x10.Env,.int .i64 x10.Fds,.str x10.Cwd,.usl none [],.str [],.usl (some 2) [],.bool (!decide ((IntKind.wrap .i64 ((BitVec.ofInt (IntKind.bits .i64) flags &&& (BitVec.ofInt (IntKind.bits .i64) 64)).toNat : Nat)) = 0))]),(4,some (.p none [.int .i64 flags]))],5⟩)) ?_
   refine x_rg (rg0 [hE,hE,hN (.hcall [3,4,1] (.tup []) [rH 1 3 (.agg [.pv (.int .i64 x1.Next),.pv (.int .i64 (if (nzAnd flags 9) = true then IntKind.wrap .i64 (x1.Group + 1) else x1.Group)),.osl 2 0 (List.map zE2 x1.L).length]),rP 3 13 (.agg [.int .i64 x1.Next,.int .i64 id,.int .i64 1,.str x10.User,.str x10.Name,.int .i64 (if (nzAnd flags 9) = true then x1.Group else x10.Ns),.int .i64 x10.Env,.int .i64 x10.Fds,.str x10.Cwd,.usl none [],.str [],.usl (some 2) [],.bool (!decide ((IntKind.wrap .i64 ((BitVec.ofInt (IntKind.bits .i64) flags &&& (BitVec.ofInt (IntKind.bits .i64) 64)).toNat : Nat)) = 0))])])] (⟨[oP 6 0,oP 9 1,oP 12 3,(13,.fn 37 [.optr 4 0 0,.optr 1 0 0])],[rP 0 3 gA2,rH 1 3 (.agg [pI x1.Next,pI (if (nzAnd flags 9) = true then IntKind.wrap .i64 (x1.Group + 1) else x1.Group),oL 2 zE2 x1.L]),(2,some (.p (some 13) (List.map zE2 x1.L) [(9,none),(11,none)])),rP 3 13 (.agg [.int .i64 x1.Next,.int .i64 id,.int .i64 1,.str x10.User,.str x10.Name,.int .i64 (if (nzAnd flags 9) = true then x1.Group else x10.Ns),.int .i64 x10.Env,.int .i64 x10.Fds,.str x10.Cwd,.usl none [],.str [],.usl (some 2) [],.bool (!decide ((IntKind.wrap .i64 ((BitVec.ofInt (IntKind.bits .i64) flags &&& (BitVec.ofInt (IntKind.bits .i64) 64)).toNat : Nat)) = 0))]),(4,some (.p none [.int .i64 flags]))],5⟩) (kc (show HeapOK Tryd.prog 37 [.optr 3 0 5,.pv (.int .i64 9),.optr 4 0 0,.optr 1 0 0] [(3,.p (some 13) [.agg [.int .i64 x1.Next,.int .i64 id,.int .i64 1,.str x10.User,.str x10.Name,.int .i64 x10.Ns,.int .i64 x10.Env,.int .i64 x10.Fds,.str x10.Cwd,.usl none [],.str [],.usl (some 2) [],.bool (!decide ((IntKind.wrap .i64 ((BitVec.ofInt (IntKind.bits .i64) flags &&& (BitVec.ofInt (IntKind.bits .i64) 64)).toNat : Nat)) = 0))]]),(4,.p none [.int .i64 flags]),(1,.h (some 3) [(gA11 x1)])] (.tup []) [rH 1 3 (.agg [.pv (.int .i64 x1.Next),.pv (.int .i64 (if (nzAnd flags 9) = true then IntKind.wrap .i64 (x1.Group + 1) else x1.Group)),.osl 2 0 (List.map zE2 x1.L).length]),rP 3 13 (.agg [.int .i64 x1.Next,.int .i64 id,.int .i64 1,.str x10.User,.str x10.Name,.int .i64 (if (nzAnd flags 9) = true then x1.Group else x10.Ns),.int .i64 x10.Env,.int .i64 x10.Fds,.str x10.Cwd,.usl none [],.str [],.usl (some 2) [],.bool (!decide ((IntKind.wrap .i64 ((BitVec.ofInt (IntKind.bits .i64) flags &&& (BitVec.ofInt (IntKind.bits .i64) 64)).toNat : Nat)) = 0))])] from (grp_ok (by decide) rfl)) .nil)) ?_
   refine x_rg (rg0 [hE,hE,hN (.hcall [3,4,1] (.tup []) [rH 1 3 (.agg [.pv (.int .i64 x1.Next),.pv (.int .i64 (if (nzAnd flags 18) = true then IntKind.wrap .i64 ((if (nzAnd flags 9) = true then IntKind.wrap .i64 (x1.Group + 1) else x1.Group) + 1) else (if (nzAnd flags 9) = true then IntKind.wrap .i64 (x1.Group + 1) else x1.Group))),.osl 2 0 (List.map zE2 x1.L).length]),rP 3 13 (.agg [.int .i64 x1.Next,.int .i64 id,.int .i64 1,.str x10.User,.str x10.Name,.int .i64 (if (nzAnd flags 9) = true then x1.Group else x10.Ns),.int .i64 (if (nzAnd flags 18) = true then (if (nzAnd flags 9) = true then IntKind.wrap .i64 (x1.Group + 1) else x1.Group) else x10.Env),.int .i64 x10.Fds,.str x10.Cwd,.usl none [],.str [],.usl (some 2) [],.bool (!decide ((IntKind.wrap .i64 ((BitVec.ofInt (IntKind.bits .i64) flags &&& (BitVec.ofInt (IntKind.bits .i64) 64)).toNat : Nat)) = 0))])])] (⟨[oP 6 0,oP 9 1,oP 12 3,(13,.fn 37 [.optr 4 0 0,.optr 1 0 0])],[rP 0 3 gA2,rH 1 3 (.agg [pI x1.Next,pI (if (nzAnd flags 18) = true then IntKind.wrap .i64 ((if (nzAnd flags 9) = true then IntKind.wrap .i64 (x1.Group + 1) else x1.Group) + 1) else (if (nzAnd flags 9) = true then IntKind.wrap .i64 (x1.Group + 1) else x1.Group)),oL 2 zE2 x1.L]),(2,some (.p (some 13) (List.map zE2 x1.L) [(9,none),(11,none)])),rP 3 13 (.agg [.int .i64 x1.Next,.int .i64 id,.int .i64 1,.str x10.User,.str x10.Name,.int .i64 (if (nzAnd flags 9) = true then x1.Group else x10.Ns),.int .i64 (if (nzAnd flags 18) = true then (if (nzAnd flags 9) = true then IntKind.wrap .i64 (x1.Group + 1) else x1.Group) else x10.Env),.int .i64 x10.Fds,.str x10.Cwd,.usl none [],.str [],.usl (some 2) [],.bool (!decide ((IntKind.wrap .i64 ((BitVec.ofInt (IntKind.bits .i64) flags &&& (BitVec.ofInt (IntKind.bits .i64) 64)).toNat : Nat)) = 0))]),(4,some (.p none [.int .i64 flags]))],5⟩) (kc (show HeapOK Tryd.prog 37 [.optr 3 0 6,.pv (.int .i64 18),.optr 4 0 0,.optr 1 0 0] [(3,.p (some 13) [.agg [.int .i64 x1.Next,.int .i64 id,.int .i64 1,.str x10.User,.str x10.Name,.int .i64 (if (nzAnd flags 9) = true then x1.Group else x10.Ns),.int .i64 x10.Env,.int .i64 x10.Fds,.str x10.Cwd,.usl none [],.str [],.usl (some 2) [],.bool (!decide ((IntKind.wrap .i64 ((BitVec.ofInt (IntKind.bits .i64) flags &&& (BitVec.ofInt (IntKind.bits .i64) 64)).toNat : Nat)) = 0))]]),(4,.p none [.int .i64 flags]),(1,.h (some 3) [.agg [.pv (.int .i64 x1.Next),.pv (.int .i64 (if (nzAnd flags 9) = true then IntKind.wrap .i64 (x1.Group + 1) else x1.Group)),.osl 2 0 (List.map zE2 x1.L).length]])] (.tup []) [rH 1 3 (.agg [.pv (.int .i64 x1.Next),.pv (.int .i64 (if (nzAnd flags 18) = true then IntKind.wrap .i64 ((if (nzAnd flags 9) = true then IntKind.wrap .i64 (x1.Group + 1) else x1.Group) + 1) else (if (nzAnd flags 9) = true then IntKind.wrap .i64 (x1.Group + 1) else x1.Group))),.osl 2 0 (List.map zE2 x1.L).length]),rP 3 13 (.agg [.int .i64 x1.Next,.int .i64 id,.int .i64 1,.str x10.User,.str x10.Name,.int .i64 (if (nzAnd flags 9) = true then x1.Group else x10.Ns),.int .i64 (if (nzAnd flags 18) = true then (if (nzAnd flags 9) = true then IntKind.wrap .i64 (x1.Group + 1) else x1.Group) else x10.Env),.int .i64 x10.Fds,.str x10.Cwd,.usl none [],.str [],.usl (some 2) [],.bool (!decide ((IntKind.wrap .i64 ((BitVec.ofInt (IntKind.bits .i64) flags &&& (BitVec.ofInt (IntKind.bits .i64) 64)).toNat : Nat)) = 0))])] from (grp_ok (by decide) rfl)) .nil)) ?_
   refine x_rg (rg0 [hE,hE,hN (.hcall [3,4,1] (.tup []) [rH 1 3 (.agg [.pv (.int .i64 x1.Next),.pv (.int .i64 (if (nzAnd flags 36) = true then IntKind.wrap .i64 ((if (nzAnd flags 18) = true then IntKind.wrap .i64 ((if (nzAnd flags 9) = true then IntKind.wrap .i64 (x1.Group + 1) else x1.Group) + 1) else (if (nzAnd flags 9) = true then IntKind.wrap .i64 (x1.Group + 1) else x1.Group)) + 1) else (if (nzAnd flags 18) = true then IntKind.wrap .i64 ((if (nzAnd flags 9) = true then IntKind.wrap .i64 (x1.Group + 1) else x1.Group) + 1) else (if (nzAnd flags 9) = true then IntKind.wrap .i64 (x1.Group + 1) else x1.Group)))),.osl 2 0 (List.map zE2 x1.L).length]),rP 3 13 (.agg [.int .i64 x1.Next,.int .i64 id,.int .i64 1,.str x10.User,.str x10.Name,.int .i64 (if (nzAnd flags 9) = true then x1.Group else x10.Ns),.int .i64 (if (nzAnd flags 18) = true then (if (nzAnd flags 9) = true then IntKind.wrap .i64 (x1.Group + 1) else x1.Group) else x10.Env),.int .i64 (if (nzAnd flags 36) = true then (if (nzAnd flags 18) = true then IntKind.wrap .i64 ((if (nzAnd flags 9) = true then IntKind.wrap .i64 (x1.Group + 1) else x1.Group) + 1) else (if (nzAnd flags 9) = true then IntKind.wrap .i64 (x1.Group + 1) else x1.Group)) else x10.Fds),.str x10.Cwd,.usl none [],.str [],.usl (some 2) [],.bool (!decide ((IntKind.wrap .i64 ((BitVec.ofInt (IntKind.bits .i64) flags &&& (BitVec.ofInt (IntKind.bits .i64) 64)).toNat : Nat)) = 0))])])] (⟨[oP 6 0,oP 9 1,oP 12 3],[rP 0 3 gA2,rH 1 3 (.agg [pI x1.Next,pI (if (nzAnd flags 36) = true then IntKind.wrap .i64 ((if (nzAnd flags 18) = true then IntKind.wrap .i64 ((if (nzAnd flags 9) = true then IntKind.wrap .i64 (x1.Group + 1) else x1.Group) + 1) else (if (nzAnd flags 9) = true then IntKind.wrap .i64 (x1.Group + 1) else x1.Group)) + 1) else (if (nzAnd flags 18) = true then IntKind.wrap .i64 ((if (nzAnd flags 9) = true then IntKind.wrap .i64 (x1.Group + 1) else x1.Group) + 1) else (if (nzAnd flags 9) = true then IntKind.wrap .i64 (x1.Group + 1) else x1.Group))),oL 2 zE2 x1.L]),(2,some (.p (some 13) (List.map zE2 x1.L) [(9,none),(11,none)])),rP 3 13 (.agg [.int .i64 x1.Next,.int .i64 id,.int .i64 1,.str x10.User,.str x10.Name,.int .i64 (if (nzAnd flags 9) = true then x1.Group else x10.Ns),.int .i64 (if (nzAnd flags 18) = true then (if (nzAnd flags 9) = true then IntKind.wrap .i64 (x1.Group + 1) else x1.Group) else x10.Env),.int .i64 (if (nzAnd flags 36) = true then (if (nzAnd flags 18) = true then IntKind.wrap .i64 ((if (nzAnd flags 9) = true then IntKind.wrap .i64 (x1.Group + 1) else x1.Group) + 1) else (if (nzAnd flags 9) = true then IntKind.wrap .i64 (x1.Group + 1) else x1.Group)) else x10.Fds),.str x10.Cwd,.usl none [],.str [],.usl (some 2) [],.bool (!decide ((IntKind.wrap .i64 ((BitVec.ofInt (IntKind.bits .i64) flags &&& (BitVec.ofInt (IntKind.bits .i64) 64)).toNat : Nat)) = 0))])],4⟩) (kc (show HeapOK Tryd.prog 37 [.optr 3 0 7,.pv (.int .i64 36),.optr 4 0 0,.optr 1 0 0] [(3,.p (some 13) [.agg [.int .i64 x1.Next,.int .i64 id,.int .i64 1,.str x10.User,.str x10.Name,.int .i64 (if (nzAnd flags 9) = true then x1.Group else x10.Ns),.int .i64 (if (nzAnd flags 18) = true then (if (nzAnd flags 9) = true then IntKind.wrap .i64 (x1.Group + 1) else x1.Group) else x10.Env),.int .i64 x10.Fds,.str x10.Cwd,.usl none [],.str [],.usl (some 2) [],.bool (!decide ((IntKind.wrap .i64 ((BitVec.ofInt (IntKind.bits .i64) flags &&& (BitVec.ofInt (IntKind.bits .i64) 64)).toNat : Nat)) = 0))]]),(4,.p none [.int .i64 flags]),(1,.h (some 3) [.agg [.pv (.int .i64 x1.Next),.pv (.int .i64 (if (nzAnd flags 18) = true then IntKind.wrap .i64 ((if (nzAnd flags 9) = true then IntKind.wrap .i64 (x1.Group + 1) else x1.Group) + 1) else (if (nzAnd flags 9) = true then IntKind.wrap .i64 (x1.Group + 1) else x1.Group))),.osl 2 0 (List.map zE2 x1.L).length]])] (.tup []) [rH 1 3 (.agg [.pv (.int .i64 x1.Next),.pv (.int .i64 (if (nzAnd flags 36) = true then IntKind.wrap .i64 ((if (nzAnd flags 18) = true then IntKind.wrap .i64 ((if (nzAnd flags 9) = true then IntKind.wrap .i64 (x1.Group + 1) else x1.Group) + 1) else (if (nzAnd flags 9) = true then IntKind.wrap .i64 (x1.Group + 1) else x1.Group)) + 1) else (if (nzAnd flags 18) = true then IntKind.wrap .i64 ((if (nzAnd flags 9) = true then IntKind.wrap .i64 (x1.Group + 1) else x1.Group) + 1) else (if (nzAnd flags 9) = true then IntKind.wrap .i64 (x1.Group + 1) else x1.Group)))),.osl 2 0 (List.map zE2 x1.L).length]),rP 3 13 (.agg [.int .i64 x1.Next,.int .i64 id,.int .i64 1,.str x10.User,.str x10.Name,.int .i64 (if (nzAnd flags 9) = true then x1.Group else x10.Ns),.int .i64 (if (nzAnd flags 18) = true then (if (nzAnd flags 9) = true then IntKind.wrap .i64 (x1.Group + 1) else x1.Group) else x10.Env),.int .i64 (if (nzAnd flags 36) = true then (if (nzAnd flags 18) = true then IntKind.wrap .i64 ((if (nzAnd flags 9) = true then IntKind.wrap .i64 (x1.Group + 1) else x1.Group) + 1) else (if (nzAnd flags 9) = true then IntKind.wrap .i64 (x1.Group + 1) else x1.Group)) else x10.Fds),.str x10.Cwd,.usl none [],.str [],.usl (some 2) [],.bool (!decide ((IntKind.wrap .i64 ((BitVec.ofInt (IntKind.bits .i64) flags &&& (BitVec.ofInt (IntKind.bits .i64) 64)).toNat : Nat)) = 0))])] from (grp_ok (by decide) rfl)) .nil)) ?_
   obtain ⟨x11,hx11,h⟩ := bind_some h
   refine x_rg (rg0 [hE,hE,hE,hE,hN (.app (List.map zE2 x11)),hE,hE] (⟨[oP 6 0,oP 9 1,oP 12 3],[rP 0 3 gA2,rH 1 3 (.agg [pI x1.Next,pI (if (nzAnd flags 36) = true then IntKind.wrap .i64 ((if (nzAnd flags 18) = true then IntKind.wrap .i64 ((if (nzAnd flags 9) = true then IntKind.wrap .i64 (x1.Group + 1) else x1.Group) + 1) else (if (nzAnd flags 9) = true then IntKind.wrap .i64 (x1.Group + 1) else x1.Group)) + 1) else (if (nzAnd flags 18) = true then IntKind.wrap .i64 ((if (nzAnd flags 9) = true then IntKind.wrap .i64 (x1.Group + 1) else x1.Group) + 1) else (if (nzAnd flags 9) = true then IntKind.wrap .i64 (x1.Group + 1) else x1.Group))),oL 2 zE2 x11]),(2,rL (some 13) zE2 x11),rP 3 13 (.agg [.int .i64 x1.Next,.int .i64 id,.int .i64 1,.str x10.User,.str x10.Name,.int .i64 (if (nzAnd flags 9) = true then x1.Group else x10.Ns),.int .i64 (if (nzAnd flags 18) = true then (if (nzAnd flags 9) = true then IntKind.wrap .i64 (x1.Group + 1) else x1.Group) else x10.Env),.int .i64 (if (nzAnd flags 36) = true then (if (nzAnd flags 18) = true then IntKind.wrap .i64 ((if (nzAnd flags 9) = true then IntKind.wrap .i64 (x1.Group + 1) else x1.Group) + 1) else (if (nzAnd flags 9) = true then IntKind.wrap .i64 (x1.Group + 1) else x1.Group)) else x10.Fds),.str x10.Cwd,.usl none [],.str [],.usl (some 2) [],.bool (!decide ((IntKind.wrap .i64 ((BitVec.ofInt (IntKind.bits .i64) flags &&& (BitVec.ofInt (IntKind.bits .i64) 64)).toNat : Nat)) = 0))])],4⟩) (kc (show List.take (List.map zE2 x1.L).length (List.map zE2 x1.L) ++ List.take 1 (List.drop 0 ([.agg [.int .i64 x1.Next,.int .i64 id,.int .i64 1,.str x10.User,.str x10.Name,.int .i64 (if (nzAnd flags 9) = true then x1.Group else x10.Ns),.int .i64 (if (nzAnd flags 18) = true then (if (nzAnd flags 9) = true then IntKind.wrap .i64 (x1.Group + 1) else x1.Group) else x10.Env),.int .i64 (if (nzAnd flags 36) = true then (if (nzAnd flags 18) = true then IntKind.wrap .i64 ((if (nzAnd flags 9) = true then IntKind.wrap .i64 (x1.Group + 1) else x1.Group) + 1) else (if (nzAnd flags 9) = true then IntKind.wrap .i64 (x1.Group + 1) else x1.Group)) else x10.Fds),.str x10.Cwd,.sl none (List.map PV.str ([] : List Str)),.str [],.sl (some 2) (List.map zE1 ([] : List api_Wait)),.bool (!decide ((IntKind.wrap .i64 ((BitVec.ofInt (IntKind.bits .i64) flags &&& (BitVec.ofInt (IntKind.bits .i64) 64)).toNat : Nat)) = 0))]] : List PV)) = (List.map zE2 x11) from (app_ob hx11 (.all _) (.rfl _))) (kc (show List.length (List.map zE2 x11) * 168 ≤ 140737488355328 from (by rw [List.length_map]; exact (appL_ok hx11).2.1)) (kc (show List.length (List.map zE2 x11) ≤ 9223372036854775807 from (by rw [List.length_map]; exact (appL_ok hx11).2.2)) (kc (le1 (List.map zE2 x1.L)) (kc (show 0 + 1 ≤ List.length ([.agg [.int .i64 x1.Next,.int .i64 id,.int .i64 1,.str x10.User,.str x10.Name,.int .i64 (if (nzAnd flags 9) = true then x1.Group else x10.Ns),.int .i64 (if (nzAnd flags 18) = true then (if (nzAnd flags 9) = true then IntKind.wrap .i64 (x1.Group + 1) else x1.Group) else x10.Env),.int .i64 (if (nzAnd flags 36) = true then (if (nzAnd flags 18) = true then IntKind.wrap .i64 ((if (nzAnd flags 9) = true then IntKind.wrap .i64 (x1.Group + 1) else x1.Group) + 1) else (if (nzAnd flags 9) = true then IntKind.wrap .i64 (x1.Group + 1) else x1.Group)) else x10.Fds),.str x10.Cwd,.sl none (List.map PV.str ([] : List Str)),.str [],.sl (some 2) (List.map zE1 ([] : List api_Wait)),.bool (!decide ((IntKind.wrap .i64 ((BitVec.ofInt (IntKind.bits .i64) flags &&& (BitVec.ofInt (IntKind.bits .i64) 64)).toNat : Nat)) = 0))]] : List PV) from (by simp)) .nil)))))) ?_
   refine x_rg (rgn [hE,hE,hE,hE,hE] (⟨[oP 6 0,oP 9 1,oP 12 3],[rP 0 3 gA2,rH 1 3 (.agg [pI (IntKind.wrap .i64 (x1.Next + 1)),pI (if (nzAnd flags 36) = true then IntKind.wrap .i64 ((if (nzAnd flags 18) = true then IntKind.wrap .i64 ((if (nzAnd flags 9) = true then IntKind.wrap .i64 (x1.Group + 1) else x1.Group) + 1) else (if (nzAnd flags 9) = true then IntKind.wrap .i64 (x1.Group + 1) else x1.Group)) + 1) else (if (nzAnd flags 18) = true then IntKind.wrap .i64 ((if (nzAnd flags 9) = true then IntKind.wrap .i64 (x1.Group + 1) else x1.Group) + 1) else (if (nzAnd flags 9) = true then IntKind.wrap .i64 (x1.Group + 1) else x1.Group))),oL 2 zE2 x11]),(2,rL (some 13) zE2 x11),rP 3 13 (.agg [.int .i64 x1.Next,.int .i64 id,.int .i64 1,.str x10.User,.str x10.Name,.int .i64 (if (nzAnd flags 9) = true then x1.Group else x10.Ns),.int .i64 (if (nzAnd flags 18) = true then (if (nzAnd flags 9) = true then IntKind.wrap .i64 (x1.Group + 1) else x1.Group) else x10.Env),.int .i64 (if (nzAnd flags 36) = true then (if (nzAnd flags 18) = true then IntKind.wrap .i64 ((if (nzAnd flags 9) = true then IntKind.wrap .i64 (x1.Group + 1) else x1.Group) + 1) else (if (nzAnd flags 9) = true then IntKind.wrap .i64 (x1.Group + 1) else x1.Group)) else x10.Fds),.str x10.Cwd,.usl none [],.str [],.usl (some 2) [],.bool (!decide ((IntKind.wrap .i64 ((BitVec.ofInt (IntKind.bits .i64) flags &&& (BitVec.ofInt (IntKind.bits .i64) 64)).toNat : Nat)) = 0))])],4⟩)) ?_
   refine x_rg (rgn [hE,hE,hE,hE,hE,hE] (⟨[oP 6 0,(7,pI x1.Next),(8,pI 0)],[rH 0 3 (.agg [pI (IntKind.wrap .i64 (x1.Next + 1)),pI (if (nzAnd flags 36) = true then IntKind.wrap .i64 ((if (nzAnd flags 18) = true then IntKind.wrap .i64 ((if (nzAnd flags 9) = true then IntKind.wrap .i64 (x1.Group + 1) else x1.Group) + 1) else (if (nzAnd flags 9) = true then IntKind.wrap .i64 (x1.Group + 1) else x1.Group)) + 1) else (if (nzAnd flags 18) = true then IntKind.wrap .i64 ((if (nzAnd flags 9) = true then IntKind.wrap .i64 (x1.Group + 1) else x1.Group) + 1) else (if (nzAnd flags 9) = true then IntKind.wrap .i64 (x1.Group + 1) else x1.Group))),oL 1 zE2 x11]),(1,rL (some 13) zE2 x11)],2⟩)) ?_
   refine x_toret ?_
   obtain rfl := sj h
   exact x_ret (.tup [.agg [.int .i64 (IntKind.wrap .i64 (x1.Next + 1)),.int .i64 (if (nzAnd flags 36) = true then IntKind.wrap .i64 ((if (nzAnd flags 18) = true then IntKind.wrap .i64 ((if (nzAnd flags 9) = true then IntKind.wrap .i64 (x1.Group + 1) else x1.Group) + 1) else (if (nzAnd flags 9) = true then IntKind.wrap .i64 (x1.Group + 1) else x1.Group)) + 1) else (if (nzAnd flags 18) = true then IntKind.wrap .i64 ((if (nzAnd flags 9) = true then IntKind.wrap .i64 (x1.Group + 1) else x1.Group) + 1) else (if (nzAnd flags 9) = true then IntKind.wrap .i64 (x1.Group + 1) else x1.Group))),.usl (some 13) (List.take (List.map zE2 x11).length (List.map zE2 x11))],.int .i64 x1.Next,.int .i64 0]) [1] [(List.map zE2 x11).length ≤ List.length (List.map zE2 x11)] (by kernel_rfl) (.cons (Nat.le_refl _) .nil) (by decide) (.tup (.cons (.agg (.cons (.refl _) (.cons (.refl _) (.cons (.of_eq (by rw [List.take_length])) .nil)))) (.cons (.refl _) (.cons (.refl _) .nil)))) (fun h => nomatch h)
  refine x_rg (rg0 [hE,hE,hN (.len (List.length x1.L : Int)),hE,hE] (⟨[(1,pI id),oP 5 0,oP 6 1,oP 9 2,(10,pI x2),(32,pB (decide (64 ≤ (List.length x1.L : Int))))],[(0,some (.p none [.int .i64 flags])),rP 1 3 gA2,rH 2 3 (gA7 x1 3),(3,some (.p (some 13) (List.map zE2 x1.L) [(9,none),(11,none)]))],4⟩) (kc (lenM zE2 x1.L) .nil)) ?_
  refine x_if h rfl (fun hc12 h => ?_) (fun hc12 h => ?_)
  ·refine kw0 (⟨[(1,pI id),oP 5 0,oP 6 1,oP 9 2,(10,pI x2),(32,pB (decide (64 ≤ (List.length x1.L : Int))))],[(0,some (.p none [.int .i64 flags])),rP 1 3 gA2,rH 2 3 (gA7 x1 3),(3,some (.p (some 13) (List.map zE2 x1.L) [(9,none),(11,none)]))],4⟩) ?_
   refine x_skip (x_tn ?_)
   exact ⟨(decide (64 ≤ (List.length x1.L : Int))),h,by kernel_rfl⟩
  refine x_rg (rgn [hE,hE,hE,hE] (⟨[(1,pI id),oP 5 0,oP 6 1,oP 9 2,(10,pI x2),(32,pB (decide (1048575 < x1.Next)))],[(0,some (.p none [.int .i64 flags])),rP 1 3 gA2,rH 2 3 (gA7 x1 3),(3,some (.p (some 13) (List.map zE2 x1.L) [(9,none),(11,none)]))],4⟩)) ?_
  refine x_if h rfl (fun hc13 h => ?_) (fun hc13 h => ?_)
  ·refine kw0 (⟨[(1,pI id),oP 5 0,oP 6 1,oP 9 2,(10,pI x2),(32,pB (decide (1048575 < x1.Next)))],[(0,some (.p none [.int .i64 flags])),rP 1 3 gA2,rH 2 3 (gA7 x1 3),(3,some (.p (some 13) (List.map zE2 x1.L) [(9,none),(11,none)]))],4⟩) ?_
   refine x_skip (x_tn ?_)
   exact ⟨(decide (1048575 < x1.Next)),h,by kernel_rfl⟩
  refine x_rgt (rgn [hE,hE,hE,hE] (⟨[(1,pI id),oP 5 0,oP 6 1,oP 9 2,(10,pI x2),(32,pB (decide (1099511627774 < x1.Group)))],[(0,some (.p none [.int .i64 flags])),rP 1 3 gA2,rH 2 3 (gA7 x1 3),(3,some (.p (some 13) (List.map zE2 x1.L) [(9,none),(11,none)]))],4⟩)) ?_
  refine x_tn ?_
  exact ⟨(decide (1099511627774 < x1.Group)),h,by kernel_rfl⟩
 refine x_rg (rgn [hE,hE,hE] (⟨[(1,pI id),oP 5 0,oP 6 1,oP 9 2,(10,pI x2),(23,pB (decide (flags < 0)))],[(0,some (.p none [.int .i64 flags])),rP 1 3 gA2,rH 2 3 (gA7 x1 3),(3,some (.p (some 13) (List.map zE2 x1.L) [(9,none),(11,none)]))],4⟩)) ?_
 refine x_if h rfl (fun hc14 h => ?_) (fun hc14 h => ?_)
 ·refine kw0 (⟨[(1,pI id),oP 5 0,oP 6 1,oP 9 2,(10,pI x2),(23,pB (decide (flags < 0)))],[(0,some (.p none [.int .i64 flags])),rP 1 3 gA2,rH 2 3 (gA7 x1 3),(3,some (.p (some 13) (List.map zE2 x1.L) [(9,none),(11,none)]))],4⟩) ?_
  refine x_skip (x_tn ?_)
  exact ⟨(decide (flags < 0)),h,by kernel_rfl⟩
 refine x_rg (rgn [hE,hE,hE,hE] (⟨[(1,pI id),oP 5 0,oP 6 1,oP 9 2,(10,pI x2),(23,pB (!decide ((IntKind.wrap .i64 ((BitVec.ofInt (IntKind.bits .i64) flags &&& ~~~ (BitVec.ofInt (IntKind.bits .i64) 127)).toNat : Nat)) = 0)))],[(0,some (.p none [.int .i64 flags])),rP 1 3 gA2,rH 2 3 (gA7 x1 3),(3,some (.p (some 13) (List.map zE2 x1.L) [(9,none),(11,none)]))],4⟩)) ?_
 refine x_if h rfl (fun hc15 h => ?_) (fun hc15 h => ?_)
 ·refine kw0 (⟨[(1,pI id),oP 5 0,oP 6 1,oP 9 2,(10,pI x2),(23,pB (!decide ((IntKind.wrap .i64 ((BitVec.ofInt (IntKind.bits .i64) flags &&& ~~~ (BitVec.ofInt (IntKind.bits .i64) 127)).toNat : Nat)) = 0)))],[(0,some (.p none [.int .i64 flags])),rP 1 3 gA2,rH 2 3 (gA7 x1 3),(3,some (.p (some 13) (List.map zE2 x1.L) [(9,none),(11,none)]))],4⟩) ?_
  refine x_skip (x_tn ?_)
  exact ⟨(!decide ((IntKind.wrap .i64 ((BitVec.ofInt (IntKind.bits .i64) flags &&& ~~~ (BitVec.ofInt (IntKind.bits .i64) 127)).toNat : Nat)) = 0)),h,by kernel_rfl⟩
 obtain ⟨x16,hx16,h⟩ := bind_some h
 refine x_rgt (rg0 [hE,hN (.cal [] (.bool x16) true),hE] (⟨[(1,pI id),oP 5 0,oP 6 1,oP 9 2,(10,pI x2),(23,pB x16)],[(0,some (.p none [.int .i64 flags])),rP 1 3 gA2,rH 2 3 (gA7 x1 3),(3,some (.p (some 13) (List.map zE2 x1.L) [(9,none),(11,none)]))],4⟩) (kc (c36 hx16) .nil)) ?_
 refine x_tn ?_
 exact ⟨x16,h,by kernel_rfl⟩
theorem c13 {p : api_Procs} {id : Int} {r : (api_Proc × Bool)} (h : proc_Find p id = some r) : CallOK Tryd.prog 13 [zE3 p,.int .i64 id] (.tup [(gA3 r.1),.bool r.2]) true := by
 apply ok13
 unfold proc_Find at h
 refine x_rg (rgn [hE,hE,hE] (⟨[(1,pI id),oP 2 0,oP 4 1],[rP 0 3 (zE3 p),rP 1 13 gA4],2⟩)) ?_
 obtain ⟨x1,hx1,h⟩ := bind_some h
 refine x_rg (rg0 [hE,hE,hN (.cal [] (.int .i64 x1) true),hE] (⟨[oP 2 0,oP 4 1,(6,pI x1)],[rP 0 3 (zE3 p),rP 1 13 gA4],2⟩) (kc (c25 hx1) .nil)) ?_
 refine x_seq ?_
 refine x_rg (rgn [hE,hE] (⟨[oP 2 0,oP 4 1,(6,pI x1),(11,pB (decide (x1 < 0)))],[rP 0 3 (zE3 p),rP 1 13 gA4],2⟩)) ?_
 refine x_if h rfl (fun hc2 h => ?_) (fun hc2 h => ?_)
 ·refine x_rg (rgn [hE,hE,hE] (⟨[oP 4 0,(5,pB false)],[rP 0 13 gA4],1⟩)) ?_
  refine x_toret (x_tr ?_)
  obtain rfl := sj h
  exact ret0 (.tup [gA4,.bool false]) (.tup (.cons (.refl _) (.cons (.refl _) .nil))) (fun _ => tup_ns (.cons (agg_ns (.cons rfl (.cons rfl (.cons rfl (.cons rfl (.cons rfl (.cons rfl (.cons rfl (.cons rfl (.cons rfl (.cons (usl_nsU (sh := none) (fun _ => rfl)) (.cons rfl (.cons (usl_nsU (sh := (some 2)) (fun _ => rfl)) (.cons rfl .nil)))))))))))))) (.cons rfl .nil)))
 refine x_kk (x_skip (x_tn ?_))
 obtain ⟨x3,hx3,h⟩ := bind_some h
 obtain ⟨x4,hx4,h⟩ := bind_some h
 refine x_rg (rg0 [hE,hE,hE,hN (.pAt (zE2 x3)),hE,hN (.cal [] (gA3 x4) true),hE,hE] (⟨[oP 4 0,(5,pB true)],[rH 0 13 (gA12 x4 1 2),(1,rL none PV.str x4.Notes),(2,rL (some 2) zE1 x4.Waits)],3⟩) (kc (lsAt_map (f := zE2) hx3) (kc (c26 hx4) .nil))) ?_
 refine x_toret ?_
 obtain rfl := sj h
 exact x_ret (.tup [.agg [.int .i64 x4.Id,.int .i64 x4.Parent,.int .i64 x4.State,.str x4.User,.str x4.Name,.int .i64 x4.Ns,.int .i64 x4.Env,.int .i64 x4.Fds,.str x4.Cwd,.usl none (List.take (List.map PV.str x4.Notes).length (List.map PV.str x4.Notes)),.str x4.Status,.usl (some 2) (List.take (List.map zE1 x4.Waits).length (List.map zE1 x4.Waits)),.bool x4.Alone],.bool true]) [1,2] [(List.map PV.str x4.Notes).length ≤ List.length (List.map PV.str x4.Notes),(List.map zE1 x4.Waits).length ≤ List.length (List.map zE1 x4.Waits)] (by kernel_rfl) (.cons (Nat.le_refl _) (.cons (Nat.le_refl _) .nil)) (by decide) (.tup (.cons (.agg (.cons (.refl _) (.cons (.refl _) (.cons (.refl _) (.cons (.refl _) (.cons (.refl _) (.cons (.refl _) (.cons (.refl _) (.cons (.refl _) (.cons (.refl _) (.cons (.of_eq (by rw [List.take_length])) (.cons (.refl _) (.cons (.of_eq (by rw [List.take_length])) (.cons (.refl _) .nil)))))))))))))) (.cons (.refl _) .nil))) (fun _ => tup_ns (.cons (agg_ns (.cons rfl (.cons rfl (.cons rfl (.cons rfl (.cons rfl (.cons rfl (.cons rfl (.cons rfl (.cons rfl (.cons (usl_nsU (sh := none) (fun _ => rfl)) (.cons rfl (.cons (usl_nsU (sh := (some 2)) (fun _ => rfl)) (.cons rfl .nil)))))))))))))) (.cons rfl .nil)))
theorem c32 {s_ : Str} {r : Bool} (h : proc_short s_ = some r) : CallOK Tryd.prog 32 [.str s_] (.bool r) true := by
 apply ok32
 unfold proc_short at h
 refine x_rg (rgn [hE] (⟨[(0,pS s_)],[],0⟩)) ?_
 refine x_rg (rgn [hE,hE,hE,hE] (⟨[(2,pB (decide ((List.length s_ : Int) ≤ 1024)))],[],0⟩)) ?_
 refine x_toret ?_
 obtain rfl := sj h
 exact ret0 (.bool (decide ((List.length s_ : Int) ≤ 1024))) (.refl _) (fun _ => rfl)
theorem c33_o {s_ : (List api_Proc)} {i j : Int} {r : (List api_Proc)} (h : slices_Delete_api_Proc_api_Proc_o s_ i j = some r) : CallOK Tryd.prog 33 [.usl (some 13) (List.map zE2 s_),.int .i64 i,.int .i64 j] (.usl (some 13) (List.map zE2 r)) false := by
 apply ok33
 obtain ⟨q1,q2,q3,rfl⟩ := delL_ok h
 clear h
 have hA : i.toNat ≤ s_.length := by omega
 have hB : j.toNat ≤ s_.length := by omega
 have hr : (s_.take i.toNat ++ s_.drop j.toNat).length = i.toNat + (s_.length - j.toNat) := by simp; omega
 refine x_rg (rgn [hE] (⟨[(0,oL 0 zE2 s_),(1,pI i),(2,pI j)],[(0,rL (some 13) zE2 s_)],1⟩)) ?_
 refine x_rg (rg0 (obs := [(((List.map zE2 s_).length : Nat) : Int) = (List.length s_ : Int),0 ≤ i ∧ i ≤ j ∧ j ≤ (List.length s_ : Int) ∧ (List.length s_ : Int) ≤ (((List.map zE2 s_).length : Nat) : Int)]) [hE,hE,hE,hE,hN (.len (List.length s_ : Int)),hN .c3] (⟨[(0,oL 0 zE2 s_),(1,pI i),(2,pI j)],[(0,rL (some 13) zE2 s_)],1⟩) (.cons (by rw [List.length_map]) (.cons ⟨q1,q2,q3,by rw [List.length_map]; exact Int.le_refl _⟩ .nil))) ?_
 refine x_seq ?_
 refine x_rg (rgn [hE,hE,hE] (⟨[(0,oL 0 zE2 s_),(1,pI i),(2,pI j),(16,pB (decide (i = j)))],[(0,rL (some 13) zE2 s_)],1⟩)) ?_
 refine x_cond _ rfl (fun hc => ?_) (fun hc => ?_)
 ·have hij : i = j := of_decide_eq_true hc
  subst hij
  have e : s_.take i.toNat ++ s_.drop i.toNat = s_ := List.take_append_drop _ _
  rw [e]
  refine x_rg (rgn [hE,hE] (⟨[(6,oL 0 zE2 s_)],[(0,rL (some 13) zE2 s_)],1⟩)) ?_
  refine x_toret (x_tr ?_)
  exact x_ret (.usl (some 13) (List.take (List.map zE2 s_).length (List.map zE2 s_))) [0] [(List.map zE2 s_).length ≤ List.length (List.map zE2 s_)] (by kernel_rfl) (.cons (Nat.le_refl _) .nil) (by decide) (.of_eq (by rw [List.take_length])) (fun h => nomatch h)
 refine x_kk (x_skip (x_tn ?_))
 refine x_rg (rg0 (obs := [(((List.map zE2 s_).length : Nat) : Int) = (List.length s_ : Int)]) [hE,hN (.len (List.length s_ : Int)),hE] (⟨[(0,oL 0 zE2 s_),(1,pI i),(2,pI j),(7,pI (List.length s_ : Int))],[(0,rL (some 13) zE2 s_)],1⟩) (.cons (by rw [List.length_map]) .nil)) ?_
 refine x_rg (st2 := ⟨[(0,oL 0 zE2 (s_.take i.toNat ++ s_.drop j.toNat)),(7,pI (List.length s_ : Int))],[(0,rL (some 13) zE2 (s_.take i.toNat ++ s_.drop j.toNat ++ s_.drop (i.toNat + (s_.length - j.toNat))))],1⟩) (rg (obs := [0 ≤ (0 : Int) ∧ (0 : Int) ≤ i ∧ i ≤ (((List.map zE2 s_).length : Nat) : Int),0 ≤ j ∧ j ≤ (((List.map zE2 s_).length : Nat) : Int) ∧ (((List.map zE2 s_).length : Nat) : Int) ≤ (((List.map zE2 s_).length : Nat) : Int),
   (Int.toNat i - Int.toNat 0) + (List.take (Int.toNat (((List.map zE2 s_).length : Nat) : Int) - Int.toNat j) (List.drop (0 + Int.toNat j) (List.map zE2 s_))).length ≤ (List.map zE2 s_).length,
   List.take (Int.toNat i - Int.toNat 0) (List.map zE2 s_) ++ List.take (Int.toNat (((List.map zE2 s_).length : Nat) : Int) - Int.toNat j) (List.drop (0 + Int.toNat j) (List.map zE2 s_)) ++ List.drop ((Int.toNat i - Int.toNat 0) + (List.take (Int.toNat (((List.map zE2 s_).length : Nat) : Int) - Int.toNat j) (List.drop (0 + Int.toNat j) (List.map zE2 s_))).length) (List.map zE2 s_) = List.map zE2 (s_.take i.toNat ++ s_.drop j.toNat ++ s_.drop (i.toNat + (s_.length - j.toNat))),
   (0 + Int.toNat j) + (Int.toNat (((List.map zE2 s_).length : Nat) : Int) - Int.toNat j) ≤ (List.map zE2 s_).length])
   [hE,hE,hN .cutR,hE,hE,hN .cutR,hN (.apIn (List.map zE2 (s_.take i.toNat ++ s_.drop j.toNat ++ s_.drop (i.toNat + (s_.length - j.toNat))))),hE]
   (⟨[(0,.osl 0 0 ((Int.toNat i - Int.toNat 0) + (List.take (Int.toNat (((List.map zE2 s_).length : Nat) : Int) - Int.toNat j) (List.drop (0 + Int.toNat j) (List.map zE2 s_))).length)),(7,pI (List.length s_ : Int))],[(0,rL (some 13) zE2 (s_.take i.toNat ++ s_.drop j.toNat ++ s_.drop (i.toNat + (s_.length - j.toNat))))],1⟩)
   (.cons ⟨Int.le_refl _,q1,by rw [List.length_map]; omega⟩ (.cons ⟨by omega,by rw [List.length_map]; exact q3,Int.le_refl _⟩ (.cons (by rw [del_len hB,List.length_map]; omega) (.cons (del_eq hA hB) (.cons (by rw [List.length_map]; omega) .nil)))))
   (Sub.of_eq (by rw [del_len hB,oL,List.length_map,hr]; rfl))) ?_
 refine x_rg (st2 := ⟨[(0,oL 0 zE2 (s_.take i.toNat ++ s_.drop j.toNat))],[(0,rL (some 13) zE2 (s_.take i.toNat ++ s_.drop j.toNat))],1⟩) (rg (obs := [(((List.map zE2 (s_.take i.toNat ++ s_.drop j.toNat)).length : Nat) : Int) = (List.length (s_.take i.toNat ++ s_.drop j.toNat) : Int),
   0 ≤ (List.length (s_.take i.toNat ++ s_.drop j.toNat) : Int) ∧ (List.length (s_.take i.toNat ++ s_.drop j.toNat) : Int) ≤ (List.length s_ : Int) ∧ (List.length s_ : Int) ≤ ((List.length (List.map zE2 (s_.take i.toNat ++ s_.drop j.toNat ++ s_.drop (i.toNat + (s_.length - j.toNat)))) : Nat) : Int),
   Int.toNat (List.length (s_.take i.toNat ++ s_.drop j.toNat) : Int) ≤ List.length (List.map zE2 (s_.take i.toNat ++ s_.drop j.toNat ++ s_.drop (i.toNat + (s_.length - j.toNat))))])
   [hE,hE,hN (.len (List.length (s_.take i.toNat ++ s_.drop j.toNat) : Int)),hE,hN .slOv,hN .clr]
   (⟨[(0,oL 0 zE2 (s_.take i.toNat ++ s_.drop j.toNat))],[(0,some (.p (some 13) (List.take (Int.toNat (List.length (s_.take i.toNat ++ s_.drop j.toNat) : Int)) (List.map zE2 (s_.take i.toNat ++ s_.drop j.toNat ++ s_.drop (i.toNat + (s_.length - j.toNat)))))))],1⟩)
   (.cons (by rw [List.length_map]) (.cons ⟨by omega,by rw [hr]; omega,by rw [List.length_map,List.length_append,hr]; simp; omega⟩ (.cons (by rw [List.length_map,Int.toNat_natCast,@List.length_append _ (s_.take i.toNat ++ s_.drop j.toNat)]; exact Nat.le_add_right _ _) .nil)))
   (Sub.of_eq (by rw [del_row]))) ?_
 refine x_rg (rgn [hE,hE] (⟨[(6,oL 0 zE2 (s_.take i.toNat ++ s_.drop j.toNat))],[(0,rL (some 13) zE2 (s_.take i.toNat ++ s_.drop j.toNat))],1⟩)) ?_
 refine x_toret ?_
 exact x_ret (.usl (some 13) (List.take (List.map zE2 (s_.take i.toNat ++ s_.drop j.toNat)).length (List.map zE2 (s_.take i.toNat ++ s_.drop j.toNat)))) [0] [(List.map zE2 (s_.take i.toNat ++ s_.drop j.toNat)).length ≤ List.length (List.map zE2 (s_.take i.toNat ++ s_.drop j.toNat))] (by kernel_rfl) (.cons (Nat.le_refl _) .nil) (by decide) (.of_eq (by rw [List.take_length])) (fun h => nomatch h)
theorem c18 {p : api_Procs} {id : Int} {status : Str} {r : (api_Procs × Int)} (h : proc_Exit p id status = some r) : CallOK Tryd.prog 18 [zE3 p,.int .i64 id,.str status] (.tup [(gA1 r.1),.int .i64 r.2]) false := by
 apply ok18
 unfold proc_Exit at h
 refine x_rg (rgn [hE,hE,hE] (⟨[(1,pI id),(2,pS status),oP 3 0,oP 6 1],[rP 0 3 (zE3 p),rP 1 3 gA2],2⟩)) ?_
 obtain ⟨x1,hx1,h⟩ := bind_some h
 refine x_rg (rg0 [hE,hN (.cal [] (gA5 x1) false),hE,hE] (⟨[(1,pI id),(2,pS status),oP 6 0,oP 8 1],[rP 0 3 gA2,rH 1 3 (gA7 x1 2),(2,some (.p (some 13) (List.map zE2 x1.L) [(9,none),(11,none)]))],3⟩) (kc (c31 hx1) .nil)) ?_
 obtain ⟨x2,hx2,h⟩ := bind_some h
 refine x_rg (rg0 [hE,hE,hN (.call [] [(gA8 x1),.int .i64 id] (.int .i64 x2) true),hE] (⟨[(1,pI id),(2,pS status),oP 6 0,oP 8 1,(9,pI x2)],[rP 0 3 gA2,rH 1 3 (gA7 x1 2),(2,some (.p (some 13) (List.map zE2 x1.L) [(9,none),(11,none)]))],3⟩) (kc (show LesA [(gA9 x1),.int .i64 id] [(gA8 x1),.int .i64 id] from (.cons (.agg (.cons (.refl _) (.cons (.refl _) (.cons (.of_eq (by rw [List.drop_zero,List.take_length])) .nil)))) (.cons (.refl _) .nil))) (kc (c25 hx2) (kc (le0 (List.map zE2 x1.L)) .nil)))) ?_
 refine x_seq (x_block ?_)
 refine x_rg (rgn [hE,hE,hE] (⟨[(1,pI id),(2,pS status),oP 6 0,oP 8 1,(9,pI x2),(18,pB (decide (x2 < 0)))],[rP 0 3 gA2,rH 1 3 (gA7 x1 2),(2,some (.p (some 13) (List.map zE2 x1.L) [(9,none),(11,none)]))],3⟩)) ?_
 refine x_if h rfl (fun hc3 h => ?_) (fun hc3 h => ?_)
 ·refine x_rg (rgn [hE,hE,hE] (⟨[oP 6 0,(7,pI 42)],[rH 0 3 (gA7 x1 1),(1,some (.p (some 13) (List.map zE2 x1.L) [(9,none),(11,none)]))],2⟩)) ?_
  refine x_toret (x_br (x_tr ?_))
  obtain rfl := sj h
  exact x_ret (.tup [(gA5 x1),.int .i64 42]) [1] [(List.map zE2 x1.L).length = List.length (List.map zE2 x1.L)] (by kernel_rfl) (.cons rfl .nil) (by decide) (.tup (.cons (.agg (.cons (.refl _) (.cons (.refl _) (.cons (.dslU _ _ _) .nil)))) (.cons (.refl _) .nil))) (fun h => nomatch h)
 refine x_rg (rgn [hE,hE,hE] (⟨[(1,pI id),(2,pS status),oP 6 0,oP 8 1,(9,pI x2),(22,pB (decide (id = 1)))],[rP 0 3 gA2,rH 1 3 (gA7 x1 2),(2,some (.p (some 13) (List.map zE2 x1.L) [(9,none),(11,none)]))],3⟩)) ?_
 refine x_if h rfl (fun hc4 h => ?_) (fun hc4 h => ?_)
 ·refine x_rg (rgn [hE,hE,hE] (⟨[oP 6 0,(7,pI 43)],[rH 0 3 (gA7 x1 1),(1,some (.p (some 13) (List.map zE2 x1.L) [(9,none),(11,none)]))],2⟩)) ?_
  refine x_toret (x_br (x_tr ?_))
  obtain rfl := sj h
  exact x_ret (.tup [(gA5 x1),.int .i64 43]) [1] [(List.map zE2 x1.L).length = List.length (List.map zE2 x1.L)] (by kernel_rfl) (.cons rfl .nil) (by decide) (.tup (.cons (.agg (.cons (.refl _) (.cons (.refl _) (.cons (.dslU _ _ _) .nil)))) (.cons (.refl _) .nil))) (fun h => nomatch h)
 obtain ⟨x5,hx5,h⟩ := bind_some h
 refine x_rg (rg0 [hE,hN (.cal [] (.bool x5) true),hE,hE] (⟨[(1,pI id),(2,pS status),oP 6 0,oP 8 1,(9,pI x2),(26,pB (!x5))],[rP 0 3 gA2,rH 1 3 (gA7 x1 2),(2,some (.p (some 13) (List.map zE2 x1.L) [(9,none),(11,none)]))],3⟩) (kc (c32 hx5) .nil)) ?_
 refine x_if h rfl (fun hc6 h => ?_) (fun hc6 h => ?_)
 ·refine x_rg (rgn [hE,hE,hE] (⟨[oP 6 0,(7,pI 4)],[rH 0 3 (gA7 x1 1),(1,some (.p (some 13) (List.map zE2 x1.L) [(9,none),(11,none)]))],2⟩)) ?_
  refine x_toret (x_br (x_tr ?_))
  obtain rfl := sj h
  exact x_ret (.tup [(gA5 x1),.int .i64 4]) [1] [(List.map zE2 x1.L).length = List.length (List.map zE2 x1.L)] (by kernel_rfl) (.cons rfl .nil) (by decide) (.tup (.cons (.agg (.cons (.refl _) (.cons (.refl _) (.cons (.dslU _ _ _) .nil)))) (.cons (.refl _) .nil))) (fun h => nomatch h)
 refine x_kk (x_skip (x_bn (x_tn ?_)))
 obtain ⟨x7,hx7,h⟩ := bind_some h
 refine x_rg (rg0 [hE,hE,hE,hN .rAt,hN (.ld (zE2 x7)),hE,hE] (⟨[(1,pI id),(2,pS status),oP 6 0,oP 8 1,(9,pI x2),oP 10 3],[rP 0 3 gA2,rH 1 3 (gA7 x1 2),(2,some (.p (some 13) (List.map zE2 x1.L) [(9,none),(11,none)])),rP 3 13 (zE2 x7)],4⟩) (kc (rAtM (f := zE2) hx7) (kc (ownAt (f := zE2) hx7) .nil))) ?_
 refine x_join (τ := (List api_Proc)) (fun t => proc_Exit_K8 id x1 x2 t = some r) (fun t => { tm := [(1,.pv (.int .i64 id)),oP 6 0,oP 8 1,(9,.pv (.int .i64 x2))],hp := [rP 0 3 gA2,rH 1 3 (.agg [.pv (.int .i64 x1.Next),.pv (.int .i64 x1.Group),.osl 2 0 (List.map zE2 t).length]),(2,some (.p (some 13) (List.map zE2 t)))],nx := 3 }) ?_ ?_
 ·rintro p9 h
  replace h : proc_Exit_K8 id x1 x2 p9 = some r := h
  unfold proc_Exit_K8 at h
  obtain ⟨x10,hx10,h⟩ := bind_some h
  refine x_rg (rg0 [hE,hE,hE,hE,hE,hN (.call [2] [.usl (some 13) (List.map zE2 p9),.int .i64 x2,.int .i64 (IntKind.wrap .i64 (x2 + 1))] (.usl (some 13) (List.map zE2 x10)) false),hE,hE] (⟨[(1,pI id),oP 6 0,oP 8 1],[rP 0 3 gA2,rH 1 3 (.agg [pI x1.Next,pI x1.Group,oL 2 zE2 x10]),(2,rL (some 13) zE2 x10)],3⟩) (kc (show LesA [.usl (some 13) (List.take (List.map zE2 p9).length (List.map zE2 p9)),.int .i64 x2,.int .i64 (IntKind.wrap .i64 (x2 + 1))] [.usl (some 13) (List.map zE2 p9),.int .i64 x2,.int .i64 (IntKind.wrap .i64 (x2 + 1))] from (.cons (.of_eq (by rw [List.take_length])) (.cons (.refl _) (.cons (.refl _) .nil)))) (kc (c33_o hx10) (kc (le1 (List.map zE2 p9)) .nil)))) ?_
  refine x_seq ?_
  refine x_rg (rg0 [hE,hE,hN (.len (List.length x10 : Int)),hE] (⟨[(1,pI id),oP 6 0,oP 8 1,(82,pI (List.length x10 : Int)),(83,pI 0)],[rP 0 3 gA2,rH 1 3 (.agg [pI x1.Next,pI x1.Group,oL 2 zE2 x10]),(2,rL (some 13) zE2 x10)],3⟩) (kc (lenM zE2 x10) .nil)) ?_
  refine x_block ?_
  refine kw0 (⟨[(1,pI id),oP 6 0,oP 8 1,(82,pI (List.length x10 : Int)),(83,pI 0)],[rP 0 3 gA2,rH 1 3 (.agg [pI x1.Next,pI x1.Group,oL 2 zE2 x10]),(2,rL (some 13) zE2 x10)],3⟩) ?_
  refine x_loop (σ := (Int × (List api_Proc))) h (fun s => ⟨[(1,pI id),oP 6 0,oP 8 1,(82,pI (List.length x10 : Int)),(83,pI s.1)],[rP 0 3 gA2,rH 1 3 (.agg [pI x1.Next,pI x1.Group,oL 2 zE2 s.2]),(2,rL (some 13) zE2 s.2)],3⟩) (by kernel_rfl) ?_ ?_
  ·rintro ⟨v15,v16⟩
   kernel_rfl
  rintro ⟨v15,v16⟩ x17 h hx17
  replace h : proc_Exit_L17 id x1 x10 v15 v16 = some x17 := h
  unfold proc_Exit_L17 at h
  refine x_rg (rgn [hE] (⟨[(1,pI id),oP 6 0,oP 8 1,(82,pI (List.length x10 : Int)),(83,pI v15),(84,pB (decide (v15 < (List.length x10 : Int))))],[rP 0 3 gA2,rH 1 3 (.agg [pI x1.Next,pI x1.Group,oL 2 zE2 v16]),(2,rL (some 13) zE2 v16)],3⟩)) ?_
  refine x_seq ?_
  refine x_if h rfl (fun hc18 h => ?_) (fun hc18 h => ?_)
  ·refine x_kk (x_skip (x_tn (x_seq (x_block ?_))))
   refine x_rg (rgn [hE,hE] (⟨[(1,pI id),oP 6 0,oP 8 1,(12,pI v15),(82,pI (List.length x10 : Int)),(83,pI v15)],[rP 0 3 gA2,rH 1 3 (.agg [pI x1.Next,pI x1.Group,oL 2 zE2 v16]),(2,rL (some 13) zE2 v16)],3⟩)) ?_
   obtain ⟨x19,hx19,h⟩ := bind_some h
   refine x_rg (rg0 [hE,hE,hE,hN .rAt,hE,hN (.ld (zE2 x19)),hE,hE] (⟨[(1,pI id),oP 6 0,oP 8 1,(12,pI v15),(82,pI (List.length x10 : Int)),(83,pI v15),(93,pB (decide (x19.Parent = id)))],[rP 0 3 gA2,rH 1 3 (.agg [pI x1.Next,pI x1.Group,oL 2 zE2 v16]),(2,rL (some 13) zE2 v16)],3⟩) (kc (rAtM (f := zE2) hx19) (kc (ownAt (f := zE2) hx19) .nil))) ?_
   refine x_if h rfl (fun hc20 h => ?_) (fun hc20 h => ?_)
   ·obtain ⟨x21,hx21,h⟩ := bind_some h
    refine x_rgt (st2 := { tm := [(1,.pv (.int .i64 id)),oP 6 0,oP 8 1,(82,.pv (.int .i64 (List.length x10 : Int))),(83,.pv (.int .i64 v15))],hp := [rP 0 3 gA2,rH 1 3 (.agg [.pv (.int .i64 x1.Next),.pv (.int .i64 x1.Group),.osl 2 0 (List.map zE2 (List.set v16 (Int.toNat v15) (api_Proc.mk x21.Id 1 x21.State x21.User x21.Name x21.Ns x21.Env x21.Fds x21.Cwd x21.Notes x21.Status x21.Waits x21.Alone))).length]),(2,some (.p (some 13) (List.map zE2 (List.set v16 (Int.toNat v15) (api_Proc.mk x21.Id 1 x21.State x21.User x21.Name x21.Ns x21.Env x21.Fds x21.Cwd x21.Notes x21.Status x21.Waits x21.Alone)))))],nx := 3 }) (rg [hE,hE,hE,hN .rAt,hE,hN (.set (zE2 x21) (List.map zE2 (List.set v16 (Int.toNat v15) (api_Proc.mk x21.Id 1 x21.State x21.User x21.Name x21.Ns x21.Env x21.Fds x21.Cwd x21.Notes x21.Status x21.Waits x21.Alone))))] ({ tm := [(1,.pv (.int .i64 id)),oP 6 0,oP 8 1,(82,.pv (.int .i64 (List.length x10 : Int))),(83,.pv (.int .i64 v15))],hp := [rP 0 3 gA2,rH 1 3 (.agg [.pv (.int .i64 x1.Next),.pv (.int .i64 x1.Group),.osl 2 0 (List.map zE2 v16).length]),(2,some (.p (some 13) (List.map zE2 (List.set v16 (Int.toNat v15) (api_Proc.mk x21.Id 1 x21.State x21.User x21.Name x21.Ns x21.Env x21.Fds x21.Cwd x21.Notes x21.Status x21.Waits x21.Alone)))))],nx := 3 }) (kc (rAtM (f := zE2) hx21) (kc (ownAt (f := zE2) hx21) (kc (show List.set (List.map zE2 v16) (0 + Int.toNat v15) (.agg [.int .i64 x21.Id,.int .i64 1,.int .i64 x21.State,.str x21.User,.str x21.Name,.int .i64 x21.Ns,.int .i64 x21.Env,.int .i64 x21.Fds,.str x21.Cwd,.sl none (List.map PV.str x21.Notes),.str x21.Status,.sl (some 2) (List.map zE1 x21.Waits),.bool x21.Alone]) = (List.map zE2 (List.set v16 (Int.toNat v15) (api_Proc.mk x21.Id 1 x21.State x21.User x21.Name x21.Ns x21.Env x21.Fds x21.Cwd x21.Notes x21.Status x21.Waits x21.Alone))) from (by rw [Nat.zero_add,List.map_set]; try rfl)) .nil))) (Sub.of_eq (by simp only [List.length_map,List.length_set]))) ?_
    refine x_bn (x_tn ?_)
    refine x_rgt (rgn [hE,hE] (⟨[(1,pI id),oP 6 0,oP 8 1,(82,pI (List.length x10 : Int)),(83,pI (IntKind.wrap .i64 (v15 + 1)))],[rP 0 3 gA2,rH 1 3 (.agg [pI x1.Next,pI x1.Group,oL 2 zE2 (List.set v16 (Int.toNat v15) (api_Proc.mk x21.Id 1 x21.State x21.User x21.Name x21.Ns x21.Env x21.Fds x21.Cwd x21.Notes x21.Status x21.Waits x21.Alone))]),(2,rL (some 13) zE2 (List.set v16 (Int.toNat v15) (api_Proc.mk x21.Id 1 x21.State x21.User x21.Name x21.Ns x21.Env x21.Fds x21.Cwd x21.Notes x21.Status x21.Waits x21.Alone)))],3⟩)) ?_
    refine x_tn ?_
    exact ⟨_,(sj h).symm,by kernel_rfl⟩
   refine x_kk (x_skip (x_bn (x_tn ?_)))
   refine x_rgt (rgn [hE,hE] (⟨[(1,pI id),oP 6 0,oP 8 1,(82,pI (List.length x10 : Int)),(83,pI (IntKind.wrap .i64 (v15 + 1)))],[rP 0 3 gA2,rH 1 3 (.agg [pI x1.Next,pI x1.Group,oL 2 zE2 v16]),(2,rL (some 13) zE2 v16)],3⟩)) ?_
   refine x_tn ?_
   exact ⟨_,(sj h).symm,by kernel_rfl⟩
  refine kw0 (⟨[oP 6 0,oP 8 1],[rP 0 3 gA2,rH 1 3 (.agg [pI x1.Next,pI x1.Group,oL 2 zE2 v16]),(2,rL (some 13) zE2 v16)],3⟩) ?_
  refine x_exit ?_
  refine x_te (x_te ?_)
  replace h := done_leaf h hx17
  refine x_bh ?_
  refine x_tn ?_
  refine x_rg (rgn [hE,hE,hE] (⟨[oP 6 0,(7,pI 0)],[rH 0 3 (.agg [pI x1.Next,pI x1.Group,oL 1 zE2 v16]),(1,rL (some 13) zE2 v16)],2⟩)) ?_
  refine x_toret ?_
  obtain rfl := sj h
  exact x_ret (.tup [.agg [.int .i64 x1.Next,.int .i64 x1.Group,.usl (some 13) (List.take (List.map zE2 v16).length (List.map zE2 v16))],.int .i64 0]) [1] [(List.map zE2 v16).length ≤ List.length (List.map zE2 v16)] (by kernel_rfl) (.cons (Nat.le_refl _) .nil) (by decide) (.tup (.cons (.agg (.cons (.refl _) (.cons (.refl _) (.cons (.of_eq (by rw [List.take_length])) .nil)))) (.cons (.refl _) .nil))) (fun h => nomatch h)
 obtain ⟨x22,hx22,h⟩ := bind_some h
 refine x_rg (rg0 [hE,hE,hE,hN (.call [] [(gA8 x1),.int .i64 x7.Parent] (.int .i64 x22) true),hE] (⟨[(1,pI id),(2,pS status),oP 6 0,oP 8 1,(9,pI x2),oP 10 3,(11,pI x22)],[rP 0 3 gA2,rH 1 3 (gA7 x1 2),(2,some (.p (some 13) (List.map zE2 x1.L) [(9,none),(11,none)])),rP 3 13 (zE2 x7)],4⟩) (kc (show LesA [(gA9 x1),.int .i64 x7.Parent] [(gA8 x1),.int .i64 x7.Parent] from (.cons (.agg (.cons (.refl _) (.cons (.refl _) (.cons (.of_eq (by rw [List.drop_zero,List.take_length])) .nil)))) (.cons (.refl _) .nil))) (kc (c25 hx22) (kc (le0 (List.map zE2 x1.L)) .nil)))) ?_
 obtain ⟨t26,ht,h⟩ := bind_some h
 refine x_rgB (fun b_ => (⟨[(1,pI id),(2,pS status),oP 6 0,oP 8 1,(9,pI x2),(11,pI x22),(56,pB b_)],[rP 0 3 gA2,rH 1 3 (gA7 x1 2),(2,some (.p (some 13) (List.map zE2 x1.L) [(9,none),(11,none)]))],3⟩ : VSt)) t26 ?_ ?_
 ·rcases bq (decide (0 ≤ x22)) with hg23 | hg23
  ·replace ht := ite_t ht hg23
   rcases bq (!x7.Alone) with hg24 | hg24
   ·replace ht := ite_t ht hg24
    obtain ⟨x25,hx25,ht⟩ := bind_some ht
    obtain rfl := sj ht
    exact rb [hE,hE,hE,hY,hY,hY,hN (.pk true),hE,hY,hY,hY,(.y,.rAt),hY,(.y,(.ld (zE2 x25))),(.y,(.len (List.length x25.Waits : Int))),hY,hN (.pk true)] (decide ((List.length x25.Waits : Int) < 64)) (hk4 hg23 (hk4 hg24 (kc (rAtM (f := zE2) hx25) (hk2 hg24 (kc (ownAt (f := zE2) hx25) (kc hg24 (kc (lenM zE1 x25.Waits) (hk2 hg24 .nil)))))))) rfl
   replace ht := ite_f ht hg24
   obtain rfl := sj ht
   exact rb [hE,hE,hE,hY,hY,hY,hN (.pk true),hE,hS,hS,hS,hS,hS,hS,hS,hS,hN (.pk false)] false (hk4 hg23 (kc hg24 (hk8 hg24 .nil))) rfl
  replace ht := ite_f ht hg23
  obtain rfl := sj ht
  exact rb [hE,hE,hE,hS,hS,hS,hN (.pk false),hE,hS,hS,hS,hS,hS,hS,hS,hS,hE] false (hk4 hg23 (hk8 ff .nil)) rfl
 clear ht
 refine x_if h rfl (fun hc27 h => ?_) (fun hc27 h => ?_)
 ·obtain ⟨x28,hx28,h⟩ := bind_some h
  obtain ⟨x29,hx29,h⟩ := bind_some h
  obtain ⟨x30,hx30,h⟩ := bind_some h
  refine x_rgt (st2 := { tm := [(1,.pv (.int .i64 id)),oP 6 0,oP 8 1,(9,.pv (.int .i64 x2))],hp := [rP 0 3 gA2,rH 1 3 (.agg [.pv (.int .i64 x1.Next),.pv (.int .i64 x1.Group),.osl 2 0 (List.map zE2 (List.set x1.L (Int.toNat x22) (api_Proc.mk x30.Id x30.Parent x30.State x30.User x30.Name x30.Ns x30.Env x30.Fds x30.Cwd x30.Notes x30.Status x29 x30.Alone))).length]),(2,some (.p (some 13) (List.map zE2 (List.set x1.L (Int.toNat x22) (api_Proc.mk x30.Id x30.Parent x30.State x30.User x30.Name x30.Ns x30.Env x30.Fds x30.Cwd x30.Notes x30.Status x29 x30.Alone)))))],nx := 3 }) (rg [hE,hE,hE,hE,hE,hE,hN .rAt,hE,hN (.tko (gA6 x28)),hE,hE,hE,hE,hN (.appR (List.map zE1 x29)),hN .rAt,hE,hN (.set (zE2 x30) (List.map zE2 (List.set x1.L (Int.toNat x22) (api_Proc.mk x30.Id x30.Parent x30.State x30.User x30.Name x30.Ns x30.Env x30.Fds x30.Cwd x30.Notes x30.Status x29 x30.Alone))))] ({ tm := [(1,.pv (.int .i64 id)),oP 6 0,oP 8 1,(9,.pv (.int .i64 x2))],hp := [rP 0 3 gA2,rH 1 3 (gA11 x1),(2,some (.p (some 13) (List.map zE2 (List.set x1.L (Int.toNat x22) (api_Proc.mk x30.Id x30.Parent x30.State x30.User x30.Name x30.Ns x30.Env x30.Fds x30.Cwd x30.Notes x30.Status x29 x30.Alone)))))],nx := 3 }) (kc (rAtM (f := zE2) hx28) (kc (ownAt (f := zE2) hx28) (kc (show (List.map zE1 x28.Waits).length = List.length (List.map zE1 x28.Waits) from rfl) (kc (show (List.map zE1 x28.Waits) ++ List.take 1 (List.drop 0 ([.agg [.int .i64 id,.str status]] : List PV)) = (List.map zE1 x29) from (app_ob hx29 (.rfl _) (.rfl _))) (kc (show List.length (List.map zE1 x29) * 24 ≤ 140737488355328 from (by rw [List.length_map]; exact (appL_ok hx29).2.1)) (kc (show List.length (List.map zE1 x29) ≤ 9223372036854775807 from (by rw [List.length_map]; exact (appL_ok hx29).2.2)) (kc (show 0 + 1 ≤ List.length ([.agg [.int .i64 id,.str status]] : List PV) from (by simp)) (kc (rAtM (f := zE2) hx30) (kc (ownAt (f := zE2) hx30) (kc (show List.set (List.map zE2 x1.L) (0 + Int.toNat x22) (.agg [.int .i64 x30.Id,.int .i64 x30.Parent,.int .i64 x30.State,.str x30.User,.str x30.Name,.int .i64 x30.Ns,.int .i64 x30.Env,.int .i64 x30.Fds,.str x30.Cwd,.sl none (List.map PV.str x30.Notes),.str x30.Status,.sl (some 2) (List.map zE1 x29),.bool x30.Alone]) = (List.map zE2 (List.set x1.L (Int.toNat x22) (api_Proc.mk x30.Id x30.Parent x30.State x30.User x30.Name x30.Ns x30.Env x30.Fds x30.Cwd x30.Notes x30.Status x29 x30.Alone))) from (by rw [Nat.zero_add,List.map_set]; try rfl)) .nil)))))))))) (Sub.of_eq (by simp only [List.length_map,List.length_set,gA11]))) ?_
  refine x_tn ?_
  exact ⟨(List.set x1.L (Int.toNat x22) (api_Proc.mk x30.Id x30.Parent x30.State x30.User x30.Name x30.Ns x30.Env x30.Fds x30.Cwd x30.Notes x30.Status x29 x30.Alone)),h,by kernel_rfl⟩
 refine x_kw (st2 := { tm := [(1,.pv (.int .i64 id)),oP 6 0,oP 8 1,(9,.pv (.int .i64 x2))],hp := [rP 0 3 gA2,rH 1 3 (gA11 x1),(2,some (.p (some 13) (List.map zE2 x1.L)))],nx := 3 }) ({ tm := [(1,.pv (.int .i64 id)),oP 6 0,oP 8 1,(9,.pv (.int .i64 x2))],hp := [rP 0 3 gA2,rH 1 3 (gA11 x1),(2,some (.p (some 13) (List.map zE2 x1.L) [(9,none),(11,none)]))],nx := 3 }) (by kernel_rfl) ((Sub.keep (ks := [1,6,8,9]) (st := ⟨[(1,.pv (.int .i64 id)),oP 6 0,oP 8 1,(9,.pv (.int .i64 x2))],(2,some (.p (some 13) (List.map zE2 x1.L))) :: [rP 0 3 gA2,rH 1 3 (gA11 x1),(2,some (.p (some 13) (List.map zE2 x1.L) [(9,none),(11,none)]))],3⟩) (st' := { tm := [(1,.pv (.int .i64 id)),oP 6 0,oP 8 1,(9,.pv (.int .i64 x2))],hp := [rP 0 3 gA2,rH 1 3 (gA11 x1),(2,some (.p (some 13) (List.map zE2 x1.L)))],nx := 3 }) (by kernel_rfl)).trans (Sub.dropTk (st := { tm := [(1,.pv (.int .i64 id)),oP 6 0,oP 8 1,(9,.pv (.int .i64 x2))],hp := [rP 0 3 gA2,rH 1 3 (gA11 x1),(2,some (.p (some 13) (List.map zE2 x1.L) [(9,none),(11,none)]))],nx := 3 }) 2 (tk := [(9,none),(11,none)]) (tk' := []) rfl (by simp))) ?_
 refine x_skip (x_tn ?_)
 exact ⟨x1.L,h,by kernel_rfl⟩
theorem c28 {p : api_Procs} {i : Int} {r : Bool} (h : proc_family p i = some r) : CallOK Tryd.prog 28 [zE3 p,.int .i64 i] (.bool r) true := by
 apply ok28
 unfold proc_family at h
 refine x_rg (rgn [hE,hE] (⟨[(1,pI i),oP 2 0],[rP 0 3 (zE3 p)],1⟩)) ?_
 obtain ⟨x1,hx1,h⟩ := bind_some h
 refine x_rg (rg0 [hE,hE,hE,hN (.pAt (zE2 x1)),hE,hE,hE] (⟨[(1,pI i),oP 2 0,oP 5 1],[rP 0 3 (zE3 p),rP 1 13 (zE2 x1)],2⟩) (kc (lsAt_map (f := zE2) hx1) .nil)) ?_
 refine x_seq ?_
 refine x_rg (rgn [hE,hE] (⟨[(1,pI i),oP 2 0,oP 5 1,(12,pB (decide (i = 0)))],[rP 0 3 (zE3 p),rP 1 13 (zE2 x1)],2⟩)) ?_
 refine x_if h rfl (fun hc2 h => ?_) (fun hc2 h => ?_)
 ·refine x_rgB (fun b_ => (⟨[(4,pB b_)],[],0⟩ : VSt)) ((decide (x1.Id = 1)) && (decide (x1.Parent = 0))) ?_ ?_
  ·rcases bq (decide (x1.Id = 1)) with hg3 | hg3
   ·exact rb [hE,hE,hE,hE,hY,hY,hY,hN (.pk true),hE] (decide (x1.Parent = 0)) (hk4 hg3 .nil) (by simp only [hg3,bs,reduceIte])
   exact rb [hE,hE,hE,hE,hS,hS,hS,hN (.pk false),hE] false (hk4 hg3 .nil) (by simp only [hg3,bs,reduceIte])
  refine x_toret (x_tr ?_)
  obtain rfl := sj h
  exact ret0 (.bool ((decide (x1.Id = 1)) && (decide (x1.Parent = 0)))) (.refl _) (fun _ => rfl)
 refine x_kk (x_skip (x_tn ?_))
 obtain ⟨x5,hx5,h⟩ := bind_some h
 obtain ⟨t9,ht,h⟩ := bind_some h
 refine x_rgB (fun b_ => (⟨[(4,pB b_)],[],0⟩ : VSt)) t9 ?_ ?_
 ·rcases bq (decide (x5.Id < x1.Id)) with hg6 | hg6
  ·replace ht := ite_t ht hg6
   rcases bq (decide (x1.Parent < x1.Id)) with hg7 | hg7
   ·replace ht := ite_t ht hg7
    obtain ⟨x8,hx8,ht⟩ := bind_some ht
    obtain rfl := sj ht
    exact rb [hE,hE,hE,hE,hN (.pAt (zE2 x5)),hE,hE,hE,hE,hE,hE,hY,hY,hY,hY,hY,hN (.pk true),hE,hY,hY,hY,(.y,(.cal [] (.int .i64 x8) true)),hY,hN (.pk true),hE] (decide (0 ≤ x8)) (kc (lsAt_map (f := zE2) hx5) (hk6 hg6 (hk4 hg7 (kc (c25 hx8) (hk2 hg7 .nil))))) rfl
   replace ht := ite_f ht hg7
   obtain rfl := sj ht
   exact rb [hE,hE,hE,hE,hN (.pAt (zE2 x5)),hE,hE,hE,hE,hE,hE,hY,hY,hY,hY,hY,hN (.pk true),hE,hS,hS,hS,hS,hS,hN (.pk false),hE] false (kc (lsAt_map (f := zE2) hx5) (hk6 hg6 (hk6 hg7 .nil))) rfl
  replace ht := ite_f ht hg6
  obtain rfl := sj ht
  exact rb [hE,hE,hE,hE,hN (.pAt (zE2 x5)),hE,hE,hE,hE,hE,hE,hS,hS,hS,hS,hS,hN (.pk false),hE,hS,hS,hS,hS,hS,hE,hE] false (kc (lsAt_map (f := zE2) hx5) (hk6 hg6 (hk5 ff .nil))) rfl
 clear ht
 refine x_toret ?_
 obtain rfl := sj h
 exact ret0 (.bool t9) (.refl _) (fun _ => rfl)
theorem c53 {n : Int} {r : Bool} (h : proc_state n = some r) : CallOK Tryd.prog 53 [.int .i64 n] (.bool r) true := by
 apply ok53
 unfold proc_state at h
 refine x_rg (rgn [hE] (⟨[(0,pI n)],[],0⟩)) ?_
 refine x_rgB (fun b_ => (⟨[(2,pB b_)],[],0⟩ : VSt)) ((decide (n = 1)) || ((decide (n = 2)) || (decide (n = 3)))) ?_ ?_
 ·rcases bq (decide (n = 1)) with hg1 | hg1
  ·exact rb [hE,hE,hE,hS,hS,hN (.pk true),hE,hS,hS,hE,hE] true (hk3 hg1 (hk2 tt .nil)) (by simp only [hg1,bs,reduceIte])
  rcases bq (decide (n = 2)) with hg2 | hg2
  ·exact rb [hE,hE,hE,hY,hY,hN (.pk false),hE,hS,hS,hN (.pk true),hE] true (hk3 hg1 (hk3 hg2 .nil)) (by simp only [hg1,hg2,bs,reduceIte])
  exact rb [hE,hE,hE,hY,hY,hN (.pk false),hE,hY,hY,hN (.pk false),hE] (decide (n = 3)) (hk3 hg1 (hk3 hg2 .nil)) (by simp only [hg1,hg2,bs,reduceIte])
 refine x_toret ?_
 obtain rfl := sj h
 exact ret0 (.bool ((decide (n = 1)) || ((decide (n = 2)) || (decide (n = 3))))) (.refl _) (fun _ => rfl)
theorem c54 {name : Str} {r : Bool} (h : path_Valid name = some r) : CallOK Tryd.prog 54 [.str name] (.bool r) true := by
 apply ok54
 unfold path_Valid at h
 refine x_rg (rgn [hE] (⟨[(0,pS name)],[],0⟩)) ?_
 refine x_seq ?_
 refine x_rgB (fun b_ => (⟨[(0,pS name),(18,pB b_)],[],0⟩ : VSt)) ((decide (name = [])) || ((decide (name = [46])) || ((decide (name = [46,46])) || (decide (64 < (List.length name : Int)))))) ?_ ?_
 ·rcases bq (decide (name = [])) with hg1 | hg1
  ·exact rb [hE,hE,hE,hS,hS,hN (.pk true),hE,hS,hS,hE,hE,hS,hS,hS,hE] true (hk3 hg1 (hk5 tt .nil)) (by simp only [hg1,bs,reduceIte])
  rcases bq (decide (name = [46])) with hg2 | hg2
  ·exact rb [hE,hE,hE,hY,hY,hN (.pk false),hE,hS,hS,hN (.pk true),hE,hS,hS,hS,hE] true (hk3 hg1 (hk3 hg2 (hk3 tt .nil))) (by simp only [hg1,hg2,bs,reduceIte])
  rcases bq (decide (name = [46,46])) with hg3 | hg3
  ·exact rb [hE,hE,hE,hY,hY,hN (.pk false),hE,hY,hY,hN (.pk false),hE,hS,hS,hS,hN (.pk true)] true (hk3 hg1 (hk3 hg2 (hk4 hg3 .nil))) (by simp only [hg1,hg2,hg3,bs,reduceIte])
  exact rb [hE,hE,hE,hY,hY,hN (.pk false),hE,hY,hY,hN (.pk false),hE,hY,hY,hY,hN (.pk false)] (decide (64 < (List.length name : Int))) (hk3 hg1 (hk3 hg2 (hk4 hg3 .nil))) (by simp only [hg1,hg2,hg3,bs,reduceIte])
 refine x_if h rfl (fun hc5 h => ?_) (fun hc5 h => ?_)
 ·refine x_rg (rgn [hE] (⟨[(2,pB false)],[],0⟩)) ?_
  refine x_toret (x_tr ?_)
  obtain rfl := sj h
  exact ret0 (.bool false) (.refl _) (fun _ => rfl)
 refine x_kk (x_skip (x_tn (x_seq ?_)))
 refine x_rg (rgn [hE,hE,hE] (⟨[(0,pS name),(20,pI (List.length name : Int)),(21,pI 0)],[],0⟩)) ?_
 refine x_block ?_
 refine kw0 (⟨[(0,pS name),(20,pI (List.length name : Int)),(21,pI 0)],[],0⟩) ?_
 refine x_loop (σ := Int) h (fun s => ⟨[(0,pS name),(20,pI (List.length name : Int)),(21,pI s)],[],0⟩) (by kernel_rfl) ?_ ?_
 ·rintro v14
  kernel_rfl
 rintro v14 x15 h hx15
 replace h : path_Valid_L15 name v14 = some x15 := h
 unfold path_Valid_L15 at h
 refine x_rg (rgn [hE] (⟨[(0,pS name),(20,pI (List.length name : Int)),(21,pI v14),(22,pB (decide (v14 < (List.length name : Int))))],[],0⟩)) ?_
 refine x_seq ?_
 refine x_if h rfl (fun hc16 h => ?_) (fun hc16 h => ?_)
 ·refine x_kk (x_skip (x_tn (x_seq (x_block ?_))))
  refine x_rg (rgn [hE,hE] (⟨[(0,pS name),(3,pI v14),(20,pI (List.length name : Int)),(21,pI v14)],[],0⟩)) ?_
  obtain ⟨c17,hc17,h⟩ := bind_some h
  obtain ⟨t22,ht,h⟩ := bind_some h
  refine x_rgB (fun b_ => (⟨[(0,pS name),(20,pI (List.length name : Int)),(21,pI v14),(39,pB b_)],[],0⟩ : VSt)) t22 ?_ ?_
  ·rcases bq (decide ((c17.toNat : Int) < 33)) with hg18 | hg18
   ·replace ht := ite_t ht hg18
    obtain rfl := sj ht
    exact rb [hE,hE,hN (.sAt c17),hE,hE,hS,hS,hS,hS,hN (.pk true),hE,hS,hS,hS,hS,hE] true (kc hc17 (hk5 hg18 (hk4 tt .nil))) rfl
   replace ht := ite_f ht hg18
   obtain ⟨c19,hc19,ht⟩ := bind_some ht
   rcases bq (decide (126 < (c19.toNat : Int))) with hg20 | hg20
   ·replace ht := ite_t ht hg20
    obtain rfl := sj ht
    exact rb [hE,hE,hN (.sAt c17),hE,hE,hY,hY,(.y,(.sAt c19)),hY,hN (.pk false),hE,hS,hS,hS,hS,hN (.pk true)] true (kc hc17 (hk3 hg18 (kc hc19 (hk2 hg18 (hk5 hg20 .nil))))) rfl
   replace ht := ite_f ht hg20
   obtain ⟨c21,hc21,ht⟩ := bind_some ht
   obtain rfl := sj ht
   exact rb [hE,hE,hN (.sAt c17),hE,hE,hY,hY,(.y,(.sAt c19)),hY,hN (.pk false),hE,hY,hY,(.y,(.sAt c21)),hY,hN (.pk false)] (decide ((c21.toNat : Int) = 47)) (kc hc17 (hk3 hg18 (kc hc19 (hk2 hg18 (hk3 hg20 (kc hc21 (hk2 hg20 .nil))))))) rfl
  clear ht
  refine x_if h rfl (fun hc23 h => ?_) (fun hc23 h => ?_)
  ·refine x_rg (rgn [hE] (⟨[(2,pB false)],[],0⟩)) ?_
   refine x_toret (x_br (x_tr (x_tr ?_)))
   replace h := done_leaf h hx15
   refine x_br (x_tr ?_)
   obtain rfl := sj h
   exact ret0 (.bool false) (.refl _) (fun _ => rfl)
  refine x_kk (x_skip (x_bn (x_tn ?_)))
  refine x_rgt (rgn [hE,hE] (⟨[(0,pS name),(20,pI (List.length name : Int)),(21,pI (IntKind.wrap .i64 (v14 + 1)))],[],0⟩)) ?_
  refine x_tn ?_
  exact ⟨_,(sj h).symm,by kernel_rfl⟩
 refine kw0 (⟨[],[],0⟩) ?_
 refine x_exit ?_
 refine x_te (x_te ?_)
 replace h := done_leaf h hx15
 refine x_bh ?_
 refine x_tn ?_
 refine x_rg (rgn [hE] (⟨[(2,pB true)],[],0⟩)) ?_
 refine x_toret ?_
 obtain rfl := sj h
 exact ret0 (.bool true) (.refl _) (fun _ => rfl)
theorem c85 {s_ : Str} {r : Int} (h : unicode_utf8_RuneCountInString s_ = some r) : CallOK Tryd.prog 85 [.str s_] (.int .i64 r) true := by
 apply ok85
 unfold unicode_utf8_RuneCountInString at h
 refine x_rg (rgn [hE] (⟨[(0,pS s_),(2,pI 0)],[],0⟩)) ?_
 refine x_seq ?_
 cases h
theorem c91 {s_ : Str} {r : (Int × Int)} (h : unicode_utf8_decodeRuneInStringSlow s_ = some r) : CallOK Tryd.prog 91 [.str s_] (.tup [.int .i32 r.1,.int .i64 r.2]) true := by
 apply ok91
 unfold unicode_utf8_decodeRuneInStringSlow at h
 refine x_rg (rgn [hE,hE] (⟨[(0,pS s_)],[],0⟩)) ?_
 refine x_rg (rgn [hE,hE,hE] (⟨[(0,pS s_),(4,pI (List.length s_ : Int))],[],0⟩)) ?_
 refine x_seq ?_
 refine x_rg (rgn [hE,hE] (⟨[(0,pS s_),(4,pI (List.length s_ : Int)),(16,pB (decide ((List.length s_ : Int) < 1)))],[],0⟩)) ?_
 refine x_if h rfl (fun hc1 h => ?_) (fun hc1 h => ?_)
 ·refine x_rg (rgn [hE,hE] (⟨[(2,.pv (.int .i32 65533)),(3,pI 0)],[],0⟩)) ?_
  refine x_toret (x_tr ?_)
  obtain rfl := sj h
  exact ret0 (.tup [.int .i32 65533,.int .i64 0]) (.tup (.cons (.refl _) (.cons (.refl _) .nil))) (fun _ => rfl)
 refine x_kk (x_skip (x_tn ?_))
 obtain ⟨c2,hc2,h⟩ := bind_some h
 refine x_rg (rg0 [hE,hN (.sAt c2),hE] (⟨[(0,pS s_),(4,pI (List.length s_ : Int)),(5,.pv (.int .u8 (c2.toNat : Int)))],[],0⟩) (kc hc2 .nil)) ?_
 cases h
theorem c86 {s_ : Str} {r : (Int × Int)} (h : unicode_utf8_DecodeRuneInString s_ = some r) : CallOK Tryd.prog 86 [.str s_] (.tup [.int .i32 r.1,.int .i64 r.2]) true := by
 apply ok86
 unfold unicode_utf8_DecodeRuneInString at h
 refine x_rg (rgn [hE,hE] (⟨[(0,pS s_)],[],0⟩)) ?_
 refine x_seq ?_
 obtain ⟨t3,ht,h⟩ := bind_some h
 refine x_rgB (fun b_ => (⟨[(0,pS s_),(10,pB b_)],[],0⟩ : VSt)) t3 ?_ ?_
 ·rcases bq (!decide (s_ = [])) with hg1 | hg1
  ·replace ht := ite_t ht hg1
   obtain ⟨c2,hc2,ht⟩ := bind_some ht
   obtain rfl := sj ht
   exact rb [hE,hE,hE,hY,(.y,(.sAt c2)),hY,hN (.pk true)] (decide ((c2.toNat : Int) < 128)) (hk2 hg1 (kc hc2 (hk2 hg1 .nil))) rfl
  replace ht := ite_f ht hg1
  obtain rfl := sj ht
  exact rb [hE,hE,hE,hS,hS,hS,hN (.pk false)] false (hk4 hg1 .nil) rfl
 clear ht
 refine x_if h rfl (fun hc4 h => ?_) (fun hc4 h => ?_)
 ·obtain ⟨c5,hc5,h⟩ := bind_some h
  refine x_rg (rg0 [hE,hN (.sAt c5),hE,hE,hE] (⟨[(2,.pv (.int .i32 (IntKind.wrap .i32 (c5.toNat : Int)))),(3,pI 1)],[],0⟩) (kc hc5 .nil)) ?_
  refine x_toret (x_tr ?_)
  obtain rfl := sj h
  exact ret0 (.tup [.int .i32 (IntKind.wrap .i32 (c5.toNat : Int)),.int .i64 1]) (.tup (.cons (.refl _) (.cons (.refl _) .nil))) (fun _ => rfl)
 obtain ⟨x6,hx6,h⟩ := bind_some h
 refine x_rgt (rg0 [hE,hN (.cal [] (.tup [.int .i32 x6.1,.int .i64 x6.2]) true),hE,hE,hE,hE,hE] (⟨[(2,.pv (.int .i32 x6.1)),(3,pI x6.2)],[],0⟩) (kc (c91 hx6) .nil)) ?_
 refine x_tn (x_toret ?_)
 obtain rfl := sj h
 exact ret0 (.tup [.int .i32 x6.1,.int .i64 x6.2]) (.tup (.cons (.refl _) (.cons (.refl _) .nil))) (fun _ => rfl)
theorem c80 {s_ : Str} {n : Int} {r : (List Str)} (h : strings_explode s_ n = some r) : CallOK Tryd.prog 80 [.str s_,.int .i64 n] (.usl none (List.map PV.str r)) true := by
 apply ok80
 unfold strings_explode at h
 refine x_rg (rgn [hE] (⟨[(0,pS s_),(1,pI n)],[],0⟩)) ?_
 obtain ⟨x1,hx1,h⟩ := bind_some h
 refine x_rg (rg0 [hE,hN (.cal [] (.int .i64 x1) true),hE] (⟨[(0,pS s_),(1,pI n),(5,pI x1)],[],0⟩) (kc (c85 hx1) .nil)) ?_
 refine x_join (τ := Int) (fun t => strings_explode_K2 s_ t = some r) (fun t => { tm := [(0,.pv (.str s_)),(1,.pv (.int .i64 t))],hp := [],nx := 0 }) ?_ ?_
 ·rintro p3 h
  replace h : strings_explode_K2 s_ p3 = some r := h
  unfold strings_explode_K2 at h
  obtain ⟨x4,hx4,h⟩ := bind_some h
  refine x_rg (rg0 [hE,hN (.mk (List.map PV.str x4)),hE] (⟨[(0,pS s_),(1,pI p3),(6,oL 0 PV.str x4)],[(0,rL none PV.str x4)],1⟩) (kc (show mkC 16 (.str []) p3 p3 = some (List.map PV.str x4) from (mkC_map (f := PV.str) hx4)) .nil)) ?_
  refine x_seq ?_
  refine x_rg (rgn [hE] (⟨[(0,pS s_),(1,pI p3),(6,oL 0 PV.str x4),(7,pI 0)],[(0,rL none PV.str x4)],1⟩)) ?_
  refine x_block ?_
  refine kw0 (⟨[(0,pS s_),(1,pI p3),(6,oL 0 PV.str x4),(7,pI 0)],[(0,rL none PV.str x4)],1⟩) ?_
  refine x_loop (σ := (Str × Int × (List Str))) h (fun s => ⟨[(0,pS s.1),(1,pI p3),(6,oL 0 PV.str s.2.2),(7,pI s.2.1)],[(0,rL none PV.str s.2.2)],1⟩) (by kernel_rfl) ?_ ?_
  ·rintro ⟨s__1,i,a⟩
   kernel_rfl
  rintro ⟨s__1,i,a⟩ x13 h hx13
  replace h : strings_explode_L13 p3 s__1 i a = some x13 := h
  unfold strings_explode_L13 at h
  refine x_seq ?_
  refine x_rg (rgn [hE,hE,hE,hE] (⟨[(0,pS s__1),(1,pI p3),(6,oL 0 PV.str a),(7,pI i),(25,pB (decide (i < (IntKind.wrap .i64 (p3 - 1)))))],[(0,rL none PV.str a)],1⟩)) ?_
  refine x_if h rfl (fun hc14 h => ?_) (fun hc14 h => ?_)
  ·refine x_kk (x_skip (x_tn (x_seq (x_block ?_))))
   obtain ⟨x15,hx15,h⟩ := bind_some h
   refine x_rg (rg0 [hE,hN (.cal [] (.tup [.int .i32 x15.1,.int .i64 x15.2]) true),hE,hE,hE,hE,hE] (⟨[(0,pS s__1),(1,pI p3),(6,oL 0 PV.str a),(7,pI i),(9,pI x15.2)],[(0,rL none PV.str a)],1⟩) (kc (c86 hx15) .nil)) ?_
   obtain ⟨x16,hx16,h⟩ := bind_some h
   obtain ⟨x17,hx17,h⟩ := bind_some h
   refine x_rg (st2 := { tm := [(0,.pv (.str s__1)),(1,.pv (.int .i64 p3)),(6,.osl 0 0 (List.map PV.str (List.set a (Int.toNat i) x16)).length),(7,.pv (.int .i64 i)),(9,.pv (.int .i64 x15.2))],hp := [(0,some (.p none (List.map PV.str (List.set a (Int.toNat i) x16))))],nx := 1 }) (rg [hE,hE,hE,hE,hN (.cutS x16),hN .rAt,hN (.set (.str x17) (List.map PV.str (List.set a (Int.toNat i) x16)))] ({ tm := [(0,.pv (.str s__1)),(1,.pv (.int .i64 p3)),(6,.osl 0 0 (List.map PV.str a).length),(7,.pv (.int .i64 i)),(9,.pv (.int .i64 x15.2))],hp := [(0,some (.p none (List.map PV.str (List.set a (Int.toNat i) x16))))],nx := 1 }) (kc hx16 (kc (rAtM (f := PV.str) hx17) (kc (ownAt (f := PV.str) hx17) (kc (show List.set (List.map PV.str a) (0 + Int.toNat i) (.str x16) = (List.map PV.str (List.set a (Int.toNat i) x16)) from (by rw [Nat.zero_add,List.map_set]; try rfl)) .nil)))) (Sub.of_eq (by simp only [List.length_map,List.length_set]))) ?_
   obtain ⟨x18,hx18,h⟩ := bind_some h
   refine x_rgt (rg0 [hE,hE,hN (.cutS x18),hE] (⟨[(0,pS x18),(1,pI p3),(6,oL 0 PV.str (List.set a (Int.toNat i) x16)),(7,pI i)],[(0,rL none PV.str (List.set a (Int.toNat i) x16))],1⟩) (kc hx18 .nil)) ?_
   refine x_bn (x_tn ?_)
   refine x_rgt (rgn [hE,hE,hE] (⟨[(0,pS x18),(1,pI p3),(6,oL 0 PV.str (List.set a (Int.toNat i) x16)),(7,pI (IntKind.wrap .i64 (i + 1)))],[(0,rL none PV.str (List.set a (Int.toNat i) x16))],1⟩)) ?_
   refine x_tn ?_
   exact ⟨_,(sj h).symm,by kernel_rfl⟩
  refine kw0 (⟨[(0,pS s__1),(1,pI p3),(6,oL 0 PV.str a)],[(0,rL none PV.str a)],1⟩) ?_
  refine x_exit ?_
  refine x_te (x_te ?_)
  replace h := done_map h hx13
  unfold strings_explode_A21 at h
  refine x_bh ?_
  refine x_tn (x_seq ?_)
  refine x_rg (rgn [hE,hE] (⟨[(0,pS s__1),(1,pI p3),(6,oL 0 PV.str a),(43,pB (decide (0 < p3)))],[(0,rL none PV.str a)],1⟩)) ?_
  refine x_if h rfl (fun hc19 h => ?_) (fun hc19 h => ?_)
  ·obtain ⟨x20,hx20,h⟩ := bind_some h
   refine x_rgt (st2 := { tm := [(6,.osl 0 0 (List.map PV.str (List.set a (Int.toNat (IntKind.wrap .i64 (p3 - 1))) s__1)).length)],hp := [(0,some (.p none (List.map PV.str (List.set a (Int.toNat (IntKind.wrap .i64 (p3 - 1))) s__1))))],nx := 1 }) (rg [hE,hE,hE,hE,hN .rAt,hN (.set (.str x20) (List.map PV.str (List.set a (Int.toNat (IntKind.wrap .i64 (p3 - 1))) s__1)))] ({ tm := [(6,.osl 0 0 (List.map PV.str a).length)],hp := [(0,some (.p none (List.map PV.str (List.set a (Int.toNat (IntKind.wrap .i64 (p3 - 1))) s__1))))],nx := 1 }) (kc (rAtM (f := PV.str) hx20) (kc (ownAt (f := PV.str) hx20) (kc (show List.set (List.map PV.str a) (0 + Int.toNat (IntKind.wrap .i64 (p3 - 1))) (.str s__1) = (List.map PV.str (List.set a (Int.toNat (IntKind.wrap .i64 (p3 - 1))) s__1)) from (by rw [Nat.zero_add,List.map_set]; try rfl)) .nil))) (Sub.of_eq (by simp only [List.length_map,List.length_set]))) ?_
   refine x_tn ?_
   refine x_rg (rgn [hE,hE] (⟨[(4,oL 0 PV.str (List.set a (Int.toNat (IntKind.wrap .i64 (p3 - 1))) s__1))],[(0,rL none PV.str (List.set a (Int.toNat (IntKind.wrap .i64 (p3 - 1))) s__1))],1⟩)) ?_
   refine x_toret ?_
   obtain rfl := sj h
   exact x_ret (.usl none (List.take (List.map PV.str (List.set a (Int.toNat (IntKind.wrap .i64 (p3 - 1))) s__1)).length (List.map PV.str (List.set a (Int.toNat (IntKind.wrap .i64 (p3 - 1))) s__1)))) [0] [(List.map PV.str (List.set a (Int.toNat (IntKind.wrap .i64 (p3 - 1))) s__1)).length ≤ List.length (List.map PV.str (List.set a (Int.toNat (IntKind.wrap .i64 (p3 - 1))) s__1))] (by kernel_rfl) (.cons (Nat.le_refl _) .nil) (by decide) (.of_eq (by rw [List.take_length])) (fun _ => (usl_ns (sh := none) (fun _ => rfl)))
  refine x_kk (x_skip (x_tn ?_))
  refine x_rg (rgn [hE,hE] (⟨[(4,oL 0 PV.str a)],[(0,rL none PV.str a)],1⟩)) ?_
  refine x_toret ?_
  obtain rfl := sj h
  exact x_ret (.usl none (List.take (List.map PV.str a).length (List.map PV.str a))) [0] [(List.map PV.str a).length ≤ List.length (List.map PV.str a)] (by kernel_rfl) (.cons (Nat.le_refl _) .nil) (by decide) (.of_eq (by rw [List.take_length])) (fun _ => (usl_ns (sh := none) (fun _ => rfl)))
 refine x_rgB (fun b_ => (⟨[(0,pS s_),(1,pI n),(5,pI x1),(18,pB b_)],[],0⟩ : VSt)) ((decide (n < 0)) || (decide (x1 < n))) ?_ ?_
 ·rcases bq (decide (n < 0)) with hg22 | hg22
  ·exact rb [hE,hE,hE,hS,hS,hS,hN (.pk true)] true (hk4 hg22 .nil) (by simp only [hg22,bs,reduceIte])
  exact rb [hE,hE,hE,hY,hY,hY,hN (.pk false)] (decide (x1 < n)) (hk4 hg22 .nil) (by simp only [hg22,bs,reduceIte])
 refine x_if h rfl (fun hc24 h => ?_) (fun hc24 h => ?_)
 ·refine x_rgt (rgn [hE,hE] (⟨[(0,pS s_),(1,pI x1)],[],0⟩)) ?_
  refine x_tn ?_
  exact ⟨x1,h,by kernel_rfl⟩
 refine kw0 (⟨[(0,pS s_),(1,pI n)],[],0⟩) ?_
 refine x_skip (x_tn ?_)
 exact ⟨n,h,by kernel_rfl⟩
theorem c81 {a0 : Str} {a1 : Str} {r : Int} (h : strings_Count a0 a1 = some r) : CallOK Tryd.prog 81 [.str a0,.str a1] (.int .i64 r) true :=
  ok_count Tryd.func81 (by kernel_rfl) (by kernel_rfl) Tryd.strings_Count_one h
theorem c82 {a0 : Str} {a1 : Str} {r : Int} (h : strings_Index a0 a1 = some r) : CallOK Tryd.prog 82 [.str a0,.str a1] (.int .i64 r) true :=
  ok_index Tryd.func82 (by kernel_rfl) (by kernel_rfl) Tryd.strings_Index_one h
theorem c76 {s_ : Str} {sep : Str} {sepSave : Int} {n : Int} {r : (List Str)} (h : strings_genSplit s_ sep sepSave n = some r) : CallOK Tryd.prog 76 [.str s_,.str sep,.int .i64 sepSave,.int .i64 n] (.usl none (List.map PV.str r)) true := by
 apply ok76
 unfold strings_genSplit at h
 refine x_rg (rgn [hE] (⟨[(0,pS s_),(1,pS sep),(2,pI sepSave),(3,pI n)],[],0⟩)) ?_
 refine x_seq ?_
 refine x_rg (rgn [hE,hE] (⟨[(0,pS s_),(1,pS sep),(2,pI sepSave),(3,pI n),(13,pB (decide (n = 0)))],[],0⟩)) ?_
 refine x_if h rfl (fun hc1 h => ?_) (fun hc1 h => ?_)
 ·refine x_rg (rgn [hE] (⟨[(8,.pv (.nilsl))],[],0⟩)) ?_
  refine x_toret (x_tr ?_)
  obtain rfl := sj h
  exact ret0 (.nilsl) (.nilUsl _) (fun _ => (usl_ns (sh := none) (fun _ => rfl)))
 refine x_kk (x_skip (x_tn (x_seq ?_)))
 refine x_rg (rgn [hE,hE] (⟨[(0,pS s_),(1,pS sep),(2,pI sepSave),(3,pI n),(15,pB (decide (sep = [])))],[],0⟩)) ?_
 refine x_if h rfl (fun hc2 h => ?_) (fun hc2 h => ?_)
 ·obtain ⟨x3,hx3,h⟩ := bind_some h
  refine x_rg (rg0 [hE,hE,hN (.cal [] (.usl none (List.map PV.str x3)) true),hE] (⟨[(8,oL 0 PV.str x3)],[(0,rL none PV.str x3)],1⟩) (kc (c80 hx3) .nil)) ?_
  refine x_toret (x_tr ?_)
  obtain rfl := sj h
  exact x_ret (.usl none (List.take (List.map PV.str x3).length (List.map PV.str x3))) [0] [(List.map PV.str x3).length ≤ List.length (List.map PV.str x3)] (by kernel_rfl) (.cons (Nat.le_refl _) .nil) (by decide) (.of_eq (by rw [List.take_length])) (fun _ => (usl_ns (sh := none) (fun _ => rfl)))
 refine kw0 (⟨[(0,pS s_),(1,pS sep),(2,pI sepSave),(3,pI n)],[],0⟩) ?_
 refine x_skip (x_tn ?_)
 refine x_join (τ := Int) (fun t => strings_genSplit_K4 s_ sep sepSave t = some r) (fun t => { tm := [(0,.pv (.str s_)),(1,.pv (.str sep)),(2,.pv (.int .i64 sepSave)),(3,.pv (.int .i64 t))],hp := [],nx := 0 }) ?_ ?_
 ·rintro p5 h
  replace h : strings_genSplit_K4 s_ sep sepSave p5 = some r := h
  unfold strings_genSplit_K4 at h
  refine x_rg (rgn [hE,hE,hE,hE,hE,hE] (⟨[(0,pS s_),(1,pS sep),(2,pI sepSave),(3,pI (min p5 (IntKind.wrap .i64 ((List.length s_ : Int) + 1))))],[],0⟩)) ?_
  obtain ⟨x6,hx6,h⟩ := bind_some h
  refine x_rg (rg0 [hE,hN (.mk (List.map PV.str x6)),hE] (⟨[(0,pS s_),(1,pS sep),(2,pI sepSave),(3,pI (min p5 (IntKind.wrap .i64 ((List.length s_ : Int) + 1)))),(9,oL 0 PV.str x6)],[(0,rL none PV.str x6)],1⟩) (kc (show mkC 16 (.str []) (min p5 (IntKind.wrap .i64 ((List.length s_ : Int) + 1))) (min p5 (IntKind.wrap .i64 ((List.length s_ : Int) + 1))) = some (List.map PV.str x6) from (mkC_map (f := PV.str) hx6)) .nil)) ?_
  refine x_rg (rgn [hE,hE,hE] (⟨[(0,pS s_),(1,pS sep),(2,pI sepSave),(3,pI (IntKind.wrap .i64 ((min p5 (IntKind.wrap .i64 ((List.length s_ : Int) + 1))) - 1))),(9,oL 0 PV.str x6)],[(0,rL none PV.str x6)],1⟩)) ?_
  refine x_rg (rgn [hE] (⟨[(0,pS s_),(1,pS sep),(2,pI sepSave),(3,pI (IntKind.wrap .i64 ((min p5 (IntKind.wrap .i64 ((List.length s_ : Int) + 1))) - 1))),(9,oL 0 PV.str x6),(10,pI 0)],[(0,rL none PV.str x6)],1⟩)) ?_
  refine x_join (τ := (Str × Int × (List Str))) (fun t => strings_genSplit_K7 t.1 t.2.1 t.2.2 = some r) (fun t => { tm := [(0,.pv (.str t.1)),(9,.osl 0 0 (List.map PV.str t.2.2).length),(10,.pv (.int .i64 t.2.1))],hp := [(0,some (.p none (List.map PV.str t.2.2)))],nx := 1 }) ?_ ?_
  ·rintro ⟨p8,p9,p10⟩ h
   replace h : strings_genSplit_K7 p8 p9 p10 = some r := h
   unfold strings_genSplit_K7 at h
   obtain ⟨x11,hx11,h⟩ := bind_some h
   refine x_rg (st2 := { tm := [(9,.osl 0 0 (List.map PV.str (List.set p10 (Int.toNat p9) p8)).length),(10,.pv (.int .i64 p9))],hp := [(0,some (.p none (List.map PV.str (List.set p10 (Int.toNat p9) p8))))],nx := 1 }) (rg [hE,hE,hE,hN .rAt,hN (.set (.str x11) (List.map PV.str (List.set p10 (Int.toNat p9) p8)))] ({ tm := [(9,.osl 0 0 (List.map PV.str p10).length),(10,.pv (.int .i64 p9))],hp := [(0,some (.p none (List.map PV.str (List.set p10 (Int.toNat p9) p8))))],nx := 1 }) (kc (rAtM (f := PV.str) hx11) (kc (ownAt (f := PV.str) hx11) (kc (show List.set (List.map PV.str p10) (0 + Int.toNat p9) (.str p8) = (List.map PV.str (List.set p10 (Int.toNat p9) p8)) from (by rw [Nat.zero_add,List.map_set]; try rfl)) .nil))) (Sub.of_eq (by simp only [List.length_map,List.length_set]))) ?_
   obtain ⟨x12,hx12,h⟩ := bind_some h
   refine x_rg (st2 := { tm := [(8,.osl 0 0 (List.map PV.str x12).length)],hp := [(0,some (.p none (List.map PV.str x12)))],nx := 1 }) (rg [hE,hE,hE,hN .cutR,hE] ({ tm := [(8,.osl 0 (0 + Int.toNat 0) (Int.toNat (IntKind.wrap .i64 (p9 + 1)) - Int.toNat 0))],hp := [(0,some (.p none (List.map PV.str (List.set p10 (Int.toNat p9) p8))))],nx := 1 }) (kc (show 0 ≤ (0 : Int) ∧ (0 : Int) ≤ (IntKind.wrap .i64 (p9 + 1)) ∧ (IntKind.wrap .i64 (p9 + 1)) ≤ (((List.map PV.str (List.set p10 (Int.toNat p9) p8)).length : Nat) : Int) from (cutR_ob hx12 (by simp))) .nil) (((Sub.of_eq (show ({ tm := [(8,.osl 0 0 (List.map PV.str x12).length)],hp := [(0,some (.p none (List.map PV.str x12)))],nx := 1 } : VSt) = trimSt 0 (Int.toNat (IntKind.wrap .i64 (p9 + 1)) - Int.toNat 0) ({ tm := [(8,.osl 0 (0 + Int.toNat 0) (Int.toNat (IntKind.wrap .i64 (p9 + 1)) - Int.toNat 0))],hp := [(0,some (.p none (List.map PV.str (List.set p10 (Int.toNat p9) p8))))],nx := 1 }) from (show ({ tm := [(8,.osl 0 0 (List.map PV.str x12).length)],hp := [(0,some (.p none (List.map PV.str x12)))],nx := 1 } : VSt) = { tm := [(8,.osl 0 (0 + Int.toNat 0) (Int.toNat (IntKind.wrap .i64 (p9 + 1)) - Int.toNat 0))],hp := [(0,some (.p none (List.take (Int.toNat (IntKind.wrap .i64 (p9 + 1)) - Int.toNat 0) (List.map PV.str (List.set p10 (Int.toNat p9) p8)))))],nx := 1 } from (by rw [(cutR_f hx12).2,(cutR_f hx12).1]; try rfl)).trans (by kernel_rfl))).trans (Sub.trim 0 (Int.toNat (IntKind.wrap .i64 (p9 + 1)) - Int.toNat 0) _)))) ?_
   refine x_toret ?_
   obtain rfl := sj h
   exact x_ret (.usl none (List.take (List.map PV.str x12).length (List.map PV.str x12))) [0] [(List.map PV.str x12).length ≤ List.length (List.map PV.str x12)] (by kernel_rfl) (.cons (Nat.le_refl _) .nil) (by decide) (.of_eq (by rw [List.take_length])) (fun _ => (usl_ns (sh := none) (fun _ => rfl)))
  refine x_block ?_
  refine kw0 (⟨[(0,pS s_),(1,pS sep),(2,pI sepSave),(3,pI (IntKind.wrap .i64 ((min p5 (IntKind.wrap .i64 ((List.length s_ : Int) + 1))) - 1))),(9,oL 0 PV.str x6),(10,pI 0)],[(0,rL none PV.str x6)],1⟩) ?_
  refine x_loop (σ := (Str × Int × (List Str))) h (fun s => ⟨[(0,pS s.1),(1,pS sep),(2,pI sepSave),(3,pI (IntKind.wrap .i64 ((min p5 (IntKind.wrap .i64 ((List.length s_ : Int) + 1))) - 1))),(9,oL 0 PV.str s.2.2),(10,pI s.2.1)],[(0,rL none PV.str s.2.2)],1⟩) (by kernel_rfl) ?_ ?_
  ·rintro ⟨s__2,i_1,a_1⟩
   kernel_rfl
  rintro ⟨s__2,i_1,a_1⟩ x22 h hx22
  replace h : strings_genSplit_L22 s_ sep sepSave p5 s__2 i_1 a_1 = some x22 := h
  unfold strings_genSplit_L22 at h
  refine x_seq ?_
  refine x_rg (rgn [hE,hE,hE] (⟨[(0,pS s__2),(1,pS sep),(2,pI sepSave),(3,pI (IntKind.wrap .i64 ((min p5 (IntKind.wrap .i64 ((List.length s_ : Int) + 1))) - 1))),(9,oL 0 PV.str a_1),(10,pI i_1),(36,pB (decide (i_1 < (IntKind.wrap .i64 ((min p5 (IntKind.wrap .i64 ((List.length s_ : Int) + 1))) - 1)))))],[(0,rL none PV.str a_1)],1⟩)) ?_
  refine x_if h rfl (fun hc23 h => ?_) (fun hc23 h => ?_)
  ·refine x_kk (x_skip (x_tn (x_block ?_)))
   obtain ⟨x24,hx24,h⟩ := bind_some h
   refine x_rg (rg0 [hE,hE,hN (.cal [] (.int .i64 x24) true),hE] (⟨[(0,pS s__2),(1,pS sep),(2,pI sepSave),(3,pI (IntKind.wrap .i64 ((min p5 (IntKind.wrap .i64 ((List.length s_ : Int) + 1))) - 1))),(9,oL 0 PV.str a_1),(10,pI i_1),(11,pI x24)],[(0,rL none PV.str a_1)],1⟩) (kc (c82 hx24) .nil)) ?_
   refine x_seq ?_
   refine x_rg (rgn [hE,hE] (⟨[(0,pS s__2),(1,pS sep),(2,pI sepSave),(3,pI (IntKind.wrap .i64 ((min p5 (IntKind.wrap .i64 ((List.length s_ : Int) + 1))) - 1))),(9,oL 0 PV.str a_1),(10,pI i_1),(11,pI x24),(41,pB (decide (x24 < 0)))],[(0,rL none PV.str a_1)],1⟩)) ?_
   refine x_if h rfl (fun hc25 h => ?_) (fun hc25 h => ?_)
   ·refine kw0 (⟨[(0,pS s__2),(9,oL 0 PV.str a_1),(10,pI i_1)],[(0,rL none PV.str a_1)],1⟩) ?_
    refine x_exit ?_
    refine x_te ?_
    refine x_be ?_ (by decide)
    refine x_te ?_
    replace h := done_map h hx22
    refine x_bh ?_
    refine x_tn ?_
    exact ⟨(s__2,i_1,a_1),h,by kernel_rfl⟩
   refine x_kk (x_skip (x_tn ?_))
   obtain ⟨x26,hx26,h⟩ := bind_some h
   obtain ⟨x27,hx27,h⟩ := bind_some h
   refine x_rg (st2 := { tm := [(0,.pv (.str s__2)),(1,.pv (.str sep)),(2,.pv (.int .i64 sepSave)),(3,.pv (.int .i64 (IntKind.wrap .i64 ((min p5 (IntKind.wrap .i64 ((List.length s_ : Int) + 1))) - 1)))),(9,.osl 0 0 (List.map PV.str (List.set a_1 (Int.toNat i_1) x26)).length),(10,.pv (.int .i64 i_1)),(11,.pv (.int .i64 x24))],hp := [(0,some (.p none (List.map PV.str (List.set a_1 (Int.toNat i_1) x26))))],nx := 1 }) (rg [hE,hE,hE,hE,hE,hE,hN (.cutS x26),hN .rAt,hN (.set (.str x27) (List.map PV.str (List.set a_1 (Int.toNat i_1) x26)))] ({ tm := [(0,.pv (.str s__2)),(1,.pv (.str sep)),(2,.pv (.int .i64 sepSave)),(3,.pv (.int .i64 (IntKind.wrap .i64 ((min p5 (IntKind.wrap .i64 ((List.length s_ : Int) + 1))) - 1)))),(9,.osl 0 0 (List.map PV.str a_1).length),(10,.pv (.int .i64 i_1)),(11,.pv (.int .i64 x24))],hp := [(0,some (.p none (List.map PV.str (List.set a_1 (Int.toNat i_1) x26))))],nx := 1 }) (kc hx26 (kc (rAtM (f := PV.str) hx27) (kc (ownAt (f := PV.str) hx27) (kc (show List.set (List.map PV.str a_1) (0 + Int.toNat i_1) (.str x26) = (List.map PV.str (List.set a_1 (Int.toNat i_1) x26)) from (by rw [Nat.zero_add,List.map_set]; try rfl)) .nil)))) (Sub.of_eq (by simp only [List.length_map,List.length_set]))) ?_
   obtain ⟨x28,hx28,h⟩ := bind_some h
   refine x_rg (rg0 [hE,hE,hE,hE,hE,hN (.cutS x28),hE] (⟨[(0,pS x28),(1,pS sep),(2,pI sepSave),(3,pI (IntKind.wrap .i64 ((min p5 (IntKind.wrap .i64 ((List.length s_ : Int) + 1))) - 1))),(9,oL 0 PV.str (List.set a_1 (Int.toNat i_1) x26)),(10,pI i_1)],[(0,rL none PV.str (List.set a_1 (Int.toNat i_1) x26))],1⟩) (kc hx28 .nil)) ?_
   refine x_rgt (rgn [hE,hE,hE] (⟨[(0,pS x28),(1,pS sep),(2,pI sepSave),(3,pI (IntKind.wrap .i64 ((min p5 (IntKind.wrap .i64 ((List.length s_ : Int) + 1))) - 1))),(9,oL 0 PV.str (List.set a_1 (Int.toNat i_1) x26)),(10,pI (IntKind.wrap .i64 (i_1 + 1)))],[(0,rL none PV.str (List.set a_1 (Int.toNat i_1) x26))],1⟩)) ?_
   refine x_bn (x_tn ?_)
   exact ⟨_,(sj h).symm,by kernel_rfl⟩
  refine kw0 (⟨[(0,pS s__2),(9,oL 0 PV.str a_1),(10,pI i_1)],[(0,rL none PV.str a_1)],1⟩) ?_
  refine x_exit ?_
  refine x_te (x_te ?_)
  replace h := done_map h hx22
  refine x_bh ?_
  refine x_tn ?_
  exact ⟨(s__2,i_1,a_1),h,by kernel_rfl⟩
 refine x_rg (rgn [hE,hE] (⟨[(0,pS s_),(1,pS sep),(2,pI sepSave),(3,pI n),(20,pB (decide (n < 0)))],[],0⟩)) ?_
 refine x_if h rfl (fun hc29 h => ?_) (fun hc29 h => ?_)
 ·obtain ⟨x30,hx30,h⟩ := bind_some h
  refine x_rgt (rg0 [hE,hE,hN (.cal [] (.int .i64 x30) true),hE,hE] (⟨[(0,pS s_),(1,pS sep),(2,pI sepSave),(3,pI (IntKind.wrap .i64 (x30 + 1)))],[],0⟩) (kc (c81 hx30) .nil)) ?_
  refine x_tn ?_
  exact ⟨(IntKind.wrap .i64 (x30 + 1)),h,by kernel_rfl⟩
 refine kw0 (⟨[(0,pS s_),(1,pS sep),(2,pI sepSave),(3,pI n)],[],0⟩) ?_
 refine x_skip (x_tn ?_)
 exact ⟨n,h,by kernel_rfl⟩
theorem c73 {s_ : Str} {sep : Str} {r : (List Str)} (h : strings_Split s_ sep = some r) : CallOK Tryd.prog 73 [.str s_,.str sep] (.usl none (List.map PV.str r)) true := by
 apply ok73
 unfold strings_Split at h
 refine x_rg (rgn [hE] (⟨[(0,pS s_),(1,pS sep)],[],0⟩)) ?_
 obtain ⟨x1,hx1,h⟩ := bind_some h
 refine x_rg (rg0 [hE,hE,hN (.cal [] (.usl none (List.map PV.str x1)) true),hE] (⟨[(4,oL 0 PV.str x1)],[(0,rL none PV.str x1)],1⟩) (kc (c76 hx1) .nil)) ?_
 refine x_toret ?_
 obtain rfl := sj h
 exact x_ret (.usl none (List.take (List.map PV.str x1).length (List.map PV.str x1))) [0] [(List.map PV.str x1).length ≤ List.length (List.map PV.str x1)] (by kernel_rfl) (.cons (Nat.le_refl _) .nil) (by decide) (.of_eq (by rw [List.take_length])) (fun _ => (usl_ns (sh := none) (fun _ => rfl)))
theorem c75 {s_ : Str} {prefix_ : Str} {r : Bool} (h : stringslite_HasPrefix s_ prefix_ = some r) : CallOK Tryd.prog 75 [.str s_,.str prefix_] (.bool r) true := by
 apply ok75
 unfold stringslite_HasPrefix at h
 refine x_rg (rgn [hE] (⟨[(0,pS s_),(1,pS prefix_)],[],0⟩)) ?_
 obtain ⟨t3,ht,h⟩ := bind_some h
 refine x_rgB (fun b_ => (⟨[(4,pB b_)],[],0⟩ : VSt)) t3 ?_ ?_
 ·rcases bq (decide ((List.length prefix_ : Int) ≤ (List.length s_ : Int))) with hg1 | hg1
  ·replace ht := ite_t ht hg1
   obtain ⟨x2,hx2,ht⟩ := bind_some ht
   obtain rfl := sj ht
   exact rb [hE,hE,hE,hE,hE,hE,hY,hY,hY,(.y,(.cutS x2)),hY,hY,hN (.pk true),hE] (decide (x2 = prefix_)) (hk4 hg1 (kc hx2 (hk3 hg1 .nil))) rfl
  replace ht := ite_f ht hg1
  obtain rfl := sj ht
  exact rb [hE,hE,hE,hE,hE,hE,hS,hS,hS,hS,hS,hS,hN (.pk false),hE] false (kc hg1 (hk6 hg1 .nil)) rfl
 clear ht
 refine x_toret ?_
 obtain rfl := sj h
 exact ret0 (.bool t3) (.refl _) (fun _ => rfl)
theorem c72 {s_ : Str} {prefix_ : Str} {r : Bool} (h : strings_HasPrefix s_ prefix_ = some r) : CallOK Tryd.prog 72 [.str s_,.str prefix_] (.bool r) true := by
 apply ok72
 unfold strings_HasPrefix at h
 refine x_rg (rgn [hE] (⟨[(0,pS s_),(1,pS prefix_)],[],0⟩)) ?_
 obtain ⟨x1,hx1,h⟩ := bind_some h
 refine x_rg (rg0 [hE,hE,hN (.cal [] (.bool x1) true),hE] (⟨[(4,pB x1)],[],0⟩) (kc (c75 hx1) .nil)) ?_
 refine x_toret ?_
 obtain rfl := sj h
 exact ret0 (.bool x1) (.refl _) (fun _ => rfl)
theorem c68 {p : Str} {r : Bool} (h : path_rooted p = some r) : CallOK Tryd.prog 68 [.str p] (.bool r) true := by
 apply ok68
 unfold path_rooted at h
 refine x_rg (rgn [hE] (⟨[(0,pS p)],[],0⟩)) ?_
 obtain ⟨x1,hx1,h⟩ := bind_some h
 refine x_rg (rg0 [hE,hN (.cal [] (.bool x1) true),hE] (⟨[(2,pB x1)],[],0⟩) (kc (c72 hx1) .nil)) ?_
 refine x_toret ?_
 obtain rfl := sj h
 exact ret0 (.bool x1) (.refl _) (fun _ => rfl)
theorem c69 {p : Str} {r : ((List Str) × Int)} (h : path_Split p = some r) : CallOK Tryd.prog 69 [.str p] (.tup [.usl none (List.map PV.str r.1),.int .i64 r.2]) true := by
 apply ok69
 unfold path_Split at h
 refine x_rg (rgn [hE,hE] (⟨[(0,pS p)],[],0⟩)) ?_
 refine x_seq ?_
 refine x_rg (rgn [hE,hE,hE] (⟨[(0,pS p),(10,pB (decide (1024 < (List.length p : Int))))],[],0⟩)) ?_
 refine x_if h rfl (fun hc1 h => ?_) (fun hc1 h => ?_)
 ·refine x_rg (rgn [hE,hE] (⟨[(2,.pv (.nilsl)),(3,pI 4)],[],0⟩)) ?_
  refine x_toret (x_tr ?_)
  obtain rfl := sj h
  exact ret0 (.tup [.nilsl,.int .i64 4]) (.tup (.cons (.nilUsl _) (.cons (.refl _) .nil))) (fun _ => tup_ns (.cons (usl_ns (sh := none) (fun _ => rfl)) (.cons rfl .nil)))
 refine x_kk (x_skip (x_tn ?_))
 refine x_rg (st2 := { tm := [(0,.pv (.str p)),(4,.osl 0 0 (List.map PV.str ([] : List Str)).length)],hp := [(0,some (.p none (List.map PV.str ([] : List Str))))],nx := 1 }) (rg [hE] ({ tm := [(0,.pv (.str p)),(4,.pv (.nilsl))],hp := [],nx := 0 }) .nil ((Sub.keep (ks := [0,4]) (st := ownSt 4 none ({ tm := [(0,.pv (.str p)),(4,.pv (.nilsl))],hp := [],nx := 0 })) (st' := { tm := [(0,.pv (.str p)),(4,.osl 0 0 (List.map PV.str ([] : List Str)).length)],hp := [(0,some (.p none (List.map PV.str ([] : List Str))))],nx := 1 }) (by kernel_rfl)).trans (own_sound 4 none ({ tm := [(0,.pv (.str p)),(4,.pv (.nilsl))],hp := [],nx := 0 })))) ?_
 refine x_seq ?_
 obtain ⟨x2,hx2,h⟩ := bind_some h
 refine x_rg (rg0 [hE,hN (.cal [] (.usl none (List.map PV.str x2)) true),hN (.len (List.length x2 : Int)),hE] (⟨[(0,pS p),(4,oL 0 PV.str ([] : List Str)),(12,oL 1 PV.str x2),(13,pI (List.length x2 : Int)),(14,pI 0)],[(0,rL none PV.str ([] : List Str)),(1,rL none PV.str x2)],2⟩) (kc (c73 hx2) (kc (lenM PV.str x2) .nil))) ?_
 refine x_block ?_
 refine kw0 (⟨[(0,pS p),(4,oL 0 PV.str ([] : List Str)),(12,oL 1 PV.str x2),(13,pI (List.length x2 : Int)),(14,pI 0)],[(0,rL none PV.str ([] : List Str)),(1,rL none PV.str x2)],2⟩) ?_
 refine x_loop (σ := (Int × (List Str))) h (fun s => ⟨[(0,pS p),(4,oL 0 PV.str s.2),(12,oL 1 PV.str x2),(13,pI (List.length x2 : Int)),(14,pI s.1)],[(0,rL none PV.str s.2),(1,rL none PV.str x2)],2⟩) (by kernel_rfl) ?_ ?_
 ·rintro ⟨v21,out⟩
  kernel_rfl
 rintro ⟨v21,out⟩ x23 h hx23
 replace h : path_Split_L23 p x2 v21 out = some x23 := h
 unfold path_Split_L23 at h
 refine x_rg (rgn [hE] (⟨[(0,pS p),(4,oL 0 PV.str out),(12,oL 1 PV.str x2),(13,pI (List.length x2 : Int)),(14,pI v21),(15,pB (decide (v21 < (List.length x2 : Int))))],[(0,rL none PV.str out),(1,rL none PV.str x2)],2⟩)) ?_
 refine x_seq ?_
 refine x_if h rfl (fun hc24 h => ?_) (fun hc24 h => ?_)
 ·refine x_kk (x_skip (x_tn (x_seq (x_block ?_))))
  obtain ⟨x25,hx25,h⟩ := bind_some h
  refine x_rg (rg0 [hN .rAt,hN (.ld (.str x25)),hE] (⟨[(0,pS p),(4,oL 0 PV.str out),(6,pS x25),(12,oL 1 PV.str x2),(13,pI (List.length x2 : Int)),(14,pI v21)],[(0,rL none PV.str out),(1,rL none PV.str x2)],2⟩) (kc (rAtM (f := PV.str) hx25) (kc (ownAt (f := PV.str) hx25) .nil))) ?_
  refine x_rg (rg0 [hE,hN (.len (List.length out : Int)),hE,hE] (⟨[(0,pS p),(4,oL 0 PV.str out),(6,pS x25),(7,pI (IntKind.wrap .i64 ((List.length out : Int) - 1))),(12,oL 1 PV.str x2),(13,pI (List.length x2 : Int)),(14,pI v21)],[(0,rL none PV.str out),(1,rL none PV.str x2)],2⟩) (kc (lenM PV.str out) .nil)) ?_
  refine x_block ?_
  refine x_rgB (fun b_ => (⟨[(0,pS p),(4,oL 0 PV.str out),(6,pS x25),(7,pI (IntKind.wrap .i64 ((List.length out : Int) - 1))),(12,oL 1 PV.str x2),(13,pI (List.length x2 : Int)),(14,pI v21),(25,pB b_)],[(0,rL none PV.str out),(1,rL none PV.str x2)],2⟩ : VSt)) ((decide (x25 = [])) || (decide (x25 = [46]))) ?_ ?_
  ·rcases bq (decide (x25 = [])) with hg26 | hg26
   ·exact rb [hE,hE,hE,hS,hS,hN (.pk true),hE] true (hk3 hg26 .nil) (by simp only [hg26,bs,reduceIte])
   exact rb [hE,hE,hE,hY,hY,hN (.pk false),hE] (decide (x25 = [46])) (hk3 hg26 .nil) (by simp only [hg26,bs,reduceIte])
  refine x_if h rfl (fun hc28 h => ?_) (fun hc28 h => ?_)
  ·refine x_kk (x_skip (x_bn (x_bn (x_tn ?_))))
   refine x_rgt (rgn [hE,hE] (⟨[(0,pS p),(4,oL 0 PV.str out),(12,oL 1 PV.str x2),(13,pI (List.length x2 : Int)),(14,pI (IntKind.wrap .i64 (v21 + 1)))],[(0,rL none PV.str out),(1,rL none PV.str x2)],2⟩)) ?_
   refine x_tn ?_
   exact ⟨_,(sj h).symm,by kernel_rfl⟩
  obtain ⟨t32,ht,h⟩ := bind_some h
  refine x_rgB (fun b_ => (⟨[(0,pS p),(4,oL 0 PV.str out),(6,pS x25),(7,pI (IntKind.wrap .i64 ((List.length out : Int) - 1))),(12,oL 1 PV.str x2),(13,pI (List.length x2 : Int)),(14,pI v21),(32,pB b_)],[(0,rL none PV.str out),(1,rL none PV.str x2)],2⟩ : VSt)) t32 ?_ ?_
  ·rcases bq (decide (x25 = [46,46])) with hg29 | hg29
   ·replace ht := ite_t ht hg29
    rcases bq (decide (0 ≤ (IntKind.wrap .i64 ((List.length out : Int) - 1)))) with hg30 | hg30
    ·replace ht := ite_t ht hg30
     obtain ⟨x31,hx31,ht⟩ := bind_some ht
     obtain rfl := sj ht
     exact rb [hE,hE,hE,hY,hY,hN (.pk true),hE,hY,hY,(.y,.rAt),(.y,(.ld (.str x31))),hY,hN (.pk true),hE] (!decide (x31 = [46,46])) (hk3 hg29 (hk3 hg30 (kc (rAtM (f := PV.str) hx31) (kc hg30 (kc (ownAt (f := PV.str) hx31) (hk2 hg30 .nil)))))) rfl
    replace ht := ite_f ht hg30
    obtain rfl := sj ht
    exact rb [hE,hE,hE,hY,hY,hN (.pk true),hE,hS,hS,hS,hS,hS,hN (.pk false),hE] false (hk3 hg29 (hk6 hg30 .nil)) rfl
   replace ht := ite_f ht hg29
   obtain rfl := sj ht
   exact rb [hE,hE,hE,hS,hS,hN (.pk false),hE,hS,hS,hS,hS,hS,hE,hE] false (hk3 hg29 (hk5 ff .nil)) rfl
  clear ht
  refine x_if h rfl (fun hc33 h => ?_) (fun hc33 h => ?_)
  ·obtain ⟨x34,hx34,h⟩ := bind_some h
   refine x_rgt (st2 := { tm := [(0,.pv (.str p)),(4,.osl 0 0 (List.map PV.str x34).length),(12,.osl 1 0 (List.map PV.str x2).length),(13,.pv (.int .i64 (List.length x2 : Int))),(14,.pv (.int .i64 v21))],hp := [(0,some (.p none (List.map PV.str x34))),(1,some (.p none (List.map PV.str x2)))],nx := 2 }) (rg [hE,hE,hN .cutR,hE] ({ tm := [(0,.pv (.str p)),(4,.osl 0 (0 + Int.toNat 0) (Int.toNat (IntKind.wrap .i64 ((List.length out : Int) - 1)) - Int.toNat 0)),(12,.osl 1 0 (List.map PV.str x2).length),(13,.pv (.int .i64 (List.length x2 : Int))),(14,.pv (.int .i64 v21))],hp := [(0,some (.p none (List.map PV.str out))),(1,some (.p none (List.map PV.str x2)))],nx := 2 }) (kc (show 0 ≤ (0 : Int) ∧ (0 : Int) ≤ (IntKind.wrap .i64 ((List.length out : Int) - 1)) ∧ (IntKind.wrap .i64 ((List.length out : Int) - 1)) ≤ (((List.map PV.str out).length : Nat) : Int) from (cutR_ob hx34 (by simp))) .nil) (((Sub.of_eq (show ({ tm := [(0,.pv (.str p)),(4,.osl 0 0 (List.map PV.str x34).length),(12,.osl 1 0 (List.map PV.str x2).length),(13,.pv (.int .i64 (List.length x2 : Int))),(14,.pv (.int .i64 v21))],hp := [(0,some (.p none (List.map PV.str x34))),(1,some (.p none (List.map PV.str x2)))],nx := 2 } : VSt) = trimSt 0 (Int.toNat (IntKind.wrap .i64 ((List.length out : Int) - 1)) - Int.toNat 0) ({ tm := [(0,.pv (.str p)),(4,.osl 0 (0 + Int.toNat 0) (Int.toNat (IntKind.wrap .i64 ((List.length out : Int) - 1)) - Int.toNat 0)),(12,.osl 1 0 (List.map PV.str x2).length),(13,.pv (.int .i64 (List.length x2 : Int))),(14,.pv (.int .i64 v21))],hp := [(0,some (.p none (List.map PV.str out))),(1,some (.p none (List.map PV.str x2)))],nx := 2 }) from (show ({ tm := [(0,.pv (.str p)),(4,.osl 0 0 (List.map PV.str x34).length),(12,.osl 1 0 (List.map PV.str x2).length),(13,.pv (.int .i64 (List.length x2 : Int))),(14,.pv (.int .i64 v21))],hp := [(0,some (.p none (List.map PV.str x34))),(1,some (.p none (List.map PV.str x2)))],nx := 2 } : VSt) = { tm := [(0,.pv (.str p)),(4,.osl 0 (0 + Int.toNat 0) (Int.toNat (IntKind.wrap .i64 ((List.length out : Int) - 1)) - Int.toNat 0)),(12,.osl 1 0 (List.map PV.str x2).length),(13,.pv (.int .i64 (List.length x2 : Int))),(14,.pv (.int .i64 v21))],hp := [(0,some (.p none (List.take (Int.toNat (IntKind.wrap .i64 ((List.length out : Int) - 1)) - Int.toNat 0) (List.map PV.str out)))),(1,some (.p none (List.map PV.str x2)))],nx := 2 } from (by rw [(cutR_f hx34).2,(cutR_f hx34).1]; try rfl)).trans (by kernel_rfl))).trans (Sub.trim 0 (Int.toNat (IntKind.wrap .i64 ((List.length out : Int) - 1)) - Int.toNat 0) _)))) ?_
   refine x_bn (x_bn (x_tn ?_))
   refine x_rgt (rgn [hE,hE] (⟨[(0,pS p),(4,oL 0 PV.str x34),(12,oL 1 PV.str x2),(13,pI (List.length x2 : Int)),(14,pI (IntKind.wrap .i64 (v21 + 1)))],[(0,rL none PV.str x34),(1,rL none PV.str x2)],2⟩)) ?_
   refine x_tn ?_
   exact ⟨_,(sj h).symm,by kernel_rfl⟩
  refine x_rg (rgn [hE,hE,hE] (⟨[(0,pS p),(4,oL 0 PV.str out),(6,pS x25),(12,oL 1 PV.str x2),(13,pI (List.length x2 : Int)),(14,pI v21),(49,pB (decide (x25 = [46,46])))],[(0,rL none PV.str out),(1,rL none PV.str x2)],2⟩)) ?_
  refine x_if h rfl (fun hc35 h => ?_) (fun hc35 h => ?_)
  ·obtain ⟨x36,hx36,h⟩ := bind_some h
   refine x_rg (rg0 [hE,hN (.cal [] (.bool x36) true),hE] (⟨[(0,pS p),(4,oL 0 PV.str out),(6,pS x25),(12,oL 1 PV.str x2),(13,pI (List.length x2 : Int)),(14,pI v21),(54,pB (!x36))],[(0,rL none PV.str out),(1,rL none PV.str x2)],2⟩) (kc (c68 hx36) .nil)) ?_
   refine x_if h rfl (fun hc37 h => ?_) (fun hc37 h => ?_)
   ·obtain ⟨x38,hx38,h⟩ := bind_some h
    refine x_rgt (rg0 [hE,hE,hE,hN (.app (List.map PV.str x38)),hE] (⟨[(0,pS p),(4,oL 0 PV.str x38),(12,oL 1 PV.str x2),(13,pI (List.length x2 : Int)),(14,pI v21)],[(0,rL none PV.str x38),(1,rL none PV.str x2)],2⟩) (kc (show List.take (List.map PV.str out).length (List.map PV.str out) ++ List.take 1 (List.drop 0 ([.str x25] : List PV)) = (List.map PV.str x38) from (app_ob hx38 (.all _) (.rfl _))) (kc (show List.length (List.map PV.str x38) * 16 ≤ 140737488355328 from (by rw [List.length_map]; exact (appL_ok hx38).2.1)) (kc (show List.length (List.map PV.str x38) ≤ 9223372036854775807 from (by rw [List.length_map]; exact (appL_ok hx38).2.2)) (kc (le1 (List.map PV.str out)) (kc (show 0 + 1 ≤ List.length ([.str x25] : List PV) from (by simp)) .nil)))))) ?_
    refine x_bn (x_bn (x_tn ?_))
    refine x_rgt (rgn [hE,hE] (⟨[(0,pS p),(4,oL 0 PV.str x38),(12,oL 1 PV.str x2),(13,pI (List.length x2 : Int)),(14,pI (IntKind.wrap .i64 (v21 + 1)))],[(0,rL none PV.str x38),(1,rL none PV.str x2)],2⟩)) ?_
    refine x_tn ?_
    exact ⟨_,(sj h).symm,by kernel_rfl⟩
   refine x_kk (x_skip (x_bn (x_bn (x_tn ?_))))
   refine x_rgt (rgn [hE,hE] (⟨[(0,pS p),(4,oL 0 PV.str out),(12,oL 1 PV.str x2),(13,pI (List.length x2 : Int)),(14,pI (IntKind.wrap .i64 (v21 + 1)))],[(0,rL none PV.str out),(1,rL none PV.str x2)],2⟩)) ?_
   refine x_tn ?_
   exact ⟨_,(sj h).symm,by kernel_rfl⟩
  obtain ⟨x39,hx39,h⟩ := bind_some h
  refine x_rg (rg0 [hE,hN (.cal [] (.bool x39) true),hE,hE] (⟨[(0,pS p),(4,oL 0 PV.str out),(6,pS x25),(12,oL 1 PV.str x2),(13,pI (List.length x2 : Int)),(14,pI v21),(59,pB (!x39))],[(0,rL none PV.str out),(1,rL none PV.str x2)],2⟩) (kc (c54 hx39) .nil)) ?_
  refine x_if h rfl (fun hc40 h => ?_) (fun hc40 h => ?_)
  ·refine x_rg (rgn [hE,hE] (⟨[(2,.pv (.nilsl)),(3,pI 6)],[],0⟩)) ?_
   refine x_toret (x_br (x_br (x_tr (x_tr ?_))))
   replace h := done_leaf h hx23
   refine x_br (x_tr ?_)
   obtain rfl := sj h
   exact ret0 (.tup [.nilsl,.int .i64 6]) (.tup (.cons (.nilUsl _) (.cons (.refl _) .nil))) (fun _ => tup_ns (.cons (usl_ns (sh := none) (fun _ => rfl)) (.cons rfl .nil)))
  obtain ⟨x41,hx41,h⟩ := bind_some h
  refine x_rgt (rg0 [hE,hE,hE,hN (.app (List.map PV.str x41)),hE] (⟨[(0,pS p),(4,oL 0 PV.str x41),(12,oL 1 PV.str x2),(13,pI (List.length x2 : Int)),(14,pI v21)],[(0,rL none PV.str x41),(1,rL none PV.str x2)],2⟩) (kc (show List.take (List.map PV.str out).length (List.map PV.str out) ++ List.take 1 (List.drop 0 ([.str x25] : List PV)) = (List.map PV.str x41) from (app_ob hx41 (.all _) (.rfl _))) (kc (show List.length (List.map PV.str x41) * 16 ≤ 140737488355328 from (by rw [List.length_map]; exact (appL_ok hx41).2.1)) (kc (show List.length (List.map PV.str x41) ≤ 9223372036854775807 from (by rw [List.length_map]; exact (appL_ok hx41).2.2)) (kc (le1 (List.map PV.str out)) (kc (show 0 + 1 ≤ List.length ([.str x25] : List PV) from (by simp)) .nil)))))) ?_
  refine x_bn (x_bn (x_tn ?_))
  refine x_rgt (rgn [hE,hE] (⟨[(0,pS p),(4,oL 0 PV.str x41),(12,oL 1 PV.str x2),(13,pI (List.length x2 : Int)),(14,pI (IntKind.wrap .i64 (v21 + 1)))],[(0,rL none PV.str x41),(1,rL none PV.str x2)],2⟩)) ?_
  refine x_tn ?_
  exact ⟨_,(sj h).symm,by kernel_rfl⟩
 refine kw0 (⟨[(4,oL 0 PV.str out)],[(0,rL none PV.str out)],1⟩) ?_
 refine x_exit ?_
 refine x_te (x_te ?_)
 replace h := done_map h hx23
 unfold path_Split_A43 at h
 refine x_bh ?_
 refine x_tn (x_seq ?_)
 refine x_rg (rg0 [hE,hN (.len (List.length out : Int)),hE] (⟨[(4,oL 0 PV.str out),(66,pB (decide (32 < (List.length out : Int))))],[(0,rL none PV.str out)],1⟩) (kc (lenM PV.str out) .nil)) ?_
 refine x_if h rfl (fun hc42 h => ?_) (fun hc42 h => ?_)
 ·refine x_rg (rgn [hE,hE] (⟨[(2,.pv (.nilsl)),(3,pI 4)],[],0⟩)) ?_
  refine x_toret (x_tr ?_)
  obtain rfl := sj h
  exact ret0 (.tup [.nilsl,.int .i64 4]) (.tup (.cons (.nilUsl _) (.cons (.refl _) .nil))) (fun _ => tup_ns (.cons (usl_ns (sh := none) (fun _ => rfl)) (.cons rfl .nil)))
 refine x_kk (x_skip (x_tn ?_))
 refine x_rg (rgn [hE,hE,hE] (⟨[(2,oL 0 PV.str out),(3,pI 0)],[(0,rL none PV.str out)],1⟩)) ?_
 refine x_toret ?_
 obtain rfl := sj h
 exact x_ret (.tup [.usl none (List.take (List.map PV.str out).length (List.map PV.str out)),.int .i64 0]) [0] [(List.map PV.str out).length ≤ List.length (List.map PV.str out)] (by kernel_rfl) (.cons (Nat.le_refl _) .nil) (by decide) (.tup (.cons (.of_eq (by rw [List.take_length])) (.cons (.refl _) .nil))) (fun _ => tup_ns (.cons (usl_ns (sh := none) (fun _ => rfl)) (.cons rfl .nil)))
theorem c74 {a0 : (List Str)} {a1 : Str} {r : Str} (h : strings_Join a0 a1 = some r) : CallOK Tryd.prog 74 [.sl none (List.map PV.str a0),.str a1] (.str r) true :=
  ok_join Tryd.func74 (by kernel_rfl) (by kernel_rfl) Tryd.strings_Join_none Tryd.strings_Join h
theorem c70 {l : (List Str)} {root : Bool} {r : Str} (h : path_build l root = some r) : CallOK Tryd.prog 70 [.sl none (List.map PV.str l),.bool root] (.str r) true := by
 apply ok70
 unfold path_build at h
 refine x_rg (rgn [hE] (⟨[(0,pL none PV.str l),(1,pB root)],[],0⟩)) ?_
 refine x_seq (x_block ?_)
 refine x_rg (rgn [hE,hE] (⟨[(0,pL none PV.str l),(5,pB root)],[],0⟩)) ?_
 refine x_if h rfl (fun hc1 h => ?_) (fun hc1 h => ?_)
 ·obtain ⟨x2,hx2,h⟩ := bind_some h
  obtain ⟨x3,hx3,h⟩ := bind_some h
  refine x_rg (rg0 [hE,hN (.cal [] (.str x2) true),hN (.cat x3),hE] (⟨[(4,pS x3)],[],0⟩) (kc (c74 hx2) (kc hx3 .nil))) ?_
  refine x_toret (x_br (x_tr ?_))
  obtain rfl := sj h
  exact ret0 (.str x3) (.refl _) (fun _ => rfl)
 refine x_rg (rg0 [hE,hN (.len (List.length l : Int)),hE,hE] (⟨[(0,pL none PV.str l),(10,pB (decide ((List.length l : Int) = 0)))],[],0⟩) (kc (lenM PV.str l) .nil)) ?_
 refine x_if h rfl (fun hc4 h => ?_) (fun hc4 h => ?_)
 ·refine x_rg (rgn [hE] (⟨[(4,pS [46])],[],0⟩)) ?_
  refine x_toret (x_br (x_tr ?_))
  obtain rfl := sj h
  exact ret0 (.str [46]) (.refl _) (fun _ => rfl)
 refine x_kk (x_skip (x_bn (x_tn ?_)))
 obtain ⟨x5,hx5,h⟩ := bind_some h
 refine x_rg (rg0 [hE,hN (.cal [] (.str x5) true),hE] (⟨[(4,pS x5)],[],0⟩) (kc (c74 hx5) .nil)) ?_
 refine x_toret ?_
 obtain rfl := sj h
 exact ret0 (.str x5) (.refl _) (fun _ => rfl)
theorem c65 {p : Str} {r : (Str × Int)} (h : path_Clean p = some r) : CallOK Tryd.prog 65 [.str p] (.tup [.str r.1,.int .i64 r.2]) true := by
 apply ok65
 unfold path_Clean at h
 refine x_rg (rgn [hE,hE] (⟨[(0,pS p)],[],0⟩)) ?_
 obtain ⟨x1,hx1,h⟩ := bind_some h
 refine x_rg (rg0 [hE,hN (.cal [] (.tup [.usl none (List.map PV.str x1.1),.int .i64 x1.2]) true),hE,hE,hE,hE,hE] (⟨[(0,pS p),(4,oL 0 PV.str x1.1),(5,pI x1.2)],[(0,rL none PV.str x1.1)],1⟩) (kc (c69 hx1) .nil)) ?_
 refine x_seq ?_
 refine x_rg (rgn [hE,hE] (⟨[(0,pS p),(4,oL 0 PV.str x1.1),(5,pI x1.2),(12,pB (!decide (x1.2 = 0)))],[(0,rL none PV.str x1.1)],1⟩)) ?_
 refine x_if h rfl (fun hc2 h => ?_) (fun hc2 h => ?_)
 ·refine x_rg (rgn [hE,hE,hE] (⟨[(2,pS []),(3,pI x1.2)],[],0⟩)) ?_
  refine x_toret (x_tr ?_)
  obtain rfl := sj h
  exact ret0 (.tup [.str [],.int .i64 x1.2]) (.tup (.cons (.refl _) (.cons (.refl _) .nil))) (fun _ => rfl)
 refine x_kk (x_skip (x_tn ?_))
 obtain ⟨x3,hx3,h⟩ := bind_some h
 obtain ⟨x4,hx4,h⟩ := bind_some h
 refine x_rg (rg0 [hE,hE,hN (.cal [] (.bool x3) true),hN (.call [] [.sl none (List.map PV.str x1.1),.bool x3] (.str x4) true),hE,hE] (⟨[(2,pS x4),(3,pI 0)],[],0⟩) (kc (c68 hx3) (kc (show LesA [.sl none (List.take (List.map PV.str x1.1).length (List.drop 0 (List.map PV.str x1.1))),.bool x3] [.sl none (List.map PV.str x1.1),.bool x3] from (.cons (.of_eq (by rw [List.drop_zero,List.take_length])) (.cons (.refl _) .nil))) (kc (c70 hx4) (kc (le0 (List.map PV.str x1.1)) .nil))))) ?_
 refine x_toret ?_
 obtain rfl := sj h
 exact ret0 (.tup [.str x4,.int .i64 0]) (.tup (.cons (.refl _) (.cons (.refl _) .nil))) (fun _ => rfl)
theorem c55 {s_ : Str} {r : Bool} (h : proc_rooted s_ = some r) : CallOK Tryd.prog 55 [.str s_] (.bool r) true := by
 apply ok55
 unfold proc_rooted at h
 refine x_rg (rgn [hE] (⟨[(0,pS s_)],[],0⟩)) ?_
 obtain ⟨x1,hx1,h⟩ := bind_some h
 refine x_rg (rg0 [hE,hN (.cal [] (.tup [.str x1.1,.int .i64 x1.2]) true),hE,hE,hE,hE,hE] (⟨[(0,pS s_),(3,pS x1.1),(4,pI x1.2)],[],0⟩) (kc (c65 hx1) .nil)) ?_
 obtain ⟨t6,ht,h⟩ := bind_some h
 refine x_rgB (fun b_ => (⟨[(2,pB b_)],[],0⟩ : VSt)) t6 ?_ ?_
 ·rcases bq (decide (x1.2 = 0)) with hg2 | hg2
  ·replace ht := ite_t ht hg2
   rcases bq (decide (x1.1 = s_)) with hg3 | hg3
   ·replace ht := ite_t ht hg3
    rcases bq (!decide (s_ = [])) with hg4 | hg4
    ·replace ht := ite_t ht hg4
     obtain ⟨c5,hc5,ht⟩ := bind_some ht
     obtain rfl := sj ht
     exact rb [hE,hE,hE,hY,hY,hY,hN (.pk true),hE,hY,hY,hN (.pk true),hE,hY,(.y,(.sAt c5)),hY,hN (.pk true),hE] (decide ((c5.toNat : Int) = 47)) (hk4 hg2 (hk3 hg3 (hk2 hg4 (kc hc5 (hk2 hg4 .nil))))) rfl
    replace ht := ite_f ht hg4
    obtain rfl := sj ht
    exact rb [hE,hE,hE,hY,hY,hY,hN (.pk true),hE,hY,hY,hN (.pk true),hE,hS,hS,hS,hN (.pk false),hE] false (hk4 hg2 (hk3 hg3 (hk4 hg4 .nil))) rfl
   replace ht := ite_f ht hg3
   obtain rfl := sj ht
   exact rb [hE,hE,hE,hY,hY,hY,hN (.pk true),hE,hS,hS,hN (.pk false),hE,hS,hS,hS,hE,hE] false (hk4 hg2 (hk3 hg3 (hk3 ff .nil))) rfl
  replace ht := ite_f ht hg2
  obtain rfl := sj ht
  exact rb [hE,hE,hE,hS,hS,hS,hN (.pk false),hE,hS,hS,hE,hE,hS,hS,hS,hE,hE] false (hk4 hg2 (hk5 ff .nil)) rfl
 clear ht
 refine x_toret ?_
 obtain rfl := sj h
 exact ret0 (.bool t6) (.refl _) (fun _ => rfl)
theorem c29 {p : api_Procs} {x_ : api_Proc} {r : Bool} (h : proc_fields p x_ = some r) : CallOK Tryd.prog 29 [zE3 p,zE2 x_] (.bool r) true := by
 apply ok29
 unfold proc_fields at h
 refine x_rg (rgn [hE,hE,hE] (⟨[oP 2 0,oP 3 1],[rP 0 3 (zE3 p),rP 1 13 (zE2 x_)],2⟩)) ?_
 refine x_seq ?_
 obtain ⟨x1,hx1,h⟩ := bind_some h
 obtain ⟨t12,ht,h⟩ := bind_some h
 refine x_rgB (fun b_ => (⟨[oP 2 0,oP 3 1,(42,pB b_)],[rP 0 3 (zE3 p),rP 1 13 (zE2 x_)],2⟩ : VSt)) t12 ?_ ?_
 ·rcases bq (!x1) with hg2 | hg2
  ·replace ht := ite_t ht hg2
   obtain rfl := sj ht
   exact rb [hE,hE,hN (.cal [] (.bool x1) true),hE,hE,hS,hS,hS,hS,hN (.pk true),hE,hS,hS,hS,hS,(.u,.e),(.u,.e),(.u,.e),(.u,.e),hS,hE,hE,hS,hS,hS,hS,hE,hE,hS,hS,hS,hE] true (kc (c53 hx1) (hk5 hg2 (hk4 tt (hk8 tt .nil)))) rfl
  replace ht := ite_f ht hg2
  obtain ⟨x3,hx3,ht⟩ := bind_some ht
  rcases bq (!x3) with hg4 | hg4
  ·replace ht := ite_t ht hg4
   obtain rfl := sj ht
   exact rb [hE,hE,hN (.cal [] (.bool x1) true),hE,hE,hY,hY,(.y,(.cal [] (.bool x3) true)),hY,hN (.pk false),hE,hS,hS,hS,hS,(.u,.e),(.u,.e),(.u,.e),(.u,.e),hS,hN (.pk true),hE,hS,hS,hS,hS,hE,hE,hS,hS,hS,hE] true (kc (c53 hx1) (hk3 hg2 (kc (c23 hx3) (hk2 hg2 (hk6 hg4 (kc tt (hk6 tt .nil))))))) rfl
  replace ht := ite_f ht hg4
  rcases bq (!decide (x_.Name = [])) with hg5 | hg5
  ·replace ht := ite_t ht hg5
   obtain ⟨x6,hx6,ht⟩ := bind_some ht
   rcases bq (!x6) with hg7 | hg7
   ·replace ht := ite_t ht hg7
    obtain rfl := sj ht
    exact rb [hE,hE,hN (.cal [] (.bool x1) true),hE,hE,hY,hY,(.y,(.cal [] (.bool x3) true)),hY,hN (.pk false),hE,hY,hY,hY,hY,hY,hY,(.y,(.cal [] (.bool x6) true)),hY,(.y,(.pk true)),hN (.pk false),hE,hS,hS,hS,hS,hN (.pk true),hE,hS,hS,hS,hE] true (kc (c53 hx1) (hk3 hg2 (kc (c23 hx3) (hk2 hg2 (hk4 hg4 (hk3 hg5 (kc (c54 hx6) (kc hg5 (kc hg4 (kc hg5 (kc hg4 (hk5 hg7 (hk3 tt .nil))))))))))))) rfl
   replace ht := ite_f ht hg7
   obtain ⟨x8,hx8,ht⟩ := bind_some ht
   rcases bq (!x8) with hg9 | hg9
   ·replace ht := ite_t ht hg9
    obtain rfl := sj ht
    exact rb [hE,hE,hN (.cal [] (.bool x1) true),hE,hE,hY,hY,(.y,(.cal [] (.bool x3) true)),hY,hN (.pk false),hE,hY,hY,hY,hY,hY,hY,(.y,(.cal [] (.bool x6) true)),hY,(.y,(.pk true)),hN (.pk false),hE,hY,hY,(.y,(.cal [] (.bool x8) true)),hY,hN (.pk false),hE,hS,hS,hS,hN (.pk true)] true (kc (c53 hx1) (hk3 hg2 (kc (c23 hx3) (hk2 hg2 (hk4 hg4 (hk3 hg5 (kc (c54 hx6) (kc hg5 (kc hg4 (kc hg5 (kc hg4 (hk3 hg7 (kc (c55 hx8) (hk2 hg7 (hk4 hg9 .nil))))))))))))))) rfl
   replace ht := ite_f ht hg9
   obtain rfl := sj ht
   exact rb [hE,hE,hN (.cal [] (.bool x1) true),hE,hE,hY,hY,(.y,(.cal [] (.bool x3) true)),hY,hN (.pk false),hE,hY,hY,hY,hY,hY,hY,(.y,(.cal [] (.bool x6) true)),hY,(.y,(.pk true)),hN (.pk false),hE,hY,hY,(.y,(.cal [] (.bool x8) true)),hY,hN (.pk false),hE,hY,hY,hY,hN (.pk false)] (!decide (x_.Status = [])) (kc (c53 hx1) (hk3 hg2 (kc (c23 hx3) (hk2 hg2 (hk4 hg4 (hk3 hg5 (kc (c54 hx6) (kc hg5 (kc hg4 (kc hg5 (kc hg4 (hk3 hg7 (kc (c55 hx8) (hk2 hg7 (hk4 hg9 .nil))))))))))))))) rfl
  replace ht := ite_f ht hg5
  obtain ⟨x10,hx10,ht⟩ := bind_some ht
  rcases bq (!x10) with hg11 | hg11
  ·replace ht := ite_t ht hg11
   obtain rfl := sj ht
   exact rb [hE,hE,hN (.cal [] (.bool x1) true),hE,hE,hY,hY,(.y,(.cal [] (.bool x3) true)),hY,hN (.pk false),hE,hY,hY,hY,hY,hS,hS,hS,hS,(.y,(.pk false)),hN (.pk false),hE,hY,hY,(.y,(.cal [] (.bool x10) true)),hY,hE,hE,hS,hS,hS,hN (.pk true)] true (kc (c53 hx1) (hk3 hg2 (kc (c23 hx3) (hk2 hg2 (hk4 hg4 (hk4 hg5 (kc hg4 (kc hg5 (kc hg4 (hk3 ff (kc (c55 hx10) (kc ff (hk4 hg11 .nil))))))))))))) rfl
  replace ht := ite_f ht hg11
  obtain rfl := sj ht
  exact rb [hE,hE,hN (.cal [] (.bool x1) true),hE,hE,hY,hY,(.y,(.cal [] (.bool x3) true)),hY,hN (.pk false),hE,hY,hY,hY,hY,hS,hS,hS,hS,(.y,(.pk false)),hN (.pk false),hE,hY,hY,(.y,(.cal [] (.bool x10) true)),hY,hE,hE,hY,hY,hY,hN (.pk false)] (!decide (x_.Status = [])) (kc (c53 hx1) (hk3 hg2 (kc (c23 hx3) (hk2 hg2 (hk4 hg4 (hk4 hg5 (kc hg4 (kc hg5 (kc hg4 (hk3 ff (kc (c55 hx10) (kc ff (hk4 hg11 .nil))))))))))))) rfl
 clear ht
 refine x_if h rfl (fun hc13 h => ?_) (fun hc13 h => ?_)
 ·refine x_rg (rgn [hE] (⟨[(4,pB false)],[],0⟩)) ?_
  refine x_toret (x_tr ?_)
  obtain rfl := sj h
  exact ret0 (.bool false) (.refl _) (fun _ => rfl)
 refine x_kk (x_skip (x_tn (x_seq ?_)))
 refine x_rg (rgn [hE,hE,hE,hE,hE,hE,hE,hE,hE] (⟨[oP 2 0,oP 3 1,(49,.osl 2 0 3),(50,pI 3),(51,pI 0)],[rP 0 3 (zE3 p),rP 1 13 (zE2 x_),(2,some (.p none [.int .i64 x_.Ns,.int .i64 x_.Env,.int .i64 x_.Fds]))],3⟩)) ?_
 refine x_block ?_
 refine kw0 (⟨[oP 2 0,oP 3 1,(49,.osl 2 0 3),(50,pI 3),(51,pI 0)],[rP 0 3 (zE3 p),rP 1 13 (zE2 x_),(2,some (.p none [.int .i64 x_.Ns,.int .i64 x_.Env,.int .i64 x_.Fds]))],3⟩) ?_
 refine x_loop (σ := Int) h (fun s => ⟨[oP 2 0,oP 3 1,(49,.osl 2 0 3),(50,pI 3),(51,pI s)],[rP 0 3 (zE3 p),rP 1 13 (zE2 x_),(2,some (.p none [.int .i64 x_.Ns,.int .i64 x_.Env,.int .i64 x_.Fds]))],3⟩) (by kernel_rfl) ?_ ?_
 ·rintro v17
  kernel_rfl
 rintro v17 x18 h hx18
 replace h : proc_fields_L18 p x_ v17 = some x18 := h
 unfold proc_fields_L18 at h
 refine x_rg (rgn [hE] (⟨[oP 2 0,oP 3 1,(49,.osl 2 0 3),(50,pI 3),(51,pI v17),(52,pB (decide (v17 < 3)))],[rP 0 3 (zE3 p),rP 1 13 (zE2 x_),(2,some (.p none [.int .i64 x_.Ns,.int .i64 x_.Env,.int .i64 x_.Fds]))],3⟩)) ?_
 refine x_seq ?_
 refine x_if h rfl (fun hc19 h => ?_) (fun hc19 h => ?_)
 ·refine x_kk (x_skip (x_tn (x_seq (x_block ?_))))
  obtain ⟨x20,hx20,h⟩ := bind_some h
  refine x_rg (rg0 [hN .rAt,hN (.ld (.int .i64 x20)),hE] (⟨[oP 2 0,oP 3 1,(6,pI x20),(49,.osl 2 0 3),(50,pI 3),(51,pI v17)],[rP 0 3 (zE3 p),rP 1 13 (zE2 x_),(2,some (.p none [.int .i64 x_.Ns,.int .i64 x_.Env,.int .i64 x_.Fds]))],3⟩) (kc (show 0 ≤ (v17 : Int) ∧ Int.toNat v17 < 3 from (rAt_ob hx20 (by simp))) (kc (ownAt (f := (PV.int .i64)) hx20) .nil))) ?_
  refine x_rgB (fun b_ => (⟨[oP 2 0,oP 3 1,(49,.osl 2 0 3),(50,pI 3),(51,pI v17),(62,pB b_)],[rP 0 3 (zE3 p),rP 1 13 (zE2 x_),(2,some (.p none [.int .i64 x_.Ns,.int .i64 x_.Env,.int .i64 x_.Fds]))],3⟩ : VSt)) ((decide (x20 < 1)) || (decide (p.Group ≤ x20))) ?_ ?_
  ·rcases bq (decide (x20 < 1)) with hg21 | hg21
   ·exact rb [hE,hE,hE,hS,hS,hS,hS,hN (.pk true)] true (hk5 hg21 .nil) (by simp only [hg21,bs,reduceIte])
   exact rb [hE,hE,hE,hY,hY,hY,hY,hN (.pk false)] (decide (p.Group ≤ x20)) (hk5 hg21 .nil) (by simp only [hg21,bs,reduceIte])
  refine x_if h rfl (fun hc23 h => ?_) (fun hc23 h => ?_)
  ·refine x_rg (rgn [hE] (⟨[(4,pB false)],[],0⟩)) ?_
   refine x_toret (x_br (x_tr (x_tr ?_)))
   replace h := done_leaf h hx18
   refine x_br (x_tr ?_)
   obtain rfl := sj h
   exact ret0 (.bool false) (.refl _) (fun _ => rfl)
  refine x_kk (x_skip (x_bn (x_tn ?_)))
  refine x_rgt (rgn [hE,hE] (⟨[oP 2 0,oP 3 1,(49,.osl 2 0 3),(50,pI 3),(51,pI (IntKind.wrap .i64 (v17 + 1)))],[rP 0 3 (zE3 p),rP 1 13 (zE2 x_),(2,some (.p none [.int .i64 x_.Ns,.int .i64 x_.Env,.int .i64 x_.Fds]))],3⟩)) ?_
  refine x_tn ?_
  exact ⟨_,(sj h).symm,by kernel_rfl⟩
 refine kw0 (⟨[oP 2 0,oP 3 1],[rP 0 3 (zE3 p),rP 1 13 (zE2 x_)],2⟩) ?_
 refine x_exit ?_
 refine x_te (x_te ?_)
 replace h := done_map h hx18
 unfold proc_fields_A53 at h
 refine x_bh ?_
 refine x_tn (x_seq ?_)
 refine x_rgB (fun b_ => (⟨[oP 2 0,oP 3 1,(73,pB b_)],[rP 0 3 (zE3 p),rP 1 13 (zE2 x_)],2⟩ : VSt)) ((decide (8 < (List.length x_.Notes : Int))) || (decide (64 < (List.length x_.Waits : Int)))) ?_ ?_
 ·rcases bq (decide (8 < (List.length x_.Notes : Int))) with hg24 | hg24
  ·exact rb [hE,hE,hN (.len (List.length x_.Notes : Int)),hE,hE,hS,hS,hS,hS,hN (.pk true)] true (kc (lenM PV.str x_.Notes) (hk5 hg24 .nil)) (by simp only [hg24,bs,reduceIte])
  exact rb [hE,hE,hN (.len (List.length x_.Notes : Int)),hE,hE,hY,hY,(.y,(.len (List.length x_.Waits : Int))),hY,hN (.pk false)] (decide (64 < (List.length x_.Waits : Int))) (kc (lenM PV.str x_.Notes) (hk3 hg24 (kc (lenM zE1 x_.Waits) (hk2 hg24 .nil)))) (by simp only [hg24,bs,reduceIte])
 refine x_if h rfl (fun hc26 h => ?_) (fun hc26 h => ?_)
 ·refine x_rg (rgn [hE] (⟨[(4,pB false)],[],0⟩)) ?_
  refine x_toret (x_tr ?_)
  obtain rfl := sj h
  exact ret0 (.bool false) (.refl _) (fun _ => rfl)
 refine x_kk (x_skip (x_tn (x_seq ?_)))
 refine x_rg (rg0 [hE,hE,hN (.len (List.length x_.Notes : Int)),hE] (⟨[oP 2 0,oP 3 1,(75,pL none PV.str x_.Notes),(76,pI (List.length x_.Notes : Int)),(77,pI 0)],[rP 0 3 (zE3 p),rP 1 13 (zE2 x_)],2⟩) (kc (lenM PV.str x_.Notes) .nil)) ?_
 refine x_block ?_
 refine kw0 (⟨[oP 2 0,oP 3 1,(75,pL none PV.str x_.Notes),(76,pI (List.length x_.Notes : Int)),(77,pI 0)],[rP 0 3 (zE3 p),rP 1 13 (zE2 x_)],2⟩) ?_
 refine x_loop (σ := Int) h (fun s => ⟨[oP 2 0,oP 3 1,(75,pL none PV.str x_.Notes),(76,pI (List.length x_.Notes : Int)),(77,pI s)],[rP 0 3 (zE3 p),rP 1 13 (zE2 x_)],2⟩) (by kernel_rfl) ?_ ?_
 ·rintro v31
  kernel_rfl
 rintro v31 x32 h hx32
 replace h : proc_fields_L32 p x_ v31 = some x32 := h
 unfold proc_fields_L32 at h
 refine x_rg (rgn [hE] (⟨[oP 2 0,oP 3 1,(75,pL none PV.str x_.Notes),(76,pI (List.length x_.Notes : Int)),(77,pI v31),(78,pB (decide (v31 < (List.length x_.Notes : Int))))],[rP 0 3 (zE3 p),rP 1 13 (zE2 x_)],2⟩)) ?_
 refine x_seq ?_
 refine x_if h rfl (fun hc33 h => ?_) (fun hc33 h => ?_)
 ·refine x_kk (x_skip (x_tn (x_seq (x_block ?_))))
  obtain ⟨x34,hx34,h⟩ := bind_some h
  refine x_rg (rg0 [hN (.pAt (.str x34)),hE,hE] (⟨[oP 2 0,oP 3 1,(8,pS x34),(75,pL none PV.str x_.Notes),(76,pI (List.length x_.Notes : Int)),(77,pI v31)],[rP 0 3 (zE3 p),rP 1 13 (zE2 x_)],2⟩) (kc (lsAt_map (f := PV.str) hx34) .nil)) ?_
  obtain ⟨x35,hx35,h⟩ := bind_some h
  refine x_rg (rg0 [hE,hN (.cal [] (.bool x35) true),hE] (⟨[oP 2 0,oP 3 1,(75,pL none PV.str x_.Notes),(76,pI (List.length x_.Notes : Int)),(77,pI v31),(83,pB (!x35))],[rP 0 3 (zE3 p),rP 1 13 (zE2 x_)],2⟩) (kc (c32 hx35) .nil)) ?_
  refine x_if h rfl (fun hc36 h => ?_) (fun hc36 h => ?_)
  ·refine x_rg (rgn [hE] (⟨[(4,pB false)],[],0⟩)) ?_
   refine x_toret (x_br (x_tr (x_tr ?_)))
   replace h := done_leaf h hx32
   refine x_br (x_tr ?_)
   obtain rfl := sj h
   exact ret0 (.bool false) (.refl _) (fun _ => rfl)
  refine x_kk (x_skip (x_bn (x_tn ?_)))
  refine x_rgt (rgn [hE,hE] (⟨[oP 2 0,oP 3 1,(75,pL none PV.str x_.Notes),(76,pI (List.length x_.Notes : Int)),(77,pI (IntKind.wrap .i64 (v31 + 1)))],[rP 0 3 (zE3 p),rP 1 13 (zE2 x_)],2⟩)) ?_
  refine x_tn ?_
  exact ⟨_,(sj h).symm,by kernel_rfl⟩
 refine kw0 (⟨[oP 2 0,oP 3 1],[rP 0 3 (zE3 p),rP 1 13 (zE2 x_)],2⟩) ?_
 refine x_exit ?_
 refine x_te (x_te ?_)
 replace h := done_map h hx32
 refine x_bh ?_
 refine x_tn (x_seq ?_)
 refine x_rg (rg0 [hE,hE,hN (.len (List.length x_.Waits : Int)),hE] (⟨[oP 2 0,(86,pL (some 2) zE1 x_.Waits),(87,pI (List.length x_.Waits : Int)),(88,pI 0)],[rP 0 3 (zE3 p)],1⟩) (kc (lenM zE1 x_.Waits) .nil)) ?_
 refine x_block ?_
 refine kw0 (⟨[oP 2 0,(86,pL (some 2) zE1 x_.Waits),(87,pI (List.length x_.Waits : Int)),(88,pI 0)],[rP 0 3 (zE3 p)],1⟩) ?_
 refine x_loop (σ := Int) h (fun s => ⟨[oP 2 0,(86,pL (some 2) zE1 x_.Waits),(87,pI (List.length x_.Waits : Int)),(88,pI s)],[rP 0 3 (zE3 p)],1⟩) (by kernel_rfl) ?_ ?_
 ·rintro v44
  kernel_rfl
 rintro v44 x45 h hx45
 replace h : proc_fields_L45 p x_ v44 = some x45 := h
 unfold proc_fields_L45 at h
 refine x_rg (rgn [hE] (⟨[oP 2 0,(86,pL (some 2) zE1 x_.Waits),(87,pI (List.length x_.Waits : Int)),(88,pI v44),(89,pB (decide (v44 < (List.length x_.Waits : Int))))],[rP 0 3 (zE3 p)],1⟩)) ?_
 refine x_seq ?_
 refine x_if h rfl (fun hc46 h => ?_) (fun hc46 h => ?_)
 ·refine x_kk (x_skip (x_tn (x_seq (x_block ?_))))
  obtain ⟨x47,hx47,h⟩ := bind_some h
  refine x_rg (rg0 [hN (.pAt (zE1 x47)),hE,hE,hE] (⟨[oP 2 0,oP 10 1,(86,pL (some 2) zE1 x_.Waits),(87,pI (List.length x_.Waits : Int)),(88,pI v44)],[rP 0 3 (zE3 p),rP 1 2 (zE1 x47)],2⟩) (kc (lsAt_map (f := zE1) hx47) .nil)) ?_
  obtain ⟨t51,ht,h⟩ := bind_some h
  refine x_rgB (fun b_ => (⟨[oP 2 0,(86,pL (some 2) zE1 x_.Waits),(87,pI (List.length x_.Waits : Int)),(88,pI v44),(107,pB b_)],[rP 0 3 (zE3 p)],1⟩ : VSt)) t51 ?_ ?_
  ·rcases bq (decide (x47.Id < 1)) with hg48 | hg48
   ·replace ht := ite_t ht hg48
    obtain rfl := sj ht
    exact rb [hE,hE,hE,hE,hS,hS,hS,hS,hS,hN (.pk true),hE,hS,hS,hS,hS,hE] true (hk6 hg48 (hk4 tt .nil)) rfl
   replace ht := ite_f ht hg48
   rcases bq (decide (p.Next ≤ x47.Id)) with hg49 | hg49
   ·replace ht := ite_t ht hg49
    obtain rfl := sj ht
    exact rb [hE,hE,hE,hE,hY,hY,hY,hY,hY,hN (.pk false),hE,hS,hS,hS,hS,hN (.pk true)] true (hk6 hg48 (hk5 hg49 .nil)) rfl
   replace ht := ite_f ht hg49
   obtain ⟨x50,hx50,ht⟩ := bind_some ht
   obtain rfl := sj ht
   exact rb [hE,hE,hE,hE,hY,hY,hY,hY,hY,hN (.pk false),hE,hY,hY,(.y,(.cal [] (.bool x50) true)),hY,hN (.pk false)] (!x50) (hk6 hg48 (hk3 hg49 (kc (c32 hx50) (hk2 hg49 .nil)))) rfl
  clear ht
  refine x_if h rfl (fun hc52 h => ?_) (fun hc52 h => ?_)
  ·refine x_rg (rgn [hE] (⟨[(4,pB false)],[],0⟩)) ?_
   refine x_toret (x_br (x_tr (x_tr ?_)))
   replace h := done_leaf h hx45
   refine x_br (x_tr ?_)
   obtain rfl := sj h
   exact ret0 (.bool false) (.refl _) (fun _ => rfl)
  refine x_kk (x_skip (x_bn (x_tn ?_)))
  refine x_rgt (rgn [hE,hE] (⟨[oP 2 0,(86,pL (some 2) zE1 x_.Waits),(87,pI (List.length x_.Waits : Int)),(88,pI (IntKind.wrap .i64 (v44 + 1)))],[rP 0 3 (zE3 p)],1⟩)) ?_
  refine x_tn ?_
  exact ⟨_,(sj h).symm,by kernel_rfl⟩
 refine kw0 (⟨[],[],0⟩) ?_
 refine x_exit ?_
 refine x_te (x_te ?_)
 replace h := done_leaf h hx45
 refine x_bh ?_
 refine x_tn ?_
 refine x_rg (rgn [hE] (⟨[(4,pB true)],[],0⟩)) ?_
 refine x_toret ?_
 obtain rfl := sj h
 exact ret0 (.bool true) (.refl _) (fun _ => rfl)
theorem c15 {p : api_Procs} {r : Bool} (h : proc_Right p = some r) : CallOK Tryd.prog 15 [zE3 p] (.bool r) true := by
 apply ok15
 unfold proc_Right at h
 refine x_rg (rgn [hE,hE] (⟨[oP 1 0],[rP 0 3 (zE3 p)],1⟩)) ?_
 refine x_rg (rg0 [hE,hE,hN (.len (List.length p.L : Int)),hE] (⟨[oP 1 0,(3,pI (List.length p.L : Int))],[rP 0 3 (zE3 p)],1⟩) (kc (lenM zE2 p.L) .nil)) ?_
 refine x_seq ?_
 obtain ⟨t7,ht,h⟩ := bind_some h
 refine x_rgB (fun b_ => (⟨[oP 1 0,(41,pB b_)],[rP 0 3 (zE3 p)],1⟩ : VSt)) t7 ?_ ?_
 ·rcases bq (decide ((List.length p.L : Int) < 1)) with hg1 | hg1
  ·replace ht := ite_t ht hg1
   obtain rfl := sj ht
   exact rb [hE,hE,hE,hS,hS,hN (.pk true),hE,hS,hS,hS,hS,hS,hS,hS,hS,hS,hS,hE,hE,hS,hS,hS,hE,hE,hS,hS,hS,hE,hE,hS,hS,hS,hE] true (hk3 hg1 (hk3 tt (hk8 tt (hk8 tt .nil)))) rfl
  replace ht := ite_f ht hg1
  rcases bq (decide (64 < (List.length p.L : Int))) with hg2 | hg2
  ·replace ht := ite_t ht hg2
   obtain rfl := sj ht
   exact rb [hE,hE,hE,hY,hY,hN (.pk false),hE,hS,hS,hS,hS,hS,hS,hS,hS,hS,hS,hN (.pk true),hE,hS,hS,hS,hE,hE,hS,hS,hS,hE,hE,hS,hS,hS,hE] true (hk3 hg1 (hk3 hg2 (hk8 hg2 (kc tt (hk8 tt .nil))))) rfl
  replace ht := ite_f ht hg2
  obtain ⟨x3,hx3,ht⟩ := bind_some ht
  rcases bq (decide (p.Next ≤ x3.Id)) with hg4 | hg4
  ·replace ht := ite_t ht hg4
   obtain rfl := sj ht
   exact rb [hE,hE,hE,hY,hY,hN (.pk false),hE,hY,hY,hY,hY,hY,hY,(.y,(.pAt (zE2 x3))),hY,hY,hY,hN (.pk false),hE,hS,hS,hS,hN (.pk true),hE,hS,hS,hS,hE,hE,hS,hS,hS,hE] true (hk3 hg1 (kc hg2 (hk6 hg2 (kc (lsAt_map (f := zE2) hx3) (hk4 hg2 (hk4 hg4 (hk6 tt .nil))))))) rfl
  replace ht := ite_f ht hg4
  rcases bq (decide (1048576 < p.Next)) with hg5 | hg5
  ·replace ht := ite_t ht hg5
   obtain rfl := sj ht
   exact rb [hE,hE,hE,hY,hY,hN (.pk false),hE,hY,hY,hY,hY,hY,hY,(.y,(.pAt (zE2 x3))),hY,hY,hY,hN (.pk false),hE,hY,hY,hY,hN (.pk false),hE,hS,hS,hS,hN (.pk true),hE,hS,hS,hS,hE] true (hk3 hg1 (kc hg2 (hk6 hg2 (kc (lsAt_map (f := zE2) hx3) (hk4 hg2 (hk4 hg4 (hk4 hg5 (hk3 tt .nil)))))))) rfl
  replace ht := ite_f ht hg5
  rcases bq (decide (p.Group < 2)) with hg6 | hg6
  ·replace ht := ite_t ht hg6
   obtain rfl := sj ht
   exact rb [hE,hE,hE,hY,hY,hN (.pk false),hE,hY,hY,hY,hY,hY,hY,(.y,(.pAt (zE2 x3))),hY,hY,hY,hN (.pk false),hE,hY,hY,hY,hN (.pk false),hE,hY,hY,hY,hN (.pk false),hE,hS,hS,hS,hN (.pk true)] true (hk3 hg1 (kc hg2 (hk6 hg2 (kc (lsAt_map (f := zE2) hx3) (hk4 hg2 (hk4 hg4 (hk4 hg5 (hk4 hg6 .nil)))))))) rfl
  replace ht := ite_f ht hg6
  obtain rfl := sj ht
  exact rb [hE,hE,hE,hY,hY,hN (.pk false),hE,hY,hY,hY,hY,hY,hY,(.y,(.pAt (zE2 x3))),hY,hY,hY,hN (.pk false),hE,hY,hY,hY,hN (.pk false),hE,hY,hY,hY,hN (.pk false),hE,hY,hY,hY,hN (.pk false)] (decide (1099511627777 < p.Group)) (hk3 hg1 (kc hg2 (hk6 hg2 (kc (lsAt_map (f := zE2) hx3) (hk4 hg2 (hk4 hg4 (hk4 hg5 (hk4 hg6 .nil)))))))) rfl
 clear ht
 refine x_if h rfl (fun hc8 h => ?_) (fun hc8 h => ?_)
 ·refine x_rg (rgn [hE] (⟨[(2,pB false)],[],0⟩)) ?_
  refine x_toret (x_tr ?_)
  obtain rfl := sj h
  exact ret0 (.bool false) (.refl _) (fun _ => rfl)
 refine x_kk (x_skip (x_tn (x_seq ?_)))
 refine x_rg (rg0 [hE,hE,hN (.len (List.length p.L : Int)),hE] (⟨[oP 1 0,(43,pL (some 13) zE2 p.L),(44,pI (List.length p.L : Int)),(45,pI 0)],[rP 0 3 (zE3 p)],1⟩) (kc (lenM zE2 p.L) .nil)) ?_
 refine x_block ?_
 refine kw0 (⟨[oP 1 0,(43,pL (some 13) zE2 p.L),(44,pI (List.length p.L : Int)),(45,pI 0)],[rP 0 3 (zE3 p)],1⟩) ?_
 refine x_loop (σ := Int) h (fun s => ⟨[oP 1 0,(43,pL (some 13) zE2 p.L),(44,pI (List.length p.L : Int)),(45,pI s)],[rP 0 3 (zE3 p)],1⟩) (by kernel_rfl) ?_ ?_
 ·rintro v16
  kernel_rfl
 rintro v16 x17 h hx17
 replace h : proc_Right_L17 p v16 = some x17 := h
 unfold proc_Right_L17 at h
 refine x_rg (rgn [hE] (⟨[oP 1 0,(43,pL (some 13) zE2 p.L),(44,pI (List.length p.L : Int)),(45,pI v16),(46,pB (decide (v16 < (List.length p.L : Int))))],[rP 0 3 (zE3 p)],1⟩)) ?_
 refine x_seq ?_
 refine x_if h rfl (fun hc18 h => ?_) (fun hc18 h => ?_)
 ·refine x_kk (x_skip (x_tn (x_seq (x_block ?_))))
  obtain ⟨x19,hx19,h⟩ := bind_some h
  refine x_rg (rg0 [hE,hN (.pAt (zE2 x19)),hE,hE,hE,hE] (⟨[oP 1 0,(4,pI v16),oP 5 1,(43,pL (some 13) zE2 p.L),(44,pI (List.length p.L : Int)),(45,pI v16)],[rP 0 3 (zE3 p),rP 1 13 (zE2 x19)],2⟩) (kc (lsAt_map (f := zE2) hx19) .nil)) ?_
  obtain ⟨x20,hx20,h⟩ := bind_some h
  obtain ⟨t23,ht,h⟩ := bind_some h
  refine x_rgB (fun b_ => (⟨[oP 1 0,(43,pL (some 13) zE2 p.L),(44,pI (List.length p.L : Int)),(45,pI v16),(59,pB b_)],[rP 0 3 (zE3 p)],1⟩ : VSt)) t23 ?_ ?_
  ·rcases bq (!x20) with hg21 | hg21
   ·replace ht := ite_t ht hg21
    obtain rfl := sj ht
    exact rb [hE,hE,hN (.cal [] (.bool x20) true),hE,hE,hS,hS,hS,hS,hN (.pk true)] true (kc (c28 hx20) (hk5 hg21 .nil)) rfl
   replace ht := ite_f ht hg21
   obtain ⟨x22,hx22,ht⟩ := bind_some ht
   obtain rfl := sj ht
   exact rb [hE,hE,hN (.cal [] (.bool x20) true),hE,hE,hY,hY,(.y,(.cal [] (.bool x22) true)),hY,hN (.pk false)] (!x22) (kc (c28 hx20) (hk3 hg21 (kc (c29 hx22) (hk2 hg21 .nil)))) rfl
  clear ht
  refine x_if h rfl (fun hc24 h => ?_) (fun hc24 h => ?_)
  ·refine x_rg (rgn [hE] (⟨[(2,pB false)],[],0⟩)) ?_
   refine x_toret (x_br (x_tr (x_tr ?_)))
   replace h := done_leaf h hx17
   refine x_br (x_tr ?_)
   obtain rfl := sj h
   exact ret0 (.bool false) (.refl _) (fun _ => rfl)
  refine x_kk (x_skip (x_bn (x_tn ?_)))
  refine x_rgt (rgn [hE,hE] (⟨[oP 1 0,(43,pL (some 13) zE2 p.L),(44,pI (List.length p.L : Int)),(45,pI (IntKind.wrap .i64 (v16 + 1)))],[rP 0 3 (zE3 p)],1⟩)) ?_
  refine x_tn ?_
  exact ⟨_,(sj h).symm,by kernel_rfl⟩
 refine kw0 (⟨[],[],0⟩) ?_
 refine x_exit ?_
 refine x_te (x_te ?_)
 replace h := done_leaf h hx17
 refine x_bh ?_
 refine x_tn ?_
 refine x_rg (rgn [hE] (⟨[(2,pB true)],[],0⟩)) ?_
 refine x_toret ?_
 obtain rfl := sj h
 exact ret0 (.bool true) (.refl _) (fun _ => rfl)
theorem c8 {r : Bool} (h : law30_awake = some r) : CallOK Tryd.prog 8 [] (.bool r) true := by
 apply ok8
 unfold law30_awake at h
 refine x_rg (rgn [hE] (⟨[],[],0⟩)) ?_
 obtain ⟨x1,hx1,h⟩ := bind_some h
 refine x_rg (rg0 [hN (.cal [] (.tup [zE3 x1.1,.int .i64 x1.2]) false),hE,hE,hE,hE,hE,hE] (⟨[oP 1 0,(2,pI x1.2)],[rP 0 3 (zE3 x1.1)],1⟩) (kc (show CallOK Tryd.prog 9 [.str [97,110,110]] (.tup [zE3 x1.1,.int .i64 x1.2]) false from ((c9 hx1).frz (.tup (.cons (.agg (.cons (.refl _) (.cons (.refl _) (.cons (.usl _ _) .nil)))) (.cons (.refl _) .nil))))) .nil)) ?_
 refine x_seq ?_
 refine x_rg (rgn [hE,hE] (⟨[oP 1 0,(21,pB (!decide (x1.2 = 0)))],[rP 0 3 (zE3 x1.1)],1⟩)) ?_
 refine x_if h rfl (fun hc2 h => ?_) (fun hc2 h => ?_)
 ·refine x_rg (rgn [hE] (⟨[(0,pB false)],[],0⟩)) ?_
  refine x_toret (x_tr ?_)
  obtain rfl := sj h
  exact ret0 (.bool false) (.refl _) (fun _ => rfl)
 refine x_kk (x_skip (x_tn (x_seq ?_)))
 obtain ⟨x3,hx3,h⟩ := bind_some h
 refine x_rg (rg0 [hE,hN (.cal [] (.tup [(gA1 x3.1),zE1 x3.2.1,.bool x3.2.2.1,.int .i64 x3.2.2.2]) false),hE,hE,hE,hE,hE,hE,hE,hE,hE,hE,hE] (⟨[oP 1 0,(6,pI x3.2.2.2)],[rP 0 3 (zE3 x1.1)],1⟩) (kc (c19 hx3) .nil)) ?_
 refine x_rg (rgn [hE,hE] (⟨[oP 1 0,(30,pB (!decide (x3.2.2.2 = 42)))],[rP 0 3 (zE3 x1.1)],1⟩)) ?_
 refine x_if h rfl (fun hc4 h => ?_) (fun hc4 h => ?_)
 ·refine x_rg (rgn [hE] (⟨[(0,pB false)],[],0⟩)) ?_
  refine x_toret (x_tr ?_)
  obtain rfl := sj h
  exact ret0 (.bool false) (.refl _) (fun _ => rfl)
 refine x_kk (x_skip (x_tn ?_))
 obtain ⟨x5,hx5,h⟩ := bind_some h
 refine x_rg (rg0 [hE,hN (.cal [] (.tup [zE3 x5.1,.int .i64 x5.2.1,.int .i64 x5.2.2]) false),hE,hE,hE,hE,hE,hE,hE] (⟨[oP 1 0,(2,pI x5.2.2),(7,pI x5.2.1)],[rP 0 3 (zE3 x5.1)],1⟩) (kc (show CallOK Tryd.prog 20 [zE3 x1.1,.int .i64 1,.int .i64 5] (.tup [zE3 x5.1,.int .i64 x5.2.1,.int .i64 x5.2.2]) false from ((c20 hx5).frz (.tup (.cons (.agg (.cons (.refl _) (.cons (.refl _) (.cons (.usl _ _) .nil)))) (.cons (.refl _) (.cons (.refl _) .nil)))))) .nil)) ?_
 obtain ⟨x6,hx6,h⟩ := bind_some h
 refine x_rg (rg0 [hE,hN (.cal [] (.tup [(gA3 x6.1),.bool x6.2]) true),hE,hE,hE,hE,hE,hE] (⟨[oP 1 0,(2,pI x5.2.2),(7,pI x5.2.1),oP 8 1,(9,pB x6.2)],[rP 0 3 (zE3 x5.1),rH 1 13 (gA12 x6.1 2 3),(2,rL none PV.str x6.1.Notes),(3,rL (some 2) zE1 x6.1.Waits)],4⟩) (kc (c13 hx6) .nil)) ?_
 refine x_seq ?_
 refine x_rgB (fun b_ => (⟨[oP 1 0,(71,pB b_)],[rP 0 3 (zE3 x5.1)],1⟩ : VSt)) ((!decide (x5.2.2 = 0)) || ((!decide (x5.2.1 = 2)) || ((!x6.2) || ((!decide (x6.1.Ns = 2)) || ((!decide (x6.1.Env = 1)) || ((!decide (x6.1.Fds = 3)) || (!decide (x6.1.Parent = 1)))))))) ?_ ?_
 ·rcases bq (!decide (x5.2.2 = 0)) with hg7 | hg7
  ·exact rb [hE,hE,hE,hS,hS,hN (.pk true),hE,hS,hS,hE,hE,hS,hS,hS,hE,hE,hS,hS,hS,hE,hE,hS,hS,hS,hE,hE,hS,hS,hS,hE] true (hk3 hg7 (hk6 tt (hk8 tt .nil))) (by simp only [hg7,bs,reduceIte])
  rcases bq (!decide (x5.2.1 = 2)) with hg8 | hg8
  ·exact rb [hE,hE,hE,hY,hY,hN (.pk false),hE,hS,hS,hN (.pk true),hE,hS,hS,hS,hE,hE,hS,hS,hS,hE,hE,hS,hS,hS,hE,hE,hS,hS,hS,hE] true (hk3 hg7 (hk3 hg8 (hk4 tt (hk8 tt .nil)))) (by simp only [hg7,hg8,bs,reduceIte])
  rcases bq (!x6.2) with hg9 | hg9
  ·exact rb [hE,hE,hE,hY,hY,hN (.pk false),hE,hY,hY,hN (.pk false),hE,hS,hS,hS,hN (.pk true),hE,hS,hS,hS,hE,hE,hS,hS,hS,hE,hE,hS,hS,hS,hE] true (hk3 hg7 (hk3 hg8 (hk4 hg9 (kc tt (hk8 tt .nil))))) (by simp only [hg7,hg8,hg9,bs,reduceIte])
  rcases bq (!decide (x6.1.Ns = 2)) with hg10 | hg10
  ·exact rb [hE,hE,hE,hY,hY,hN (.pk false),hE,hY,hY,hN (.pk false),hE,hY,hY,hY,hN (.pk false),hE,hS,hS,hS,hN (.pk true),hE,hS,hS,hS,hE,hE,hS,hS,hS,hE] true (hk3 hg7 (hk3 hg8 (hk4 hg9 (hk4 hg10 (hk6 tt .nil))))) (by simp only [hg7,hg8,hg9,hg10,bs,reduceIte])
  rcases bq (!decide (x6.1.Env = 1)) with hg11 | hg11
  ·exact rb [hE,hE,hE,hY,hY,hN (.pk false),hE,hY,hY,hN (.pk false),hE,hY,hY,hY,hN (.pk false),hE,hY,hY,hY,hN (.pk false),hE,hS,hS,hS,hN (.pk true),hE,hS,hS,hS,hE] true (hk3 hg7 (hk3 hg8 (hk4 hg9 (hk4 hg10 (hk4 hg11 (hk3 tt .nil)))))) (by simp only [hg7,hg8,hg9,hg10,hg11,bs,reduceIte])
  rcases bq (!decide (x6.1.Fds = 3)) with hg12 | hg12
  ·exact rb [hE,hE,hE,hY,hY,hN (.pk false),hE,hY,hY,hN (.pk false),hE,hY,hY,hY,hN (.pk false),hE,hY,hY,hY,hN (.pk false),hE,hY,hY,hY,hN (.pk false),hE,hS,hS,hS,hN (.pk true)] true (hk3 hg7 (hk3 hg8 (hk4 hg9 (hk4 hg10 (hk4 hg11 (hk4 hg12 .nil)))))) (by simp only [hg7,hg8,hg9,hg10,hg11,hg12,bs,reduceIte])
  exact rb [hE,hE,hE,hY,hY,hN (.pk false),hE,hY,hY,hN (.pk false),hE,hY,hY,hY,hN (.pk false),hE,hY,hY,hY,hN (.pk false),hE,hY,hY,hY,hN (.pk false),hE,hY,hY,hY,hN (.pk false)] (!decide (x6.1.Parent = 1)) (hk3 hg7 (hk3 hg8 (hk4 hg9 (hk4 hg10 (hk4 hg11 (hk4 hg12 .nil)))))) (by simp only [hg7,hg8,hg9,hg10,hg11,hg12,bs,reduceIte])
 refine x_if h rfl (fun hc14 h => ?_) (fun hc14 h => ?_)
 ·refine x_rg (rgn [hE] (⟨[(0,pB false)],[],0⟩)) ?_
  refine x_toret (x_tr ?_)
  obtain rfl := sj h
  exact ret0 (.bool false) (.refl _) (fun _ => rfl)
 refine x_kk (x_skip (x_tn (x_seq ?_)))
 obtain ⟨x15,hx15,h⟩ := bind_some h
 refine x_rg (rg0 [hE,hN (.cal [] (.tup [(gA1 x15.1),zE1 x15.2.1,.bool x15.2.2.1,.int .i64 x15.2.2.2]) false),hE,hE,hE,hE,hE,hE,hE,hE,hE,hE,hE] (⟨[oP 1 0,(12,pB x15.2.2.1),(13,pI x15.2.2.2)],[rP 0 3 (zE3 x5.1)],1⟩) (kc (c19 hx15) .nil)) ?_
 refine x_rgB (fun b_ => (⟨[oP 1 0,(84,pB b_)],[rP 0 3 (zE3 x5.1)],1⟩ : VSt)) ((!x15.2.2.1) || (!decide (x15.2.2.2 = 0))) ?_ ?_
 ·rcases bq (!x15.2.2.1) with hg16 | hg16
  ·exact rb [hE,hE,hE,hS,hS,hN (.pk true)] true (hk3 hg16 .nil) (by simp only [hg16,bs,reduceIte])
  exact rb [hE,hE,hE,hY,hY,hN (.pk false)] (!decide (x15.2.2.2 = 0)) (hk3 hg16 .nil) (by simp only [hg16,bs,reduceIte])
 refine x_if h rfl (fun hc18 h => ?_) (fun hc18 h => ?_)
 ·refine x_rg (rgn [hE] (⟨[(0,pB false)],[],0⟩)) ?_
  refine x_toret (x_tr ?_)
  obtain rfl := sj h
  exact ret0 (.bool false) (.refl _) (fun _ => rfl)
 refine x_kk (x_skip (x_tn ?_))
 obtain ⟨x19,hx19,h⟩ := bind_some h
 refine x_rg (rg0 [hE,hN (.cal [] (.tup [zE3 x19.1,.int .i64 x19.2]) false),hE,hE,hE,hE,hE] (⟨[oP 1 0,(2,pI x19.2)],[rP 0 3 (zE3 x19.1)],1⟩) (kc (show CallOK Tryd.prog 18 [zE3 x5.1,.int .i64 2,.str [100,111,110,101]] (.tup [zE3 x19.1,.int .i64 x19.2]) false from ((c18 hx19).frz (.tup (.cons (.agg (.cons (.refl _) (.cons (.refl _) (.cons (.usl _ _) .nil)))) (.cons (.refl _) .nil))))) .nil)) ?_
 refine x_seq ?_
 refine x_rg (rgn [hE,hE] (⟨[oP 1 0,(91,pB (!decide (x19.2 = 0)))],[rP 0 3 (zE3 x19.1)],1⟩)) ?_
 refine x_if h rfl (fun hc20 h => ?_) (fun hc20 h => ?_)
 ·refine x_rg (rgn [hE] (⟨[(0,pB false)],[],0⟩)) ?_
  refine x_toret (x_tr ?_)
  obtain rfl := sj h
  exact ret0 (.bool false) (.refl _) (fun _ => rfl)
 refine x_kk (x_skip (x_tn ?_))
 obtain ⟨x21,hx21,h⟩ := bind_some h
 refine x_rg (rg0 [hE,hN (.cal [] (.tup [(gA1 x21.1),zE1 x21.2.1,.bool x21.2.2.1,.int .i64 x21.2.2.2]) false),hE,hE,hE,hE,hE,hE,hE,hE,hE,hE] (⟨[oP 1 0,(2,pI x21.2.2.2),oP 14 2,(15,pB x21.2.2.1)],[rH 0 3 (gA7 x21.1 1),(1,rL (some 13) zE2 x21.1.L),rP 2 2 (zE1 x21.2.1)],3⟩) (kc (c19 hx21) .nil)) ?_
 obtain ⟨t27,ht,h⟩ := bind_some h
 refine x_rgB (fun b_ => (⟨[(0,pB b_)],[],0⟩ : VSt)) t27 ?_ ?_
 ·rcases bq (decide (x21.2.1.Id = 2) && (decide (x21.2.1.Status = [100,111,110,101]) && true)) with hg22 | hg22
  ·replace ht := ite_t ht hg22
   rcases bq (!x21.2.2.1) with hg23 | hg23
   ·replace ht := ite_t ht hg23
    rcases bq (decide (x21.2.2.2 = 0)) with hg24 | hg24
    ·replace ht := ite_t ht hg24
     obtain ⟨x25,hx25,ht⟩ := bind_some ht
     rcases bq x25 with hg26 | hg26
     ·replace ht := ite_t ht hg26
      obtain rfl := sj ht
      exact rb [hE,hE,hE,hE,hY,hY,hN (.pk true),hE,hY,hY,hN (.pk true),hE,hY,(.y,(.call [] [(gA8 x21.1)] (.bool x25) true)),hN (.pk true),hE,hY,hY,(.y,(.len (List.length x21.1.L : Int))),hY,hN (.pk true),hE] (decide ((List.length x21.1.L : Int) = 1)) (hk3 hg22 (hk3 hg23 (hk2 hg24 (kc (show LesA [(gA9 x21.1)] [(gA8 x21.1)] from (.cons (.agg (.cons (.refl _) (.cons (.refl _) (.cons (.of_eq (by rw [List.drop_zero,List.take_length])) .nil)))) .nil)) (kc (c15 hx25) (kc (le0 (List.map zE2 x21.1.L)) (kc hg24 (hk3 hg26 (kc (lenM zE2 x21.1.L) (hk2 hg26 .nil)))))))))) rfl
     replace ht := ite_f ht hg26
     obtain rfl := sj ht
     exact rb [hE,hE,hE,hE,hY,hY,hN (.pk true),hE,hY,hY,hN (.pk true),hE,hY,(.y,(.call [] [(gA8 x21.1)] (.bool x25) true)),hN (.pk true),hE,hS,hS,hS,hS,hN (.pk false),hE] false (hk3 hg22 (hk3 hg23 (hk2 hg24 (kc (show LesA [(gA9 x21.1)] [(gA8 x21.1)] from (.cons (.agg (.cons (.refl _) (.cons (.refl _) (.cons (.of_eq (by rw [List.drop_zero,List.take_length])) .nil)))) .nil)) (kc (c15 hx25) (kc (le0 (List.map zE2 x21.1.L)) (kc hg24 (hk5 hg26 .nil)))))))) rfl
    replace ht := ite_f ht hg24
    obtain rfl := sj ht
    exact rb [hE,hE,hE,hE,hY,hY,hN (.pk true),hE,hY,hY,hN (.pk true),hE,hS,hS,hN (.pk false),hE,hS,hS,hS,hS,hE,hE] false (hk3 hg22 (hk3 hg23 (hk3 hg24 (hk4 ff .nil)))) rfl
   replace ht := ite_f ht hg23
   obtain rfl := sj ht
   exact rb [hE,hE,hE,hE,hY,hY,hN (.pk true),hE,hS,hS,hN (.pk false),hE,hS,hS,hE,hE,hS,hS,hS,hS,hE,hE] false (hk3 hg22 (hk3 hg23 (hk6 ff .nil))) rfl
  replace ht := ite_f ht hg22
  obtain rfl := sj ht
  exact rb [hE,hE,hE,hE,hS,hS,hN (.pk false),hE,hS,hS,hE,hE,hS,hS,hE,hE,hS,hS,hS,hS,hE,hE] false (hk3 hg22 (hk8 ff .nil)) rfl
 clear ht
 refine x_toret ?_
 obtain rfl := sj h
 exact ret0 (.bool t27) (.refl _) (fun _ => rfl)
theorem c24 {name : Str} {r : Bool} (h : ref05_Valid name = some r) : CallOK Tryd.prog 24 [.str name] (.bool r) true := by
 apply ok24
 unfold ref05_Valid at h
 refine x_rg (rgn [hE] (⟨[(0,pS name)],[],0⟩)) ?_
 refine x_seq ?_
 refine x_rgB (fun b_ => (⟨[(0,pS name),(13,pB b_)],[],0⟩ : VSt)) ((decide ((List.length name : Int) < 1)) || (decide (32 < (List.length name : Int)))) ?_ ?_
 ·rcases bq (decide ((List.length name : Int) < 1)) with hg1 | hg1
  ·exact rb [hE,hE,hE,hE,hS,hS,hS,hN (.pk true)] true (hk4 hg1 .nil) (by simp only [hg1,bs,reduceIte])
  exact rb [hE,hE,hE,hE,hY,hY,hY,hN (.pk false)] (decide (32 < (List.length name : Int))) (hk4 hg1 .nil) (by simp only [hg1,bs,reduceIte])
 refine x_if h rfl (fun hc3 h => ?_) (fun hc3 h => ?_)
 ·refine x_rg (rgn [hE] (⟨[(2,pB false)],[],0⟩)) ?_
  refine x_toret (x_tr ?_)
  obtain rfl := sj h
  exact ret0 (.bool false) (.refl _) (fun _ => rfl)
 refine x_kk (x_skip (x_tn (x_seq ?_)))
 refine x_rg (rgn [hE] (⟨[(0,pS name),(3,pI 0)],[],0⟩)) ?_
 refine x_block ?_
 refine kw0 (⟨[(0,pS name),(3,pI 0)],[],0⟩) ?_
 refine x_loop (σ := Int) h (fun s => ⟨[(0,pS name),(3,pI s)],[],0⟩) (by kernel_rfl) ?_ ?_
 ·rintro i
  kernel_rfl
 rintro i x12 h hx12
 replace h : ref05_Valid_L12 name i = some x12 := h
 unfold ref05_Valid_L12 at h
 refine x_seq ?_
 refine x_rg (rgn [hE,hE,hE,hE] (⟨[(0,pS name),(3,pI i),(17,pB (decide (i < (List.length name : Int))))],[],0⟩)) ?_
 refine x_if h rfl (fun hc13 h => ?_) (fun hc13 h => ?_)
 ·refine x_kk (x_skip (x_tn (x_seq (x_block ?_))))
  obtain ⟨c14,hc14,h⟩ := bind_some h
  refine x_rg (rg0 [hE,hE,hN (.sAt c14),hE] (⟨[(0,pS name),(3,pI i),(4,.pv (.int .u8 (c14.toNat : Int)))],[],0⟩) (kc hc14 .nil)) ?_
  refine x_rgB (fun b_ => (⟨[(0,pS name),(3,pI i),(4,.pv (.int .u8 (c14.toNat : Int))),(5,pB b_)],[],0⟩ : VSt)) ((decide (97 ≤ (c14.toNat : Int))) && (decide ((c14.toNat : Int) ≤ 122))) ?_ ?_
  ·rcases bq (decide (97 ≤ (c14.toNat : Int))) with hg15 | hg15
   ·exact rb [hE,hE,hE,hY,hY,hN (.pk true),hE] (decide ((c14.toNat : Int) ≤ 122)) (hk3 hg15 .nil) (by simp only [hg15,bs,reduceIte])
   exact rb [hE,hE,hE,hS,hS,hN (.pk false),hE] false (hk3 hg15 .nil) (by simp only [hg15,bs,reduceIte])
  refine x_rgB (fun b_ => (⟨[(0,pS name),(3,pI i),(51,pB b_)],[],0⟩ : VSt)) ((!((decide (97 ≤ (c14.toNat : Int))) && (decide ((c14.toNat : Int) ≤ 122)))) && ((decide (i = 0)) || (if (decide (48 ≤ (c14.toNat : Int))) then ((!(decide ((c14.toNat : Int) ≤ 57))) && ((!decide ((c14.toNat : Int) = 45)) && (!decide ((c14.toNat : Int) = 95)))) else ((!decide ((c14.toNat : Int) = 45)) && (!decide ((c14.toNat : Int) = 95)))))) ?_ ?_
  ·rcases bq (!((decide (97 ≤ (c14.toNat : Int))) && (decide ((c14.toNat : Int) ≤ 122)))) with hg17 | hg17
   ·rcases bq (decide (i = 0)) with hg18 | hg18
    ·exact rb [hE,hE,hE,hY,hY,hY,hS,hS,hS,(.u,.e),(.u,.e),hS,hS,hS,(.u,.e),(.u,.e),hS,hS,(.u,.e),(.u,.e),hS,(.y,(.pk true)),hN (.pk true)] true (hk3 hg17 (kc hg18 (hk8 hg18 (kc hg17 (kc hg18 (kc hg17 .nil)))))) (by simp only [hg17,hg18,bs,reduceIte])
    rcases bq (decide (48 ≤ (c14.toNat : Int))) with hg19 | hg19
    ·rcases bq (!(decide ((c14.toNat : Int) ≤ 57))) with hg20 | hg20
     ·rcases bq (!decide ((c14.toNat : Int) = 45)) with hg21 | hg21
      ·exact rb [hE,hE,hE,hY,hY,hY,hY,hY,hY,hY,hY,(.y,(.pk true)),hY,hY,hY,hY,(.y,(.pk true)),hY,hY,hY,(.y,(.pk true)),(.y,(.pk false)),hN (.pk true)] (!decide ((c14.toNat : Int) = 95)) (hk3 hg17 (hk3 hg18 (hk2 hg19 (kc hg18 (kc hg19 (hk2 hg18 (hk2 hg20 (kc hg18 (kc hg20 (kc hg18 (hk2 hg21 (kc hg18 (kc hg21 (kc hg17 (kc hg18 (kc hg17 .nil)))))))))))))))) (by simp only [hg17,hg18,hg19,hg20,hg21,bs,reduceIte])
      exact rb [hE,hE,hE,hY,hY,hY,hY,hY,hY,hY,hY,(.y,(.pk true)),hY,hY,hY,hY,(.y,(.pk true)),hY,hS,hS,(.y,(.pk false)),(.y,(.pk false)),hN (.pk true)] false (hk3 hg17 (hk3 hg18 (hk2 hg19 (kc hg18 (kc hg19 (hk2 hg18 (hk2 hg20 (kc hg18 (kc hg20 (kc hg18 (hk2 hg21 (kc hg18 (kc hg21 (kc hg17 (kc hg18 (kc hg17 .nil)))))))))))))))) (by simp only [hg17,hg18,hg19,hg20,hg21,bs,reduceIte])
     exact rb [hE,hE,hE,hY,hY,hY,hY,hY,hY,hY,hY,(.y,(.pk true)),hY,hY,hS,hS,(.y,(.pk false)),hY,hS,hS,hY,(.y,(.pk false)),hN (.pk true)] false (hk3 hg17 (hk3 hg18 (hk2 hg19 (kc hg18 (kc hg19 (hk2 hg18 (hk2 hg20 (kc hg18 (kc hg20 (kc hg18 (hk2 ff (kc hg18 (kc hg17 (kc hg18 (kc hg17 .nil))))))))))))))) (by simp only [hg17,hg18,hg19,hg20,bs,reduceIte])
    rcases bq (!decide ((c14.toNat : Int) = 45)) with hg22 | hg22
    ·exact rb [hE,hE,hE,hY,hY,hY,hY,hY,hY,hS,hS,(.y,(.pk false)),hY,hY,hY,hY,hY,hY,hY,hY,(.y,(.pk true)),(.y,(.pk false)),hN (.pk true)] (!decide ((c14.toNat : Int) = 95)) (hk3 hg17 (hk3 hg18 (hk2 hg19 (kc hg18 (kc hg19 (hk2 hg18 (hk2 tt (hk2 hg18 (hk2 hg22 (kc hg18 (kc hg22 (kc hg17 (kc hg18 (kc hg17 .nil)))))))))))))) (by simp only [hg17,hg18,hg19,hg22,bs,reduceIte])
    exact rb [hE,hE,hE,hY,hY,hY,hY,hY,hY,hS,hS,(.y,(.pk false)),hY,hY,hY,hY,hY,hY,hS,hS,(.y,(.pk false)),(.y,(.pk false)),hN (.pk true)] false (hk3 hg17 (hk3 hg18 (hk2 hg19 (kc hg18 (kc hg19 (hk2 hg18 (hk2 tt (hk2 hg18 (hk2 hg22 (kc hg18 (kc hg22 (kc hg17 (kc hg18 (kc hg17 .nil)))))))))))))) (by simp only [hg17,hg18,hg19,hg22,bs,reduceIte])
   exact rb [hE,hE,hE,hS,hS,hS,(.u,.e),(.u,.e),(.u,.e),(.u,.e),(.u,.e),(.u,.e),(.u,.e),(.u,.e),(.u,.e),(.u,.e),(.u,.e),(.u,.e),(.u,.e),(.u,.e),(.u,.e),hS,hN (.pk false)] false (hk5 hg17 .nil) (by simp only [hg17,bs,reduceIte])
  refine x_if h rfl (fun hc24 h => ?_) (fun hc24 h => ?_)
  ·refine x_rg (rgn [hE] (⟨[(2,pB false)],[],0⟩)) ?_
   refine x_toret (x_br (x_tr (x_tr ?_)))
   replace h := done_leaf h hx12
   refine x_br (x_tr ?_)
   obtain rfl := sj h
   exact ret0 (.bool false) (.refl _) (fun _ => rfl)
  refine x_kk (x_skip (x_bn (x_tn ?_)))
  refine x_rgt (rgn [hE,hE,hE] (⟨[(0,pS name),(3,pI (IntKind.wrap .i64 (i + 1)))],[],0⟩)) ?_
  refine x_tn ?_
  exact ⟨_,(sj h).symm,by kernel_rfl⟩
 refine kw0 (⟨[],[],0⟩) ?_
 refine x_exit ?_
 refine x_te (x_te ?_)
 replace h := done_leaf h hx12
 refine x_bh ?_
 refine x_tn ?_
 refine x_rg (rgn [hE] (⟨[(2,pB true)],[],0⟩)) ?_
 refine x_toret ?_
 obtain rfl := sj h
 exact ret0 (.bool true) (.refl _) (fun _ => rfl)
theorem c17 {a : api_Proc} {b : api_Proc} {r : Bool} (h : ref30_Equal a b = some r) : CallOK Tryd.prog 17 [zE2 a,zE2 b] (.bool r) true := by
 apply ok17
 unfold ref30_Equal at h
 refine x_rg (rgn [hE,hE,hE] (⟨[oP 2 0,oP 3 1],[rP 0 13 (zE2 a),rP 1 13 (zE2 b)],2⟩)) ?_
 refine x_seq ?_
 refine x_rgB (fun b_ => (⟨[oP 2 0,oP 3 1,(22,pB b_)],[rP 0 13 (zE2 a),rP 1 13 (zE2 b)],2⟩ : VSt)) ((!decide ((List.length a.Notes : Int) = (List.length b.Notes : Int))) || (!decide ((List.length a.Waits : Int) = (List.length b.Waits : Int)))) ?_ ?_
 ·rcases bq (!decide ((List.length a.Notes : Int) = (List.length b.Notes : Int))) with hg1 | hg1
  ·exact rb [hE,hE,hN (.len (List.length a.Notes : Int)),hE,hE,hN (.len (List.length b.Notes : Int)),hE,hE,hS,hS,hS,hS,hS,hS,hS,hN (.pk true)] true (kc (lenM PV.str a.Notes) (kc (lenM PV.str b.Notes) (hk8 hg1 .nil))) (by simp only [hg1,bs,reduceIte])
  exact rb [hE,hE,hN (.len (List.length a.Notes : Int)),hE,hE,hN (.len (List.length b.Notes : Int)),hE,hE,hY,hY,(.y,(.len (List.length a.Waits : Int))),hY,hY,(.y,(.len (List.length b.Waits : Int))),hY,hN (.pk false)] (!decide ((List.length a.Waits : Int) = (List.length b.Waits : Int))) (kc (lenM PV.str a.Notes) (kc (lenM PV.str b.Notes) (hk3 hg1 (kc (lenM zE1 a.Waits) (hk3 hg1 (kc (lenM zE1 b.Waits) (hk2 hg1 .nil))))))) (by simp only [hg1,bs,reduceIte])
 refine x_if h rfl (fun hc3 h => ?_) (fun hc3 h => ?_)
 ·refine x_rg (rgn [hE] (⟨[(4,pB false)],[],0⟩)) ?_
  refine x_toret (x_tr ?_)
  obtain rfl := sj h
  exact ret0 (.bool false) (.refl _) (fun _ => rfl)
 refine x_kk (x_skip (x_tn (x_seq ?_)))
 refine x_rg (rgn [hE] (⟨[oP 2 0,oP 3 1,(5,pI 0)],[rP 0 13 (zE2 a),rP 1 13 (zE2 b)],2⟩)) ?_
 refine x_block ?_
 refine kw0 (⟨[oP 2 0,oP 3 1,(5,pI 0)],[rP 0 13 (zE2 a),rP 1 13 (zE2 b)],2⟩) ?_
 refine x_loop (σ := Int) h (fun s => ⟨[oP 2 0,oP 3 1,(5,pI s)],[rP 0 13 (zE2 a),rP 1 13 (zE2 b)],2⟩) (by kernel_rfl) ?_ ?_
 ·rintro i
  kernel_rfl
 rintro i x9 h hx9
 replace h : ref30_Equal_L9 a b i = some x9 := h
 unfold ref30_Equal_L9 at h
 refine x_seq ?_
 refine x_rg (rg0 [hE,hE,hE,hN (.len (List.length a.Notes : Int)),hE] (⟨[oP 2 0,oP 3 1,(5,pI i),(27,pB (decide (i < (List.length a.Notes : Int))))],[rP 0 13 (zE2 a),rP 1 13 (zE2 b)],2⟩) (kc (lenM PV.str a.Notes) .nil)) ?_
 refine x_if h rfl (fun hc10 h => ?_) (fun hc10 h => ?_)
 ·refine x_kk (x_skip (x_tn (x_seq (x_block ?_))))
  obtain ⟨x11,hx11,h⟩ := bind_some h
  obtain ⟨x12,hx12,h⟩ := bind_some h
  refine x_rg (rg0 [hE,hE,hE,hN (.pAt (.str x11)),hE,hE,hE,hE,hN (.pAt (.str x12)),hE,hE] (⟨[oP 2 0,oP 3 1,(5,pI i),(40,pB (!decide (x11 = x12)))],[rP 0 13 (zE2 a),rP 1 13 (zE2 b)],2⟩) (kc (lsAt_map (f := PV.str) hx11) (kc (lsAt_map (f := PV.str) hx12) .nil))) ?_
  refine x_if h rfl (fun hc13 h => ?_) (fun hc13 h => ?_)
  ·refine x_rg (rgn [hE] (⟨[(4,pB false)],[],0⟩)) ?_
   refine x_toret (x_br (x_tr (x_tr ?_)))
   replace h := done_leaf h hx9
   refine x_br (x_tr ?_)
   obtain rfl := sj h
   exact ret0 (.bool false) (.refl _) (fun _ => rfl)
  refine x_kk (x_skip (x_bn (x_tn ?_)))
  refine x_rgt (rgn [hE,hE,hE] (⟨[oP 2 0,oP 3 1,(5,pI (IntKind.wrap .i64 (i + 1)))],[rP 0 13 (zE2 a),rP 1 13 (zE2 b)],2⟩)) ?_
  refine x_tn ?_
  exact ⟨_,(sj h).symm,by kernel_rfl⟩
 refine kw0 (⟨[oP 2 0,oP 3 1],[rP 0 13 (zE2 a),rP 1 13 (zE2 b)],2⟩) ?_
 refine x_exit ?_
 refine x_te (x_te ?_)
 replace h := done_map h hx9
 refine x_bh ?_
 refine x_tn (x_seq ?_)
 refine x_rg (rgn [hE] (⟨[oP 2 0,oP 3 1,(6,pI 0)],[rP 0 13 (zE2 a),rP 1 13 (zE2 b)],2⟩)) ?_
 refine x_block ?_
 refine kw0 (⟨[oP 2 0,oP 3 1,(6,pI 0)],[rP 0 13 (zE2 a),rP 1 13 (zE2 b)],2⟩) ?_
 refine x_loop (σ := Int) h (fun s => ⟨[oP 2 0,oP 3 1,(6,pI s)],[rP 0 13 (zE2 a),rP 1 13 (zE2 b)],2⟩) (by kernel_rfl) ?_ ?_
 ·rintro i_1
  kernel_rfl
 rintro i_1 x19 h hx19
 replace h : ref30_Equal_L19 a b i_1 = some x19 := h
 unfold ref30_Equal_L19 at h
 refine x_seq ?_
 refine x_rg (rg0 [hE,hE,hE,hN (.len (List.length a.Waits : Int)),hE] (⟨[oP 2 0,oP 3 1,(6,pI i_1),(45,pB (decide (i_1 < (List.length a.Waits : Int))))],[rP 0 13 (zE2 a),rP 1 13 (zE2 b)],2⟩) (kc (lenM zE1 a.Waits) .nil)) ?_
 refine x_if h rfl (fun hc20 h => ?_) (fun hc20 h => ?_)
 ·refine x_kk (x_skip (x_tn (x_seq (x_block ?_))))
  obtain ⟨x21,hx21,h⟩ := bind_some h
  obtain ⟨x22,hx22,h⟩ := bind_some h
  refine x_rg (rg0 [hE,hE,hE,hN (.pAt (zE1 x21)),hE,hE,hE,hE,hN (.pAt (zE1 x22)),hE,hE] (⟨[oP 2 0,oP 3 1,(6,pI i_1),(58,pB (!(decide (x21.Id = x22.Id) && (decide (x21.Status = x22.Status) && true))))],[rP 0 13 (zE2 a),rP 1 13 (zE2 b)],2⟩) (kc (lsAt_map (f := zE1) hx21) (kc (lsAt_map (f := zE1) hx22) .nil))) ?_
  refine x_if h rfl (fun hc23 h => ?_) (fun hc23 h => ?_)
  ·refine x_rg (rgn [hE] (⟨[(4,pB false)],[],0⟩)) ?_
   refine x_toret (x_br (x_tr (x_tr ?_)))
   replace h := done_leaf h hx19
   refine x_br (x_tr ?_)
   obtain rfl := sj h
   exact ret0 (.bool false) (.refl _) (fun _ => rfl)
  refine x_kk (x_skip (x_bn (x_tn ?_)))
  refine x_rgt (rgn [hE,hE,hE] (⟨[oP 2 0,oP 3 1,(6,pI (IntKind.wrap .i64 (i_1 + 1)))],[rP 0 13 (zE2 a),rP 1 13 (zE2 b)],2⟩)) ?_
  refine x_tn ?_
  exact ⟨_,(sj h).symm,by kernel_rfl⟩
 refine kw0 (⟨[oP 2 0,oP 3 1],[rP 0 13 (zE2 a),rP 1 13 (zE2 b)],2⟩) ?_
 refine x_exit ?_
 refine x_te (x_te ?_)
 replace h := done_leaf h hx19
 refine x_bh ?_
 refine x_tn ?_
 refine x_rgB (fun b_ => (⟨[(4,pB b_)],[],0⟩ : VSt)) ((decide (a.Id = b.Id)) && ((decide (a.Parent = b.Parent)) && ((decide (a.State = b.State)) && ((decide (a.User = b.User)) && ((decide (a.Name = b.Name)) && ((decide (a.Ns = b.Ns)) && ((decide (a.Env = b.Env)) && ((decide (a.Fds = b.Fds)) && ((decide (a.Cwd = b.Cwd)) && ((decide (a.Status = b.Status)) && (decide (a.Alone = b.Alone)))))))))))) ?_ ?_
 ·rcases bq (decide (a.Id = b.Id)) with hg24 | hg24
  ·rcases bq (decide (a.Parent = b.Parent)) with hg25 | hg25
   ·rcases bq (decide (a.State = b.State)) with hg26 | hg26
    ·rcases bq (decide (a.User = b.User)) with hg27 | hg27
     ·rcases bq (decide (a.Name = b.Name)) with hg28 | hg28
      ·rcases bq (decide (a.Ns = b.Ns)) with hg29 | hg29
       ·rcases bq (decide (a.Env = b.Env)) with hg30 | hg30
        ·rcases bq (decide (a.Fds = b.Fds)) with hg31 | hg31
         ·rcases bq (decide (a.Cwd = b.Cwd)) with hg32 | hg32
          ·rcases bq (decide (a.Status = b.Status)) with hg33 | hg33
           ·exact rb [hE,hE,hE,hE,hE,hE,hY,hY,hY,hY,hY,hN (.pk true),hE,hY,hY,hY,hY,hY,hN (.pk true),hE,hY,hY,hY,hY,hY,hN (.pk true),hE,hY,hY,hY,hY,hY,hN (.pk true),hE,hY,hY,hY,hY,hY,hN (.pk true),hE,hY,hY,hY,hY,hY,hN (.pk true),hE,hY,hY,hY,hY,hY,hN (.pk true),hE,hY,hY,hY,hY,hY,hN (.pk true),hE,hY,hY,hY,hY,hY,hN (.pk true),hE,hY,hY,hY,hY,hY,hN (.pk true),hE] (decide (a.Alone = b.Alone)) (hk6 hg24 (hk6 hg25 (hk6 hg26 (hk6 hg27 (hk6 hg28 (hk6 hg29 (hk6 hg30 (hk6 hg31 (hk6 hg32 (hk6 hg33 .nil)))))))))) (by simp only [hg24,hg25,hg26,hg27,hg28,hg29,hg30,hg31,hg32,hg33,bs,reduceIte])
           exact rb [hE,hE,hE,hE,hE,hE,hY,hY,hY,hY,hY,hN (.pk true),hE,hY,hY,hY,hY,hY,hN (.pk true),hE,hY,hY,hY,hY,hY,hN (.pk true),hE,hY,hY,hY,hY,hY,hN (.pk true),hE,hY,hY,hY,hY,hY,hN (.pk true),hE,hY,hY,hY,hY,hY,hN (.pk true),hE,hY,hY,hY,hY,hY,hN (.pk true),hE,hY,hY,hY,hY,hY,hN (.pk true),hE,hY,hY,hY,hY,hY,hN (.pk true),hE,hS,hS,hS,hS,hS,hN (.pk false),hE] false (hk6 hg24 (hk6 hg25 (hk6 hg26 (hk6 hg27 (hk6 hg28 (hk6 hg29 (hk6 hg30 (hk6 hg31 (hk6 hg32 (hk6 hg33 .nil)))))))))) (by simp only [hg24,hg25,hg26,hg27,hg28,hg29,hg30,hg31,hg32,hg33,bs,reduceIte])
          exact rb [hE,hE,hE,hE,hE,hE,hY,hY,hY,hY,hY,hN (.pk true),hE,hY,hY,hY,hY,hY,hN (.pk true),hE,hY,hY,hY,hY,hY,hN (.pk true),hE,hY,hY,hY,hY,hY,hN (.pk true),hE,hY,hY,hY,hY,hY,hN (.pk true),hE,hY,hY,hY,hY,hY,hN (.pk true),hE,hY,hY,hY,hY,hY,hN (.pk true),hE,hY,hY,hY,hY,hY,hN (.pk true),hE,hS,hS,hS,hS,hS,hN (.pk false),hE,hS,hS,hS,hS,hS,hE,hE] false (hk6 hg24 (hk6 hg25 (hk6 hg26 (hk6 hg27 (hk6 hg28 (hk6 hg29 (hk6 hg30 (hk6 hg31 (hk6 hg32 (hk5 ff .nil)))))))))) (by simp only [hg24,hg25,hg26,hg27,hg28,hg29,hg30,hg31,hg32,bs,reduceIte])
         exact rb [hE,hE,hE,hE,hE,hE,hY,hY,hY,hY,hY,hN (.pk true),hE,hY,hY,hY,hY,hY,hN (.pk true),hE,hY,hY,hY,hY,hY,hN (.pk true),hE,hY,hY,hY,hY,hY,hN (.pk true),hE,hY,hY,hY,hY,hY,hN (.pk true),hE,hY,hY,hY,hY,hY,hN (.pk true),hE,hY,hY,hY,hY,hY,hN (.pk true),hE,hS,hS,hS,hS,hS,hN (.pk false),hE,hS,hS,hS,hS,hS,hE,hE,hS,hS,hS,hS,hS,hE,hE] false (hk6 hg24 (hk6 hg25 (hk6 hg26 (hk6 hg27 (hk6 hg28 (hk6 hg29 (hk6 hg30 (hk6 hg31 (hk2 ff (hk8 ff .nil)))))))))) (by simp only [hg24,hg25,hg26,hg27,hg28,hg29,hg30,hg31,bs,reduceIte])
        exact rb [hE,hE,hE,hE,hE,hE,hY,hY,hY,hY,hY,hN (.pk true),hE,hY,hY,hY,hY,hY,hN (.pk true),hE,hY,hY,hY,hY,hY,hN (.pk true),hE,hY,hY,hY,hY,hY,hN (.pk true),hE,hY,hY,hY,hY,hY,hN (.pk true),hE,hY,hY,hY,hY,hY,hN (.pk true),hE,hS,hS,hS,hS,hS,hN (.pk false),hE,hS,hS,hS,hS,hS,hE,hE,hS,hS,hS,hS,hS,hE,hE,hS,hS,hS,hS,hS,hE,hE] false (hk6 hg24 (hk6 hg25 (hk6 hg26 (hk6 hg27 (hk6 hg28 (hk6 hg29 (hk6 hg30 (kc ff (hk6 ff (hk8 ff .nil)))))))))) (by simp only [hg24,hg25,hg26,hg27,hg28,hg29,hg30,bs,reduceIte])
       exact rb [hE,hE,hE,hE,hE,hE,hY,hY,hY,hY,hY,hN (.pk true),hE,hY,hY,hY,hY,hY,hN (.pk true),hE,hY,hY,hY,hY,hY,hN (.pk true),hE,hY,hY,hY,hY,hY,hN (.pk true),hE,hY,hY,hY,hY,hY,hN (.pk true),hE,hS,hS,hS,hS,hS,hN (.pk false),hE,hS,hS,hS,hS,hS,hE,hE,hS,hS,hS,hS,hS,hE,hE,hS,hS,hS,hS,hS,hE,hE,hS,hS,hS,hS,hS,hE,hE] false (hk6 hg24 (hk6 hg25 (hk6 hg26 (hk6 hg27 (hk6 hg28 (hk6 hg29 (hk4 ff (hk8 ff (hk8 ff .nil))))))))) (by simp only [hg24,hg25,hg26,hg27,hg28,hg29,bs,reduceIte])
      exact rb [hE,hE,hE,hE,hE,hE,hY,hY,hY,hY,hY,hN (.pk true),hE,hY,hY,hY,hY,hY,hN (.pk true),hE,hY,hY,hY,hY,hY,hN (.pk true),hE,hY,hY,hY,hY,hY,hN (.pk true),hE,hS,hS,hS,hS,hS,hN (.pk false),hE,hS,hS,hS,hS,hS,hE,hE,hS,hS,hS,hS,hS,hE,hE,hS,hS,hS,hS,hS,hE,hE,hS,hS,hS,hS,hS,hE,hE,hS,hS,hS,hS,hS,hE,hE] false (hk6 hg24 (hk6 hg25 (hk6 hg26 (hk6 hg27 (hk6 hg28 (kc ff (hk8 ff (hk8 ff (hk8 ff .nil))))))))) (by simp only [hg24,hg25,hg26,hg27,hg28,bs,reduceIte])
     exact rb [hE,hE,hE,hE,hE,hE,hY,hY,hY,hY,hY,hN (.pk true),hE,hY,hY,hY,hY,hY,hN (.pk true),hE,hY,hY,hY,hY,hY,hN (.pk true),hE,hS,hS,hS,hS,hS,hN (.pk false),hE,hS,hS,hS,hS,hS,hE,hE,hS,hS,hS,hS,hS,hE,hE,hS,hS,hS,hS,hS,hE,hE,hS,hS,hS,hS,hS,hE,hE,hS,hS,hS,hS,hS,hE,hE,hS,hS,hS,hS,hS,hE,hE] false (hk6 hg24 (hk6 hg25 (hk6 hg26 (hk6 hg27 (hk6 ff (hk8 ff (hk8 ff (hk8 ff .nil)))))))) (by simp only [hg24,hg25,hg26,hg27,bs,reduceIte])
    exact rb [hE,hE,hE,hE,hE,hE,hY,hY,hY,hY,hY,hN (.pk true),hE,hY,hY,hY,hY,hY,hN (.pk true),hE,hS,hS,hS,hS,hS,hN (.pk false),hE,hS,hS,hS,hS,hS,hE,hE,hS,hS,hS,hS,hS,hE,hE,hS,hS,hS,hS,hS,hE,hE,hS,hS,hS,hS,hS,hE,hE,hS,hS,hS,hS,hS,hE,hE,hS,hS,hS,hS,hS,hE,hE,hS,hS,hS,hS,hS,hE,hE] false (hk6 hg24 (hk6 hg25 (hk6 hg26 (hk3 ff (hk8 ff (hk8 ff (hk8 ff (hk8 ff .nil)))))))) (by simp only [hg24,hg25,hg26,bs,reduceIte])
   exact rb [hE,hE,hE,hE,hE,hE,hY,hY,hY,hY,hY,hN (.pk true),hE,hS,hS,hS,hS,hS,hN (.pk false),hE,hS,hS,hS,hS,hS,hE,hE,hS,hS,hS,hS,hS,hE,hE,hS,hS,hS,hS,hS,hE,hE,hS,hS,hS,hS,hS,hE,hE,hS,hS,hS,hS,hS,hE,hE,hS,hS,hS,hS,hS,hE,hE,hS,hS,hS,hS,hS,hE,hE,hS,hS,hS,hS,hS,hE,hE] false (hk6 hg24 (hk6 hg25 (hk8 ff (hk8 ff (hk8 ff (hk8 ff (hk8 ff .nil))))))) (by simp only [hg24,hg25,bs,reduceIte])
  exact rb [hE,hE,hE,hE,hE,hE,hS,hS,hS,hS,hS,hN (.pk false),hE,hS,hS,hS,hS,hS,hE,hE,hS,hS,hS,hS,hS,hE,hE,hS,hS,hS,hS,hS,hE,hE,hS,hS,hS,hS,hS,hE,hE,hS,hS,hS,hS,hS,hE,hE,hS,hS,hS,hS,hS,hE,hE,hS,hS,hS,hS,hS,hE,hE,hS,hS,hS,hS,hS,hE,hE,hS,hS,hS,hS,hS,hE,hE] false (hk6 hg24 (hk5 ff (hk8 ff (hk8 ff (hk8 ff (hk8 ff (hk8 ff .nil))))))) (by simp only [hg24,bs,reduceIte])
 refine x_toret ?_
 obtain rfl := sj h
 exact ret0 (.bool ((decide (a.Id = b.Id)) && ((decide (a.Parent = b.Parent)) && ((decide (a.State = b.State)) && ((decide (a.User = b.User)) && ((decide (a.Name = b.Name)) && ((decide (a.Ns = b.Ns)) && ((decide (a.Env = b.Env)) && ((decide (a.Fds = b.Fds)) && ((decide (a.Cwd = b.Cwd)) && ((decide (a.Status = b.Status)) && (decide (a.Alone = b.Alone))))))))))))) (.refl _) (fun _ => rfl)
theorem c11 {a : api_Procs} {b : api_Procs} {r : Bool} (h : ref30_Same a b = some r) : CallOK Tryd.prog 11 [zE3 a,zE3 b] (.bool r) true := by
 apply ok11
 unfold ref30_Same at h
 refine x_rg (rgn [hE,hE,hE] (⟨[oP 2 0,oP 3 1],[rP 0 3 (zE3 a),rP 1 3 (zE3 b)],2⟩)) ?_
 refine x_seq ?_
 refine x_rgB (fun b_ => (⟨[oP 2 0,oP 3 1,(26,pB b_)],[rP 0 3 (zE3 a),rP 1 3 (zE3 b)],2⟩ : VSt)) ((!decide (a.Next = b.Next)) || ((!decide (a.Group = b.Group)) || (!decide ((List.length a.L : Int) = (List.length b.L : Int))))) ?_ ?_
 ·rcases bq (!decide (a.Next = b.Next)) with hg1 | hg1
  ·exact rb [hE,hE,hE,hE,hE,hE,hS,hS,hS,hS,hS,hN (.pk true),hE,hS,hS,hS,hS,hS,hS,hS,hE] true (hk6 hg1 (kc tt (hk6 tt .nil))) (by simp only [hg1,bs,reduceIte])
  rcases bq (!decide (a.Group = b.Group)) with hg2 | hg2
  ·exact rb [hE,hE,hE,hE,hE,hE,hY,hY,hY,hY,hY,hN (.pk false),hE,hS,hS,hS,hS,hS,hS,hS,hN (.pk true)] true (hk6 hg1 (hk8 hg2 .nil)) (by simp only [hg1,hg2,bs,reduceIte])
  exact rb [hE,hE,hE,hE,hE,hE,hY,hY,hY,hY,hY,hN (.pk false),hE,hY,hY,(.y,(.len (List.length a.L : Int))),hY,hY,(.y,(.len (List.length b.L : Int))),hY,hN (.pk false)] (!decide ((List.length a.L : Int) = (List.length b.L : Int))) (hk6 hg1 (hk3 hg2 (kc (lenM zE2 a.L) (hk3 hg2 (kc (lenM zE2 b.L) (hk2 hg2 .nil)))))) (by simp only [hg1,hg2,bs,reduceIte])
 refine x_if h rfl (fun hc4 h => ?_) (fun hc4 h => ?_)
 ·refine x_rg (rgn [hE] (⟨[(4,pB false)],[],0⟩)) ?_
  refine x_toret (x_tr ?_)
  obtain rfl := sj h
  exact ret0 (.bool false) (.refl _) (fun _ => rfl)
 refine x_kk (x_skip (x_tn (x_seq ?_)))
 refine x_rg (rgn [hE] (⟨[oP 2 0,oP 3 1,(5,pI 0)],[rP 0 3 (zE3 a),rP 1 3 (zE3 b)],2⟩)) ?_
 refine x_block ?_
 refine kw0 (⟨[oP 2 0,oP 3 1,(5,pI 0)],[rP 0 3 (zE3 a),rP 1 3 (zE3 b)],2⟩) ?_
 refine x_loop (σ := Int) h (fun s => ⟨[oP 2 0,oP 3 1,(5,pI s)],[rP 0 3 (zE3 a),rP 1 3 (zE3 b)],2⟩) (by kernel_rfl) ?_ ?_
 ·rintro i
  kernel_rfl
 rintro i x11 h hx11
 replace h : ref30_Same_L11 a b i = some x11 := h
 unfold ref30_Same_L11 at h
 refine x_seq ?_
 refine x_rg (rg0 [hE,hE,hE,hN (.len (List.length a.L : Int)),hE] (⟨[oP 2 0,oP 3 1,(5,pI i),(31,pB (decide (i < (List.length a.L : Int))))],[rP 0 3 (zE3 a),rP 1 3 (zE3 b)],2⟩) (kc (lenM zE2 a.L) .nil)) ?_
 refine x_if h rfl (fun hc12 h => ?_) (fun hc12 h => ?_)
 ·refine x_kk (x_skip (x_tn (x_seq (x_block ?_))))
  obtain ⟨x13,hx13,h⟩ := bind_some h
  obtain ⟨x14,hx14,h⟩ := bind_some h
  obtain ⟨x15,hx15,h⟩ := bind_some h
  refine x_rg (rg0 [hE,hE,hE,hN (.pAt (zE2 x13)),hE,hE,hE,hE,hN (.pAt (zE2 x14)),hE,hN (.cal [] (.bool x15) true),hE] (⟨[oP 2 0,oP 3 1,(5,pI i),(45,pB (!x15))],[rP 0 3 (zE3 a),rP 1 3 (zE3 b)],2⟩) (kc (lsAt_map (f := zE2) hx13) (kc (lsAt_map (f := zE2) hx14) (kc (c17 hx15) .nil)))) ?_
  refine x_if h rfl (fun hc16 h => ?_) (fun hc16 h => ?_)
  ·refine x_rg (rgn [hE] (⟨[(4,pB false)],[],0⟩)) ?_
   refine x_toret (x_br (x_tr (x_tr ?_)))
   replace h := done_leaf h hx11
   refine x_br (x_tr ?_)
   obtain rfl := sj h
   exact ret0 (.bool false) (.refl _) (fun _ => rfl)
  refine x_kk (x_skip (x_bn (x_tn ?_)))
  refine x_rgt (rgn [hE,hE,hE] (⟨[oP 2 0,oP 3 1,(5,pI (IntKind.wrap .i64 (i + 1)))],[rP 0 3 (zE3 a),rP 1 3 (zE3 b)],2⟩)) ?_
  refine x_tn ?_
  exact ⟨_,(sj h).symm,by kernel_rfl⟩
 refine kw0 (⟨[],[],0⟩) ?_
 refine x_exit ?_
 refine x_te (x_te ?_)
 replace h := done_leaf h hx11
 refine x_bh ?_
 refine x_tn ?_
 refine x_rg (rgn [hE] (⟨[(4,pB true)],[],0⟩)) ?_
 refine x_toret ?_
 obtain rfl := sj h
 exact ret0 (.bool true) (.refl _) (fun _ => rfl)
theorem c12 {p : api_Procs} {r : Bool} (h : law30_small p = some r) : CallOK Tryd.prog 12 [zE3 p] (.bool r) true := by
 apply ok12
 unfold law30_small at h
 refine x_rg (rgn [hE,hE] (⟨[oP 1 0],[rP 0 3 (zE3 p)],1⟩)) ?_
 refine x_seq ?_
 refine x_rg (rg0 [hE,hE,hN (.len (List.length p.L : Int)),hE] (⟨[oP 1 0,(10,pB (decide (70 < (List.length p.L : Int))))],[rP 0 3 (zE3 p)],1⟩) (kc (lenM zE2 p.L) .nil)) ?_
 refine x_if h rfl (fun hc1 h => ?_) (fun hc1 h => ?_)
 ·refine x_rg (rgn [hE] (⟨[(2,pB false)],[],0⟩)) ?_
  refine x_toret (x_tr ?_)
  obtain rfl := sj h
  exact ret0 (.bool false) (.refl _) (fun _ => rfl)
 refine x_kk (x_skip (x_tn (x_seq ?_)))
 refine x_rg (rg0 [hE,hE,hN (.len (List.length p.L : Int)),hE] (⟨[oP 1 0,(13,pI (List.length p.L : Int)),(14,pI 0)],[rP 0 3 (zE3 p)],1⟩) (kc (lenM zE2 p.L) .nil)) ?_
 refine x_block ?_
 refine kw0 (⟨[oP 1 0,(13,pI (List.length p.L : Int)),(14,pI 0)],[rP 0 3 (zE3 p)],1⟩) ?_
 refine x_loop (σ := Int) h (fun s => ⟨[oP 1 0,(13,pI (List.length p.L : Int)),(14,pI s)],[rP 0 3 (zE3 p)],1⟩) (by kernel_rfl) ?_ ?_
 ·rintro v27
  kernel_rfl
 rintro v27 x28 h hx28
 replace h : law30_small_L28 p v27 = some x28 := h
 unfold law30_small_L28 at h
 refine x_rg (rgn [hE] (⟨[oP 1 0,(13,pI (List.length p.L : Int)),(14,pI v27),(15,pB (decide (v27 < (List.length p.L : Int))))],[rP 0 3 (zE3 p)],1⟩)) ?_
 refine x_seq ?_
 refine x_if h rfl (fun hc29 h => ?_) (fun hc29 h => ?_)
 ·refine x_kk (x_skip (x_tn (x_seq (x_block ?_))))
  refine x_rg (rgn [hE,hE] (⟨[oP 1 0,(3,pI v27),(13,pI (List.length p.L : Int)),(14,pI v27)],[rP 0 3 (zE3 p)],1⟩)) ?_
  obtain ⟨x30,hx30,h⟩ := bind_some h
  refine x_rg (rg0 [hE,hE,hE,hN (.pAt (zE2 x30)),hE,hE,hE] (⟨[oP 1 0,oP 4 1,(13,pI (List.length p.L : Int)),(14,pI v27)],[rP 0 3 (zE3 p),rP 1 13 (zE2 x30)],2⟩) (kc (lsAt_map (f := zE2) hx30) .nil)) ?_
  refine x_seq ?_
  refine x_rgB (fun b_ => (⟨[oP 1 0,oP 4 1,(13,pI (List.length p.L : Int)),(14,pI v27),(55,pB b_)],[rP 0 3 (zE3 p),rP 1 13 (zE2 x30)],2⟩ : VSt)) ((decide (100 < (List.length x30.Notes : Int))) || ((decide (100 < (List.length x30.Waits : Int))) || ((decide (1100 < (List.length x30.User : Int))) || ((decide (1100 < (List.length x30.Name : Int))) || ((decide (1100 < (List.length x30.Cwd : Int))) || (decide (1100 < (List.length x30.Status : Int)))))))) ?_ ?_
  ·rcases bq (decide (100 < (List.length x30.Notes : Int))) with hg31 | hg31
   ·exact rb [hE,hE,hN (.len (List.length x30.Notes : Int)),hE,hE,hS,hS,hS,hS,hN (.pk true),hE,hS,hS,hS,hS,hE,hE,hS,hS,hS,hS,hE,hE,hS,hS,hS,hS,hE,hE,hS,hS,hS,hS,hE] true (kc (lenM PV.str x30.Notes) (hk5 hg31 (hk8 tt (hk8 tt .nil)))) (by simp only [hg31,bs,reduceIte])
   rcases bq (decide (100 < (List.length x30.Waits : Int))) with hg32 | hg32
   ·exact rb [hE,hE,hN (.len (List.length x30.Notes : Int)),hE,hE,hY,hY,(.y,(.len (List.length x30.Waits : Int))),hY,hN (.pk false),hE,hS,hS,hS,hS,hN (.pk true),hE,hS,hS,hS,hS,hE,hE,hS,hS,hS,hS,hE,hE,hS,hS,hS,hS,hE] true (kc (lenM PV.str x30.Notes) (hk3 hg31 (kc (lenM zE1 x30.Waits) (hk2 hg31 (hk5 hg32 (hk4 tt (hk8 tt .nil))))))) (by simp only [hg31,hg32,bs,reduceIte])
   rcases bq (decide (1100 < (List.length x30.User : Int))) with hg33 | hg33
   ·exact rb [hE,hE,hN (.len (List.length x30.Notes : Int)),hE,hE,hY,hY,(.y,(.len (List.length x30.Waits : Int))),hY,hN (.pk false),hE,hY,hY,hY,hY,hN (.pk false),hE,hS,hS,hS,hS,hN (.pk true),hE,hS,hS,hS,hS,hE,hE,hS,hS,hS,hS,hE] true (kc (lenM PV.str x30.Notes) (hk3 hg31 (kc (lenM zE1 x30.Waits) (hk2 hg31 (hk5 hg32 (hk5 hg33 (hk8 tt .nil))))))) (by simp only [hg31,hg32,hg33,bs,reduceIte])
   rcases bq (decide (1100 < (List.length x30.Name : Int))) with hg34 | hg34
   ·exact rb [hE,hE,hN (.len (List.length x30.Notes : Int)),hE,hE,hY,hY,(.y,(.len (List.length x30.Waits : Int))),hY,hN (.pk false),hE,hY,hY,hY,hY,hN (.pk false),hE,hY,hY,hY,hY,hN (.pk false),hE,hS,hS,hS,hS,hN (.pk true),hE,hS,hS,hS,hS,hE] true (kc (lenM PV.str x30.Notes) (hk3 hg31 (kc (lenM zE1 x30.Waits) (hk2 hg31 (hk5 hg32 (hk5 hg33 (hk5 hg34 (hk4 tt .nil)))))))) (by simp only [hg31,hg32,hg33,hg34,bs,reduceIte])
   rcases bq (decide (1100 < (List.length x30.Cwd : Int))) with hg35 | hg35
   ·exact rb [hE,hE,hN (.len (List.length x30.Notes : Int)),hE,hE,hY,hY,(.y,(.len (List.length x30.Waits : Int))),hY,hN (.pk false),hE,hY,hY,hY,hY,hN (.pk false),hE,hY,hY,hY,hY,hN (.pk false),hE,hY,hY,hY,hY,hN (.pk false),hE,hS,hS,hS,hS,hN (.pk true)] true (kc (lenM PV.str x30.Notes) (hk3 hg31 (kc (lenM zE1 x30.Waits) (hk2 hg31 (hk5 hg32 (hk5 hg33 (hk5 hg34 (hk5 hg35 .nil)))))))) (by simp only [hg31,hg32,hg33,hg34,hg35,bs,reduceIte])
   exact rb [hE,hE,hN (.len (List.length x30.Notes : Int)),hE,hE,hY,hY,(.y,(.len (List.length x30.Waits : Int))),hY,hN (.pk false),hE,hY,hY,hY,hY,hN (.pk false),hE,hY,hY,hY,hY,hN (.pk false),hE,hY,hY,hY,hY,hN (.pk false),hE,hY,hY,hY,hY,hN (.pk false)] (decide (1100 < (List.length x30.Status : Int))) (kc (lenM PV.str x30.Notes) (hk3 hg31 (kc (lenM zE1 x30.Waits) (hk2 hg31 (hk5 hg32 (hk5 hg33 (hk5 hg34 (hk5 hg35 .nil)))))))) (by simp only [hg31,hg32,hg33,hg34,hg35,bs,reduceIte])
  refine x_if h rfl (fun hc37 h => ?_) (fun hc37 h => ?_)
  ·refine x_rg (rgn [hE] (⟨[(2,pB false)],[],0⟩)) ?_
   refine x_toret (x_tr (x_br (x_tr (x_tr ?_))))
   replace h := done_leaf h hx28
   refine x_br (x_tr ?_)
   obtain rfl := sj h
   exact ret0 (.bool false) (.refl _) (fun _ => rfl)
  refine x_kk (x_skip (x_tn (x_seq ?_)))
  refine x_rg (rg0 [hE,hE,hN (.len (List.length x30.Notes : Int)),hE] (⟨[oP 1 0,oP 4 1,(13,pI (List.length p.L : Int)),(14,pI v27),(58,pI (List.length x30.Notes : Int)),(59,pI 0)],[rP 0 3 (zE3 p),rP 1 13 (zE2 x30)],2⟩) (kc (lenM PV.str x30.Notes) .nil)) ?_
  refine x_block ?_
  refine kw0 (⟨[oP 1 0,oP 4 1,(13,pI (List.length p.L : Int)),(14,pI v27),(58,pI (List.length x30.Notes : Int)),(59,pI 0)],[rP 0 3 (zE3 p),rP 1 13 (zE2 x30)],2⟩) ?_
  refine x_loop (σ := Int) h (fun s => ⟨[oP 1 0,oP 4 1,(13,pI (List.length p.L : Int)),(14,pI v27),(58,pI (List.length x30.Notes : Int)),(59,pI s)],[rP 0 3 (zE3 p),rP 1 13 (zE2 x30)],2⟩) (by kernel_rfl) ?_ ?_
  ·rintro v41
   kernel_rfl
  rintro v41 x42 h hx42
  replace h : law30_small_L42 v27 x30 v41 = some x42 := h
  unfold law30_small_L42 at h
  refine x_rg (rgn [hE] (⟨[oP 1 0,oP 4 1,(13,pI (List.length p.L : Int)),(14,pI v27),(58,pI (List.length x30.Notes : Int)),(59,pI v41),(60,pB (decide (v41 < (List.length x30.Notes : Int))))],[rP 0 3 (zE3 p),rP 1 13 (zE2 x30)],2⟩)) ?_
  refine x_seq ?_
  refine x_if h rfl (fun hc43 h => ?_) (fun hc43 h => ?_)
  ·refine x_kk (x_skip (x_tn (x_seq (x_block ?_))))
   refine x_rg (rgn [hE,hE] (⟨[oP 1 0,oP 4 1,(5,pI v41),(13,pI (List.length p.L : Int)),(14,pI v27),(58,pI (List.length x30.Notes : Int)),(59,pI v41)],[rP 0 3 (zE3 p),rP 1 13 (zE2 x30)],2⟩)) ?_
   obtain ⟨x44,hx44,h⟩ := bind_some h
   refine x_rg (rg0 [hE,hE,hE,hN (.pAt (.str x44)),hE,hE,hE] (⟨[oP 1 0,oP 4 1,(13,pI (List.length p.L : Int)),(14,pI v27),(58,pI (List.length x30.Notes : Int)),(59,pI v41),(68,pB (decide (1100 < (List.length x44 : Int))))],[rP 0 3 (zE3 p),rP 1 13 (zE2 x30)],2⟩) (kc (lsAt_map (f := PV.str) hx44) .nil)) ?_
   refine x_if h rfl (fun hc45 h => ?_) (fun hc45 h => ?_)
   ·refine x_rg (rgn [hE] (⟨[(2,pB false)],[],0⟩)) ?_
    refine x_toret (x_br (x_tr (x_tr ?_)))
    replace h := done_leaf h hx42
    refine x_br (x_tr (x_br (x_tr (x_tr ?_))))
    replace h := done_leaf h hx28
    refine x_br (x_tr ?_)
    obtain rfl := sj h
    exact ret0 (.bool false) (.refl _) (fun _ => rfl)
   refine x_kk (x_skip (x_bn (x_tn ?_)))
   refine x_rgt (rgn [hE,hE] (⟨[oP 1 0,oP 4 1,(13,pI (List.length p.L : Int)),(14,pI v27),(58,pI (List.length x30.Notes : Int)),(59,pI (IntKind.wrap .i64 (v41 + 1)))],[rP 0 3 (zE3 p),rP 1 13 (zE2 x30)],2⟩)) ?_
   refine x_tn ?_
   exact ⟨_,(sj h).symm,by kernel_rfl⟩
  refine kw0 (⟨[oP 1 0,oP 4 1,(13,pI (List.length p.L : Int)),(14,pI v27)],[rP 0 3 (zE3 p),rP 1 13 (zE2 x30)],2⟩) ?_
  refine x_exit ?_
  refine x_te (x_te ?_)
  replace h := done_map h hx42
  refine x_bh ?_
  refine x_tn ?_
  refine x_rg (rg0 [hE,hE,hN (.len (List.length x30.Waits : Int)),hE] (⟨[oP 1 0,oP 4 1,(13,pI (List.length p.L : Int)),(14,pI v27),(72,pI (List.length x30.Waits : Int)),(73,pI 0)],[rP 0 3 (zE3 p),rP 1 13 (zE2 x30)],2⟩) (kc (lenM zE1 x30.Waits) .nil)) ?_
  refine x_block ?_
  refine kw0 (⟨[oP 1 0,oP 4 1,(13,pI (List.length p.L : Int)),(14,pI v27),(72,pI (List.length x30.Waits : Int)),(73,pI 0)],[rP 0 3 (zE3 p),rP 1 13 (zE2 x30)],2⟩) ?_
  refine x_loop (σ := Int) h (fun s => ⟨[oP 1 0,oP 4 1,(13,pI (List.length p.L : Int)),(14,pI v27),(72,pI (List.length x30.Waits : Int)),(73,pI s)],[rP 0 3 (zE3 p),rP 1 13 (zE2 x30)],2⟩) (by kernel_rfl) ?_ ?_
  ·rintro v49
   kernel_rfl
  rintro v49 x50 h hx50
  replace h : law30_small_L50 v27 x30 v49 = some x50 := h
  unfold law30_small_L50 at h
  refine x_rg (rgn [hE] (⟨[oP 1 0,oP 4 1,(13,pI (List.length p.L : Int)),(14,pI v27),(72,pI (List.length x30.Waits : Int)),(73,pI v49),(74,pB (decide (v49 < (List.length x30.Waits : Int))))],[rP 0 3 (zE3 p),rP 1 13 (zE2 x30)],2⟩)) ?_
  refine x_seq ?_
  refine x_if h rfl (fun hc51 h => ?_) (fun hc51 h => ?_)
  ·refine x_kk (x_skip (x_tn (x_seq (x_block ?_))))
   refine x_rg (rgn [hE,hE] (⟨[oP 1 0,oP 4 1,(6,pI v49),(13,pI (List.length p.L : Int)),(14,pI v27),(72,pI (List.length x30.Waits : Int)),(73,pI v49)],[rP 0 3 (zE3 p),rP 1 13 (zE2 x30)],2⟩)) ?_
   obtain ⟨x52,hx52,h⟩ := bind_some h
   refine x_rg (rg0 [hE,hE,hE,hN (.pAt (zE1 x52)),hE,hE,hE,hE] (⟨[oP 1 0,oP 4 1,(13,pI (List.length p.L : Int)),(14,pI v27),(72,pI (List.length x30.Waits : Int)),(73,pI v49),(83,pB (decide (1100 < (List.length x52.Status : Int))))],[rP 0 3 (zE3 p),rP 1 13 (zE2 x30)],2⟩) (kc (lsAt_map (f := zE1) hx52) .nil)) ?_
   refine x_if h rfl (fun hc53 h => ?_) (fun hc53 h => ?_)
   ·refine x_rg (rgn [hE] (⟨[(2,pB false)],[],0⟩)) ?_
    refine x_toret (x_br (x_tr (x_tr ?_)))
    replace h := done_leaf h hx50
    refine x_br (x_br (x_tr (x_tr ?_)))
    replace h := done_leaf h hx28
    refine x_br (x_tr ?_)
    obtain rfl := sj h
    exact ret0 (.bool false) (.refl _) (fun _ => rfl)
   refine x_kk (x_skip (x_bn (x_tn ?_)))
   refine x_rgt (rgn [hE,hE] (⟨[oP 1 0,oP 4 1,(13,pI (List.length p.L : Int)),(14,pI v27),(72,pI (List.length x30.Waits : Int)),(73,pI (IntKind.wrap .i64 (v49 + 1)))],[rP 0 3 (zE3 p),rP 1 13 (zE2 x30)],2⟩)) ?_
   refine x_tn ?_
   exact ⟨_,(sj h).symm,by kernel_rfl⟩
  refine kw0 (⟨[oP 1 0,(13,pI (List.length p.L : Int)),(14,pI v27)],[rP 0 3 (zE3 p)],1⟩) ?_
  refine x_exit ?_
  refine x_te (x_te ?_)
  replace h := done_leaf h hx50
  refine x_bh ?_
  refine x_bn (x_tn ?_)
  refine x_rgt (rgn [hE,hE] (⟨[oP 1 0,(13,pI (List.length p.L : Int)),(14,pI (IntKind.wrap .i64 (v27 + 1)))],[rP 0 3 (zE3 p)],1⟩)) ?_
  refine x_tn ?_
  exact ⟨_,(sj h).symm,by kernel_rfl⟩
 refine kw0 (⟨[],[],0⟩) ?_
 refine x_exit ?_
 refine x_te (x_te ?_)
 replace h := done_leaf h hx28
 refine x_bh ?_
 refine x_tn ?_
 refine x_rg (rgn [hE] (⟨[(2,pB true)],[],0⟩)) ?_
 refine x_toret ?_
 obtain rfl := sj h
 exact ret0 (.bool true) (.refl _) (fun _ => rfl)
theorem c27 {p : api_Procs} {id : Int} {r : Int} (h : ref30_index p id = some r) : CallOK Tryd.prog 27 [zE3 p,.int .i64 id] (.int .i64 r) true := by
 apply ok27
 unfold ref30_index at h
 refine x_rg (rgn [hE,hE] (⟨[(1,pI id),oP 2 0],[rP 0 3 (zE3 p)],1⟩)) ?_
 refine x_seq ?_
 refine x_rg (rgn [hE] (⟨[(1,pI id),oP 2 0,(5,pI 0)],[rP 0 3 (zE3 p)],1⟩)) ?_
 refine x_block ?_
 refine kw0 (⟨[(1,pI id),oP 2 0,(5,pI 0)],[rP 0 3 (zE3 p)],1⟩) ?_
 refine x_loop (σ := Int) h (fun s => ⟨[(1,pI id),oP 2 0,(5,pI s)],[rP 0 3 (zE3 p)],1⟩) (by kernel_rfl) ?_ ?_
 ·rintro i
  kernel_rfl
 rintro i x5 h hx5
 replace h : ref30_index_L5 p id i = some x5 := h
 unfold ref30_index_L5 at h
 refine x_seq ?_
 refine x_rg (rg0 [hE,hE,hE,hN (.len (List.length p.L : Int)),hE] (⟨[(1,pI id),oP 2 0,(5,pI i),(10,pB (decide (i < (List.length p.L : Int))))],[rP 0 3 (zE3 p)],1⟩) (kc (lenM zE2 p.L) .nil)) ?_
 refine x_if h rfl (fun hc6 h => ?_) (fun hc6 h => ?_)
 ·refine x_kk (x_skip (x_tn (x_seq (x_block ?_))))
  obtain ⟨x7,hx7,h⟩ := bind_some h
  refine x_rg (rg0 [hE,hE,hE,hN (.pAt (zE2 x7)),hE,hE,hE,hE] (⟨[(1,pI id),oP 2 0,(5,pI i),(20,pB (decide (x7.Id = id)))],[rP 0 3 (zE3 p)],1⟩) (kc (lsAt_map (f := zE2) hx7) .nil)) ?_
  refine x_if h rfl (fun hc8 h => ?_) (fun hc8 h => ?_)
  ·refine x_rg (rgn [hE,hE] (⟨[(4,pI i)],[],0⟩)) ?_
   refine x_toret (x_br (x_tr (x_tr ?_)))
   replace h := done_leaf h hx5
   refine x_br (x_tr ?_)
   obtain rfl := sj h
   exact ret0 (.int .i64 i) (.refl _) (fun _ => rfl)
  refine x_kk (x_skip (x_bn (x_tn ?_)))
  refine x_rgt (rgn [hE,hE,hE] (⟨[(1,pI id),oP 2 0,(5,pI (IntKind.wrap .i64 (i + 1)))],[rP 0 3 (zE3 p)],1⟩)) ?_
  refine x_tn ?_
  exact ⟨_,(sj h).symm,by kernel_rfl⟩
 refine kw0 (⟨[],[],0⟩) ?_
 refine x_exit ?_
 refine x_te (x_te ?_)
 replace h := done_leaf h hx5
 refine x_bh ?_
 refine x_tn ?_
 refine x_rg (rgn [hE] (⟨[(4,pI (-1))],[],0⟩)) ?_
 refine x_toret ?_
 obtain rfl := sj h
 exact ret0 (.int .i64 (-1)) (.refl _) (fun _ => rfl)
theorem c14 {p : api_Procs} {id : Int} {r : (api_Proc × Bool)} (h : ref30_Find p id = some r) : CallOK Tryd.prog 14 [zE3 p,.int .i64 id] (.tup [zE2 r.1,.bool r.2]) false := by
 apply ok14
 unfold ref30_Find at h
 refine x_rg (st2 := { tm := [(1,.pv (.int .i64 id)),oP 2 0,oP 4 1],hp := [rP 0 3 (zE3 p),rP 1 13 (.agg [.int .i64 0,.int .i64 0,.int .i64 0,.str [],.str [],.int .i64 0,.int .i64 0,.int .i64 0,.str [],.sl none (List.map PV.str ([] : List Str)),.str [],.sl (some 2) (List.map zE1 ([] : List api_Wait)),.bool false])],nx := 2 }) (rg [hE,hE,hE] ({ tm := [(1,.pv (.int .i64 id)),oP 2 0,oP 4 1],hp := [rP 0 3 (zE3 p),rP 1 13 gA4],nx := 2 }) .nil (((Sub.keep (ks := [1,2,4]) (st := ⟨[(1,.pv (.int .i64 id)),oP 2 0,oP 4 1],rP 1 13 (.agg [.int .i64 0,.int .i64 0,.int .i64 0,.str [],.str [],.int .i64 0,.int .i64 0,.int .i64 0,.str [],.sl none (List.map PV.str ([] : List Str)),.str [],.sl (some 2) (List.map zE1 ([] : List api_Wait)),.bool false]) :: [rP 0 3 (zE3 p),rP 1 13 gA13],2⟩) (st' := { tm := [(1,.pv (.int .i64 id)),oP 2 0,oP 4 1],hp := [rP 0 3 (zE3 p),rP 1 13 (.agg [.int .i64 0,.int .i64 0,.int .i64 0,.str [],.str [],.int .i64 0,.int .i64 0,.int .i64 0,.str [],.sl none (List.map PV.str ([] : List Str)),.str [],.sl (some 2) (List.map zE1 ([] : List api_Wait)),.bool false])],nx := 2 }) (by kernel_rfl)).trans (Sub.leBx (st := { tm := [(1,.pv (.int .i64 id)),oP 2 0,oP 4 1],hp := [rP 0 3 (zE3 p),rP 1 13 gA13],nx := 2 }) 1 (r := .p (some 13) [gA13]) (r' := .p (some 13) [.agg [.int .i64 0,.int .i64 0,.int .i64 0,.str [],.str [],.int .i64 0,.int .i64 0,.int .i64 0,.str [],.sl none (List.map PV.str ([] : List Str)),.str [],.sl (some 2) (List.map zE1 ([] : List api_Wait)),.bool false]]) rfl rfl rfl rfl rfl rfl (.same (.same (.same (.same (.same (.same (.same (.same (.same (.same (.same (.pv (.uslSl _) (.same .nil))))))))))))) rfl)).trans ((Sub.keep (ks := [1,2,4]) (st := ⟨[(1,.pv (.int .i64 id)),oP 2 0,oP 4 1],rP 1 13 gA13 :: [rP 0 3 (zE3 p),rP 1 13 gA4],2⟩) (st' := { tm := [(1,.pv (.int .i64 id)),oP 2 0,oP 4 1],hp := [rP 0 3 (zE3 p),rP 1 13 gA13],nx := 2 }) (by kernel_rfl)).trans (Sub.leBx (st := { tm := [(1,.pv (.int .i64 id)),oP 2 0,oP 4 1],hp := [rP 0 3 (zE3 p),rP 1 13 gA4],nx := 2 }) 1 (r := .p (some 13) [gA4]) (r' := .p (some 13) [gA13]) rfl rfl rfl rfl rfl rfl (.same (.same (.same (.same (.same (.same (.same (.same (.same (.pv (.uslSl _) (.same (.same (.same .nil))))))))))))) rfl)))) ?_
 obtain ⟨x1,hx1,h⟩ := bind_some h
 refine x_rg (rg0 [hE,hE,hN (.cal [] (.int .i64 x1) true),hE] (⟨[oP 2 0,oP 4 1,(6,pI x1)],[rP 0 3 (zE3 p),rP 1 13 (.agg [.int .i64 0,.int .i64 0,.int .i64 0,.str [],.str [],.int .i64 0,.int .i64 0,.int .i64 0,.str [],.sl none (List.map PV.str ([] : List Str)),.str [],.sl (some 2) (List.map zE1 ([] : List api_Wait)),.bool false])],2⟩) (kc (c27 hx1) .nil)) ?_
 refine x_seq ?_
 refine x_rg (rgn [hE,hE] (⟨[oP 2 0,oP 4 1,(6,pI x1),(11,pB (decide (x1 < 0)))],[rP 0 3 (zE3 p),rP 1 13 (.agg [.int .i64 0,.int .i64 0,.int .i64 0,.str [],.str [],.int .i64 0,.int .i64 0,.int .i64 0,.str [],.sl none (List.map PV.str ([] : List Str)),.str [],.sl (some 2) (List.map zE1 ([] : List api_Wait)),.bool false])],2⟩)) ?_
 refine x_if h rfl (fun hc2 h => ?_) (fun hc2 h => ?_)
 ·refine x_rg (st2 := { tm := [oP 4 0,(5,.pv (.bool false))],hp := [rP 0 13 (.agg [.int .i64 0,.int .i64 0,.int .i64 0,.str [],.str [],.int .i64 0,.int .i64 0,.int .i64 0,.str [],.sl none (List.map PV.str ([] : List Str)),.str [],.sl (some 2) (List.map zE1 ([] : List api_Wait)),.bool false])],nx := 1 }) (rg [hE,hE,hE] ({ tm := [oP 4 0,(5,.pv (.bool false))],hp := [rP 0 13 gA4],nx := 1 }) .nil (((Sub.keep (ks := [4,5]) (st := ⟨[oP 4 0,(5,.pv (.bool false))],rP 0 13 (.agg [.int .i64 0,.int .i64 0,.int .i64 0,.str [],.str [],.int .i64 0,.int .i64 0,.int .i64 0,.str [],.sl none (List.map PV.str ([] : List Str)),.str [],.sl (some 2) (List.map zE1 ([] : List api_Wait)),.bool false]) :: [rP 0 13 gA13],1⟩) (st' := { tm := [oP 4 0,(5,.pv (.bool false))],hp := [rP 0 13 (.agg [.int .i64 0,.int .i64 0,.int .i64 0,.str [],.str [],.int .i64 0,.int .i64 0,.int .i64 0,.str [],.sl none (List.map PV.str ([] : List Str)),.str [],.sl (some 2) (List.map zE1 ([] : List api_Wait)),.bool false])],nx := 1 }) (by kernel_rfl)).trans (Sub.leBx (st := { tm := [oP 4 0,(5,.pv (.bool false))],hp := [rP 0 13 gA13],nx := 1 }) 0 (r := .p (some 13) [gA13]) (r' := .p (some 13) [.agg [.int .i64 0,.int .i64 0,.int .i64 0,.str [],.str [],.int .i64 0,.int .i64 0,.int .i64 0,.str [],.sl none (List.map PV.str ([] : List Str)),.str [],.sl (some 2) (List.map zE1 ([] : List api_Wait)),.bool false]]) rfl rfl rfl rfl rfl rfl (.same (.same (.same (.same (.same (.same (.same (.same (.same (.same (.same (.pv (.uslSl _) (.same .nil))))))))))))) rfl)).trans ((Sub.keep (ks := [4,5]) (st := ⟨[oP 4 0,(5,.pv (.bool false))],rP 0 13 gA13 :: [rP 0 13 gA4],1⟩) (st' := { tm := [oP 4 0,(5,.pv (.bool false))],hp := [rP 0 13 gA13],nx := 1 }) (by kernel_rfl)).trans (Sub.leBx (st := { tm := [oP 4 0,(5,.pv (.bool false))],hp := [rP 0 13 gA4],nx := 1 }) 0 (r := .p (some 13) [gA4]) (r' := .p (some 13) [gA13]) rfl rfl rfl rfl rfl rfl (.same (.same (.same (.same (.same (.same (.same (.same (.same (.pv (.uslSl _) (.same (.same (.same .nil))))))))))))) rfl)))) ?_
  refine x_toret (x_tr ?_)
  obtain rfl := sj h
  exact ret0 (.tup [.agg [.int .i64 0,.int .i64 0,.int .i64 0,.str [],.str [],.int .i64 0,.int .i64 0,.int .i64 0,.str [],.sl none (List.map PV.str ([] : List Str)),.str [],.sl (some 2) (List.map zE1 ([] : List api_Wait)),.bool false],.bool false]) (.tup (.cons (.refl _) (.cons (.refl _) .nil))) (fun h => nomatch h)
 refine x_kk (x_skip (x_tn ?_))
 obtain ⟨x3,hx3,h⟩ := bind_some h
 refine x_rg (rg0 [hE,hE,hE,hN (.pAt (zE2 x3)),hE,hE,hE] (⟨[oP 4 0,(5,pB true)],[rP 0 13 (zE2 x3)],1⟩) (kc (lsAt_map (f := zE2) hx3) .nil)) ?_
 refine x_toret ?_
 obtain rfl := sj h
 exact ret0 (.tup [zE2 x3,.bool true]) (.tup (.cons (.refl _) (.cons (.refl _) .nil))) (fun h => nomatch h)
theorem c56 {name : Str} {r : Bool} (h : ref03_Valid name = some r) : CallOK Tryd.prog 56 [.str name] (.bool r) true := by
 apply ok56
 unfold ref03_Valid at h
 refine x_rg (rgn [hE] (⟨[(0,pS name)],[],0⟩)) ?_
 refine x_seq ?_
 refine x_rg (rgn [hE] (⟨[(0,pS name),(3,pI 0)],[],0⟩)) ?_
 refine x_block ?_
 refine kw0 (⟨[(0,pS name),(3,pI 0)],[],0⟩) ?_
 refine x_loop (σ := Int) h (fun s => ⟨[(0,pS name),(3,pI s)],[],0⟩) (by kernel_rfl) ?_ ?_
 ·rintro i
  kernel_rfl
 rintro i x10 h hx10
 replace h : ref03_Valid_L10 name i = some x10 := h
 unfold ref03_Valid_L10 at h
 refine x_seq ?_
 refine x_rg (rgn [hE,hE,hE,hE] (⟨[(0,pS name),(3,pI i),(7,pB (decide (i < (List.length name : Int))))],[],0⟩)) ?_
 refine x_if h rfl (fun hc11 h => ?_) (fun hc11 h => ?_)
 ·refine x_kk (x_skip (x_tn (x_seq (x_block ?_))))
  obtain ⟨c12,hc12,h⟩ := bind_some h
  obtain ⟨t17,ht,h⟩ := bind_some h
  refine x_rgB (fun b_ => (⟨[(0,pS name),(3,pI i),(25,pB b_)],[],0⟩ : VSt)) t17 ?_ ?_
  ·rcases bq (decide ((c12.toNat : Int) < 33)) with hg13 | hg13
   ·replace ht := ite_t ht hg13
    obtain rfl := sj ht
    exact rb [hE,hE,hN (.sAt c12),hE,hE,hS,hS,hS,hS,hN (.pk true),hE,hS,hS,hS,hS,hE] true (kc hc12 (hk5 hg13 (hk4 tt .nil))) rfl
   replace ht := ite_f ht hg13
   obtain ⟨c14,hc14,ht⟩ := bind_some ht
   rcases bq (decide (126 < (c14.toNat : Int))) with hg15 | hg15
   ·replace ht := ite_t ht hg15
    obtain rfl := sj ht
    exact rb [hE,hE,hN (.sAt c12),hE,hE,hY,hY,(.y,(.sAt c14)),hY,hN (.pk false),hE,hS,hS,hS,hS,hN (.pk true)] true (kc hc12 (hk3 hg13 (kc hc14 (hk2 hg13 (hk5 hg15 .nil))))) rfl
   replace ht := ite_f ht hg15
   obtain ⟨c16,hc16,ht⟩ := bind_some ht
   obtain rfl := sj ht
   exact rb [hE,hE,hN (.sAt c12),hE,hE,hY,hY,(.y,(.sAt c14)),hY,hN (.pk false),hE,hY,hY,(.y,(.sAt c16)),hY,hN (.pk false)] (decide ((c16.toNat : Int) = 47)) (kc hc12 (hk3 hg13 (kc hc14 (hk2 hg13 (hk3 hg15 (kc hc16 (hk2 hg15 .nil))))))) rfl
  clear ht
  refine x_if h rfl (fun hc18 h => ?_) (fun hc18 h => ?_)
  ·refine x_rg (rgn [hE] (⟨[(2,pB false)],[],0⟩)) ?_
   refine x_toret (x_br (x_tr (x_tr ?_)))
   replace h := done_leaf h hx10
   refine x_br (x_tr ?_)
   obtain rfl := sj h
   exact ret0 (.bool false) (.refl _) (fun _ => rfl)
  refine x_kk (x_skip (x_bn (x_tn ?_)))
  refine x_rgt (rgn [hE,hE,hE] (⟨[(0,pS name),(3,pI (IntKind.wrap .i64 (i + 1)))],[],0⟩)) ?_
  refine x_tn ?_
  exact ⟨_,(sj h).symm,by kernel_rfl⟩
 refine kw0 (⟨[(0,pS name)],[],0⟩) ?_
 refine x_exit ?_
 refine x_te (x_te ?_)
 replace h := done_leaf h hx10
 refine x_bh ?_
 refine x_tn ?_
 refine x_rgB (fun b_ => (⟨[(2,pB b_)],[],0⟩ : VSt)) ((decide (1 ≤ (List.length name : Int))) && ((decide ((List.length name : Int) ≤ 64)) && ((!decide (name = [46])) && (!decide (name = [46,46]))))) ?_ ?_
 ·rcases bq (decide (1 ≤ (List.length name : Int))) with hg19 | hg19
  ·rcases bq (decide ((List.length name : Int) ≤ 64)) with hg20 | hg20
   ·rcases bq (!decide (name = [46])) with hg21 | hg21
    ·exact rb [hE,hE,hE,hE,hY,hY,hY,hN (.pk true),hE,hY,hY,hN (.pk true),hE,hY,hY,hN (.pk true),hE] (!decide (name = [46,46])) (hk4 hg19 (hk3 hg20 (hk3 hg21 .nil))) (by simp only [hg19,hg20,hg21,bs,reduceIte])
    exact rb [hE,hE,hE,hE,hY,hY,hY,hN (.pk true),hE,hY,hY,hN (.pk true),hE,hS,hS,hN (.pk false),hE] false (hk4 hg19 (hk3 hg20 (hk3 hg21 .nil))) (by simp only [hg19,hg20,hg21,bs,reduceIte])
   exact rb [hE,hE,hE,hE,hY,hY,hY,hN (.pk true),hE,hS,hS,hN (.pk false),hE,hS,hS,hE,hE] false (hk4 hg19 (hk3 hg20 (hk2 ff .nil))) (by simp only [hg19,hg20,bs,reduceIte])
  exact rb [hE,hE,hE,hE,hS,hS,hS,hN (.pk false),hE,hS,hS,hE,hE,hS,hS,hE,hE] false (hk4 hg19 (hk4 ff .nil)) (by simp only [hg19,bs,reduceIte])
 refine x_toret ?_
 obtain rfl := sj h
 exact ret0 (.bool ((decide (1 ≤ (List.length name : Int))) && ((decide ((List.length name : Int) ≤ 64)) && ((!decide (name = [46])) && (!decide (name = [46,46])))))) (.refl _) (fun _ => rfl)
theorem c57 {p : api_Procs} {n : Int} {r : Bool} (h : ref30_group p n = some r) : CallOK Tryd.prog 57 [zE3 p,.int .i64 n] (.bool r) true := by
 apply ok57
 unfold ref30_group at h
 refine x_rg (rgn [hE,hE] (⟨[(1,pI n),oP 2 0],[rP 0 3 (zE3 p)],1⟩)) ?_
 refine x_rgB (fun b_ => (⟨[(4,pB b_)],[],0⟩ : VSt)) ((decide (1 ≤ n)) && (decide (n < p.Group))) ?_ ?_
 ·rcases bq (decide (1 ≤ n)) with hg1 | hg1
  ·exact rb [hE,hE,hE,hY,hY,hY,hY,hN (.pk true),hE] (decide (n < p.Group)) (hk5 hg1 .nil) (by simp only [hg1,bs,reduceIte])
  exact rb [hE,hE,hE,hS,hS,hS,hS,hN (.pk false),hE] false (hk5 hg1 .nil) (by simp only [hg1,bs,reduceIte])
 refine x_toret ?_
 obtain rfl := sj h
 exact ret0 (.bool ((decide (1 ≤ n)) && (decide (n < p.Group)))) (.refl _) (fun _ => rfl)
theorem c71 {p : Str} {r : (List Str)} (h : ref03_Parts p = some r) : CallOK Tryd.prog 71 [.str p] (.usl none (List.map PV.str r)) true := by
 apply ok71
 unfold ref03_Parts at h
 refine x_rg (rgn [hE] (⟨[(0,pS p)],[],0⟩)) ?_
 refine x_rg (st2 := { tm := [(0,.pv (.str p)),(3,.osl 0 0 (List.map PV.str ([] : List Str)).length)],hp := [(0,some (.p none (List.map PV.str ([] : List Str))))],nx := 1 }) (rg [hE] ({ tm := [(0,.pv (.str p)),(3,.pv (.nilsl))],hp := [],nx := 0 }) .nil ((Sub.keep (ks := [0,3]) (st := ownSt 3 none ({ tm := [(0,.pv (.str p)),(3,.pv (.nilsl))],hp := [],nx := 0 })) (st' := { tm := [(0,.pv (.str p)),(3,.osl 0 0 (List.map PV.str ([] : List Str)).length)],hp := [(0,some (.p none (List.map PV.str ([] : List Str))))],nx := 1 }) (by kernel_rfl)).trans (own_sound 3 none ({ tm := [(0,.pv (.str p)),(3,.pv (.nilsl))],hp := [],nx := 0 })))) ?_
 refine x_rg (rgn [hE] (⟨[(0,pS p),(3,oL 0 PV.str ([] : List Str)),(4,pI 0)],[(0,rL none PV.str ([] : List Str))],1⟩)) ?_
 refine x_seq ?_
 refine x_rg (rgn [hE] (⟨[(0,pS p),(3,oL 0 PV.str ([] : List Str)),(4,pI 0),(5,pI 0)],[(0,rL none PV.str ([] : List Str))],1⟩)) ?_
 refine x_block ?_
 refine kw0 (⟨[(0,pS p),(3,oL 0 PV.str ([] : List Str)),(4,pI 0),(5,pI 0)],[(0,rL none PV.str ([] : List Str))],1⟩) ?_
 refine x_loop (σ := (Int × Int × (List Str))) h (fun s => ⟨[(0,pS p),(3,oL 0 PV.str s.2.2),(4,pI s.1),(5,pI s.2.1)],[(0,rL none PV.str s.2.2)],1⟩) (by kernel_rfl) ?_ ?_
 ·rintro ⟨from_,i,out⟩
  kernel_rfl
 rintro ⟨from_,i,out⟩ x11 h hx11
 replace h : ref03_Parts_L11 p from_ i out = some x11 := h
 unfold ref03_Parts_L11 at h
 refine x_seq ?_
 refine x_rg (rgn [hE,hE,hE,hE] (⟨[(0,pS p),(3,oL 0 PV.str out),(4,pI from_),(5,pI i),(9,pB (decide (i ≤ (List.length p : Int))))],[(0,rL none PV.str out)],1⟩)) ?_
 refine x_if h rfl (fun hc12 h => ?_) (fun hc12 h => ?_)
 ·refine x_kk (x_skip (x_tn (x_seq (x_block ?_))))
  obtain ⟨t15,ht,h⟩ := bind_some h
  refine x_rgB (fun b_ => (⟨[(0,pS p),(3,oL 0 PV.str out),(4,pI from_),(5,pI i),(21,pB b_)],[(0,rL none PV.str out)],1⟩ : VSt)) t15 ?_ ?_
  ·rcases bq (decide (i = (List.length p : Int))) with hg13 | hg13
   ·replace ht := ite_t ht hg13
    obtain rfl := sj ht
    exact rb [hE,hE,hE,hE,hE,hS,hS,hS,hS,hN (.pk true)] true (hk5 hg13 .nil) rfl
   replace ht := ite_f ht hg13
   obtain ⟨c14,hc14,ht⟩ := bind_some ht
   obtain rfl := sj ht
   exact rb [hE,hE,hE,hE,hE,hY,hY,(.y,(.sAt c14)),hY,hN (.pk false)] (decide ((c14.toNat : Int) = 47)) (hk3 hg13 (kc hc14 (hk2 hg13 .nil))) rfl
  clear ht
  refine x_if h rfl (fun hc16 h => ?_) (fun hc16 h => ?_)
  ·obtain ⟨x17,hx17,h⟩ := bind_some h
   obtain ⟨x18,hx18,h⟩ := bind_some h
   refine x_rg (rg0 [hE,hE,hE,hE,hN (.cutS x17),hE,hN (.app (List.map PV.str x18)),hE] (⟨[(0,pS p),(3,oL 0 PV.str x18),(5,pI i)],[(0,rL none PV.str x18)],1⟩) (kc hx17 (kc (show List.take (List.map PV.str out).length (List.map PV.str out) ++ List.take 1 (List.drop 0 ([.str x17] : List PV)) = (List.map PV.str x18) from (app_ob hx18 (.all _) (.rfl _))) (kc (show List.length (List.map PV.str x18) * 16 ≤ 140737488355328 from (by rw [List.length_map]; exact (appL_ok hx18).2.1)) (kc (show List.length (List.map PV.str x18) ≤ 9223372036854775807 from (by rw [List.length_map]; exact (appL_ok hx18).2.2)) (kc (le1 (List.map PV.str out)) (kc (show 0 + 1 ≤ List.length ([.str x17] : List PV) from (by simp)) .nil))))))) ?_
   refine x_rgt (rgn [hE,hE,hE] (⟨[(0,pS p),(3,oL 0 PV.str x18),(4,pI (IntKind.wrap .i64 (i + 1))),(5,pI i)],[(0,rL none PV.str x18)],1⟩)) ?_
   refine x_bn (x_tn ?_)
   refine x_rgt (rgn [hE,hE,hE] (⟨[(0,pS p),(3,oL 0 PV.str x18),(4,pI (IntKind.wrap .i64 (i + 1))),(5,pI (IntKind.wrap .i64 (i + 1)))],[(0,rL none PV.str x18)],1⟩)) ?_
   refine x_tn ?_
   exact ⟨_,(sj h).symm,by kernel_rfl⟩
  refine x_kk (x_skip (x_bn (x_tn ?_)))
  refine x_rgt (rgn [hE,hE,hE] (⟨[(0,pS p),(3,oL 0 PV.str out),(4,pI from_),(5,pI (IntKind.wrap .i64 (i + 1)))],[(0,rL none PV.str out)],1⟩)) ?_
  refine x_tn ?_
  exact ⟨_,(sj h).symm,by kernel_rfl⟩
 refine kw0 (⟨[(3,oL 0 PV.str out)],[(0,rL none PV.str out)],1⟩) ?_
 refine x_exit ?_
 refine x_te (x_te ?_)
 replace h := done_leaf h hx11
 refine x_bh ?_
 refine x_tn ?_
 refine x_rg (rgn [hE,hE] (⟨[(2,oL 0 PV.str out)],[(0,rL none PV.str out)],1⟩)) ?_
 refine x_toret ?_
 obtain rfl := sj h
 exact x_ret (.usl none (List.take (List.map PV.str out).length (List.map PV.str out))) [0] [(List.map PV.str out).length ≤ List.length (List.map PV.str out)] (by kernel_rfl) (.cons (Nat.le_refl _) .nil) (by decide) (.of_eq (by rw [List.take_length])) (fun _ => (usl_ns (sh := none) (fun _ => rfl)))
theorem c59 {p : Str} {r : Bool} (h : ref03_Rooted p = some r) : CallOK Tryd.prog 59 [.str p] (.bool r) true := by
 apply ok59
 unfold ref03_Rooted at h
 refine x_rg (rgn [hE] (⟨[(0,pS p)],[],0⟩)) ?_
 obtain ⟨t3,ht,h⟩ := bind_some h
 refine x_rgB (fun b_ => (⟨[(2,pB b_)],[],0⟩ : VSt)) t3 ?_ ?_
 ·rcases bq (decide (0 < (List.length p : Int))) with hg1 | hg1
  ·replace ht := ite_t ht hg1
   obtain ⟨c2,hc2,ht⟩ := bind_some ht
   obtain rfl := sj ht
   exact rb [hE,hE,hE,hE,hY,(.y,(.sAt c2)),hY,hN (.pk true),hE] (decide ((c2.toNat : Int) = 47)) (hk2 hg1 (kc hc2 (hk2 hg1 .nil))) rfl
  replace ht := ite_f ht hg1
  obtain rfl := sj ht
  exact rb [hE,hE,hE,hE,hS,hS,hS,hN (.pk false),hE] false (hk4 hg1 .nil) rfl
 clear ht
 refine x_toret ?_
 obtain rfl := sj h
 exact ret0 (.bool t3) (.refl _) (fun _ => rfl)
theorem c66 {p : Str} {r : ((List Str) × Int)} (h : ref03_Split p = some r) : CallOK Tryd.prog 66 [.str p] (.tup [.usl none (List.map PV.str r.1),.int .i64 r.2]) true := by
 apply ok66
 unfold ref03_Split at h
 refine x_rg (rgn [hE,hE] (⟨[(0,pS p)],[],0⟩)) ?_
 refine x_seq ?_
 refine x_rg (rgn [hE,hE,hE] (⟨[(0,pS p),(11,pB (decide (1024 < (List.length p : Int))))],[],0⟩)) ?_
 refine x_if h rfl (fun hc1 h => ?_) (fun hc1 h => ?_)
 ·refine x_rg (rgn [hE,hE] (⟨[(2,.pv (.nilsl)),(3,pI 4)],[],0⟩)) ?_
  refine x_toret (x_tr ?_)
  obtain rfl := sj h
  exact ret0 (.tup [.nilsl,.int .i64 4]) (.tup (.cons (.nilUsl _) (.cons (.refl _) .nil))) (fun _ => tup_ns (.cons (usl_ns (sh := none) (fun _ => rfl)) (.cons rfl .nil)))
 refine x_kk (x_skip (x_tn ?_))
 obtain ⟨x2,hx2,h⟩ := bind_some h
 refine x_rg (rg0 [hE,hN (.cal [] (.usl none (List.map PV.str x2)) true),hE] (⟨[(0,pS p),(4,oL 0 PV.str x2)],[(0,rL none PV.str x2)],1⟩) (kc (c71 hx2) .nil)) ?_
 refine x_seq ?_
 refine x_rg (rgn [hE] (⟨[(0,pS p),(4,oL 0 PV.str x2),(5,pI 0)],[(0,rL none PV.str x2)],1⟩)) ?_
 refine x_block ?_
 refine kw0 (⟨[(0,pS p),(4,oL 0 PV.str x2),(5,pI 0)],[(0,rL none PV.str x2)],1⟩) ?_
 refine x_loop (σ := Int) h (fun s => ⟨[(0,pS p),(4,oL 0 PV.str x2),(5,pI s)],[(0,rL none PV.str x2)],1⟩) (by kernel_rfl) ?_ ?_
 ·rintro i
  kernel_rfl
 rintro i x15 h hx15
 replace h : ref03_Split_L15 p x2 i = some x15 := h
 unfold ref03_Split_L15 at h
 refine x_seq ?_
 refine x_rg (rg0 [hE,hE,hN (.len (List.length x2 : Int)),hE] (⟨[(0,pS p),(4,oL 0 PV.str x2),(5,pI i),(17,pB (decide (i < (List.length x2 : Int))))],[(0,rL none PV.str x2)],1⟩) (kc (lenM PV.str x2) .nil)) ?_
 refine x_if h rfl (fun hc16 h => ?_) (fun hc16 h => ?_)
 ·refine x_kk (x_skip (x_tn (x_seq (x_block ?_))))
  obtain ⟨x17,hx17,h⟩ := bind_some h
  obtain ⟨t25,ht,h⟩ := bind_some h
  refine x_rgB (fun b_ => (⟨[(0,pS p),(4,oL 0 PV.str x2),(5,pI i),(46,pB b_)],[(0,rL none PV.str x2)],1⟩ : VSt)) t25 ?_ ?_
  ·rcases bq (!decide (x17 = [])) with hg18 | hg18
   ·replace ht := ite_t ht hg18
    obtain ⟨x19,hx19,ht⟩ := bind_some ht
    rcases bq (!decide (x19 = [46])) with hg20 | hg20
    ·replace ht := ite_t ht hg20
     obtain ⟨x21,hx21,ht⟩ := bind_some ht
     rcases bq (!decide (x21 = [46,46])) with hg22 | hg22
     ·replace ht := ite_t ht hg22
      obtain ⟨x23,hx23,ht⟩ := bind_some ht
      obtain ⟨x24,hx24,ht⟩ := bind_some ht
      obtain rfl := sj ht
      exact rb [hE,hE,hN .rAt,hN (.ld (.str x17)),hE,hE,hY,hY,(.y,.rAt),(.y,(.ld (.str x19))),hY,hN (.pk true),hE,hY,hY,(.y,.rAt),(.y,(.ld (.str x21))),hY,hN (.pk true),hE,hY,hY,(.y,.rAt),(.y,(.ld (.str x23))),(.y,(.cal [] (.bool x24) true)),hY,hN (.pk true)] (!x24) (kc (rAtM (f := PV.str) hx17) (kc (ownAt (f := PV.str) hx17) (hk3 hg18 (kc (rAtM (f := PV.str) hx19) (kc hg18 (kc (ownAt (f := PV.str) hx19) (hk2 hg18 (hk3 hg20 (kc (rAtM (f := PV.str) hx21) (kc hg20 (kc (ownAt (f := PV.str) hx21) (hk2 hg20 (hk3 hg22 (kc (rAtM (f := PV.str) hx23) (kc hg22 (kc (ownAt (f := PV.str) hx23) (kc hg22 (kc (c56 hx24) (hk2 hg22 .nil))))))))))))))))))) rfl
     replace ht := ite_f ht hg22
     obtain rfl := sj ht
     exact rb [hE,hE,hN .rAt,hN (.ld (.str x17)),hE,hE,hY,hY,(.y,.rAt),(.y,(.ld (.str x19))),hY,hN (.pk true),hE,hY,hY,(.y,.rAt),(.y,(.ld (.str x21))),hY,hN (.pk true),hE,hS,hS,hS,hS,hS,hS,hN (.pk false)] false (kc (rAtM (f := PV.str) hx17) (kc (ownAt (f := PV.str) hx17) (hk3 hg18 (kc (rAtM (f := PV.str) hx19) (kc hg18 (kc (ownAt (f := PV.str) hx19) (hk2 hg18 (hk3 hg20 (kc (rAtM (f := PV.str) hx21) (kc hg20 (kc (ownAt (f := PV.str) hx21) (hk2 hg20 (kc hg22 (hk6 hg22 .nil)))))))))))))) rfl
    replace ht := ite_f ht hg20
    obtain rfl := sj ht
    exact rb [hE,hE,hN .rAt,hN (.ld (.str x17)),hE,hE,hY,hY,(.y,.rAt),(.y,(.ld (.str x19))),hY,hN (.pk true),hE,hS,hS,hS,hS,hS,hN (.pk false),hE,hS,hS,hS,hS,hS,hS,hE] false (kc (rAtM (f := PV.str) hx17) (kc (ownAt (f := PV.str) hx17) (hk3 hg18 (kc (rAtM (f := PV.str) hx19) (kc hg18 (kc (ownAt (f := PV.str) hx19) (hk2 hg18 (hk6 hg20 (hk6 ff .nil))))))))) rfl
   replace ht := ite_f ht hg18
   obtain rfl := sj ht
   exact rb [hE,hE,hN .rAt,hN (.ld (.str x17)),hE,hE,hS,hS,hS,hS,hS,hN (.pk false),hE,hS,hS,hS,hS,hS,hE,hE,hS,hS,hS,hS,hS,hS,hE] false (kc (rAtM (f := PV.str) hx17) (kc (ownAt (f := PV.str) hx17) (hk6 hg18 (hk3 ff (hk8 ff .nil))))) rfl
  clear ht
  refine x_if h rfl (fun hc26 h => ?_) (fun hc26 h => ?_)
  ·refine x_rg (rgn [hE,hE] (⟨[(2,.pv (.nilsl)),(3,pI 6)],[],0⟩)) ?_
   refine x_toret (x_br (x_tr (x_tr ?_)))
   replace h := done_leaf h hx15
   refine x_br (x_tr ?_)
   obtain rfl := sj h
   exact ret0 (.tup [.nilsl,.int .i64 6]) (.tup (.cons (.nilUsl _) (.cons (.refl _) .nil))) (fun _ => tup_ns (.cons (usl_ns (sh := none) (fun _ => rfl)) (.cons rfl .nil)))
  refine x_kk (x_skip (x_bn (x_tn ?_)))
  refine x_rgt (rgn [hE,hE,hE] (⟨[(0,pS p),(4,oL 0 PV.str x2),(5,pI (IntKind.wrap .i64 (i + 1)))],[(0,rL none PV.str x2)],1⟩)) ?_
  refine x_tn ?_
  exact ⟨_,(sj h).symm,by kernel_rfl⟩
 refine kw0 (⟨[(0,pS p),(4,oL 0 PV.str x2)],[(0,rL none PV.str x2)],1⟩) ?_
 refine x_exit ?_
 refine x_te (x_te ?_)
 replace h := done_map h hx15
 refine x_bh ?_
 refine x_tn ?_
 refine x_rg (st2 := { tm := [(0,.pv (.str p)),(4,.osl 0 0 (List.map PV.str x2).length),(6,.osl 1 0 (List.map PV.str ([] : List Str)).length)],hp := [(0,some (.p none (List.map PV.str x2))),(1,some (.p none (List.map PV.str ([] : List Str))))],nx := 2 }) (rg [hE] ({ tm := [(0,.pv (.str p)),(4,.osl 0 0 (List.map PV.str x2).length),(6,.pv (.nilsl))],hp := [(0,some (.p none (List.map PV.str x2)))],nx := 1 }) .nil ((Sub.keep (ks := [0,4,6]) (st := ownSt 6 none ({ tm := [(0,.pv (.str p)),(4,.osl 0 0 (List.map PV.str x2).length),(6,.pv (.nilsl))],hp := [(0,some (.p none (List.map PV.str x2)))],nx := 1 })) (st' := { tm := [(0,.pv (.str p)),(4,.osl 0 0 (List.map PV.str x2).length),(6,.osl 1 0 (List.map PV.str ([] : List Str)).length)],hp := [(0,some (.p none (List.map PV.str x2))),(1,some (.p none (List.map PV.str ([] : List Str))))],nx := 2 }) (by kernel_rfl)).trans (own_sound 6 none ({ tm := [(0,.pv (.str p)),(4,.osl 0 0 (List.map PV.str x2).length),(6,.pv (.nilsl))],hp := [(0,some (.p none (List.map PV.str x2)))],nx := 1 })))) ?_
 refine x_seq ?_
 refine x_rg (rgn [hE] (⟨[(0,pS p),(4,oL 0 PV.str x2),(6,oL 1 PV.str ([] : List Str)),(7,pI 0)],[(0,rL none PV.str x2),(1,rL none PV.str ([] : List Str))],2⟩)) ?_
 refine x_block ?_
 refine kw0 (⟨[(0,pS p),(4,oL 0 PV.str x2),(6,oL 1 PV.str ([] : List Str)),(7,pI 0)],[(0,rL none PV.str x2),(1,rL none PV.str ([] : List Str))],2⟩) ?_
 refine x_loop (σ := (Int × (List Str))) h (fun s => ⟨[(0,pS p),(4,oL 0 PV.str x2),(6,oL 1 PV.str s.2),(7,pI s.1)],[(0,rL none PV.str x2),(1,rL none PV.str s.2)],2⟩) (by kernel_rfl) ?_ ?_
 ·rintro ⟨i_1,out⟩
  kernel_rfl
 rintro ⟨i_1,out⟩ x49 h hx49
 replace h : ref03_Split_L49 p x2 i_1 out = some x49 := h
 unfold ref03_Split_L49 at h
 refine x_seq ?_
 refine x_rg (rg0 [hE,hE,hN (.len (List.length x2 : Int)),hE] (⟨[(0,pS p),(4,oL 0 PV.str x2),(6,oL 1 PV.str out),(7,pI i_1),(50,pB (decide (i_1 < (List.length x2 : Int))))],[(0,rL none PV.str x2),(1,rL none PV.str out)],2⟩) (kc (lenM PV.str x2) .nil)) ?_
 refine x_if h rfl (fun hc50 h => ?_) (fun hc50 h => ?_)
 ·refine x_kk (x_skip (x_tn (x_seq (x_block ?_))))
  refine x_rg (rg0 [hE,hN (.len (List.length out : Int)),hE] (⟨[(0,pS p),(4,oL 0 PV.str x2),(6,oL 1 PV.str out),(7,pI i_1),(8,pI (List.length out : Int))],[(0,rL none PV.str x2),(1,rL none PV.str out)],2⟩) (kc (lenM PV.str out) .nil)) ?_
  refine x_block ?_
  obtain ⟨x51,hx51,h⟩ := bind_some h
  obtain ⟨t54,ht,h⟩ := bind_some h
  refine x_rgB (fun b_ => (⟨[(0,pS p),(4,oL 0 PV.str x2),(6,oL 1 PV.str out),(7,pI i_1),(8,pI (List.length out : Int)),(62,pB b_)],[(0,rL none PV.str x2),(1,rL none PV.str out)],2⟩ : VSt)) t54 ?_ ?_
  ·rcases bq (decide (x51 = [])) with hg52 | hg52
   ·replace ht := ite_t ht hg52
    obtain rfl := sj ht
    exact rb [hE,hE,hN .rAt,hN (.ld (.str x51)),hE,hE,hS,hS,hS,hS,hS,hN (.pk true),hE] true (kc (rAtM (f := PV.str) hx51) (kc (ownAt (f := PV.str) hx51) (hk6 hg52 .nil))) rfl
   replace ht := ite_f ht hg52
   obtain ⟨x53,hx53,ht⟩ := bind_some ht
   obtain rfl := sj ht
   exact rb [hE,hE,hN .rAt,hN (.ld (.str x51)),hE,hE,hY,hY,(.y,.rAt),(.y,(.ld (.str x53))),hY,hN (.pk false),hE] (decide (x53 = [46])) (kc (rAtM (f := PV.str) hx51) (kc (ownAt (f := PV.str) hx51) (hk3 hg52 (kc (rAtM (f := PV.str) hx53) (kc hg52 (kc (ownAt (f := PV.str) hx53) (hk2 hg52 .nil))))))) rfl
  clear ht
  refine x_if h rfl (fun hc55 h => ?_) (fun hc55 h => ?_)
  ·refine x_kk (x_skip (x_bn (x_bn (x_tn ?_))))
   refine x_rgt (rgn [hE,hE,hE] (⟨[(0,pS p),(4,oL 0 PV.str x2),(6,oL 1 PV.str out),(7,pI (IntKind.wrap .i64 (i_1 + 1)))],[(0,rL none PV.str x2),(1,rL none PV.str out)],2⟩)) ?_
   refine x_tn ?_
   exact ⟨_,(sj h).symm,by kernel_rfl⟩
  obtain ⟨x56,hx56,h⟩ := bind_some h
  obtain ⟨t60,ht,h⟩ := bind_some h
  refine x_rgB (fun b_ => (⟨[(0,pS p),(4,oL 0 PV.str x2),(6,oL 1 PV.str out),(7,pI i_1),(8,pI (List.length out : Int)),(75,pB b_)],[(0,rL none PV.str x2),(1,rL none PV.str out)],2⟩ : VSt)) t60 ?_ ?_
  ·rcases bq (decide (x56 = [46,46])) with hg57 | hg57
   ·replace ht := ite_t ht hg57
    rcases bq (decide (0 < (List.length out : Int))) with hg58 | hg58
    ·replace ht := ite_t ht hg58
     obtain ⟨x59,hx59,ht⟩ := bind_some ht
     obtain rfl := sj ht
     exact rb [hE,hE,hN .rAt,hN (.ld (.str x56)),hE,hE,hY,hY,hN (.pk true),hE,hY,hY,hY,(.y,.rAt),(.y,(.ld (.str x59))),hY,hN (.pk true),hE] (!decide (x59 = [46,46])) (kc (rAtM (f := PV.str) hx56) (kc (ownAt (f := PV.str) hx56) (hk3 hg57 (hk4 hg58 (kc (rAtM (f := PV.str) hx59) (kc hg58 (kc (ownAt (f := PV.str) hx59) (hk2 hg58 .nil)))))))) rfl
    replace ht := ite_f ht hg58
    obtain rfl := sj ht
    exact rb [hE,hE,hN .rAt,hN (.ld (.str x56)),hE,hE,hY,hY,hN (.pk true),hE,hS,hS,hS,hS,hS,hS,hN (.pk false),hE] false (kc (rAtM (f := PV.str) hx56) (kc (ownAt (f := PV.str) hx56) (hk3 hg57 (kc hg58 (hk6 hg58 .nil))))) rfl
   replace ht := ite_f ht hg57
   obtain rfl := sj ht
   exact rb [hE,hE,hN .rAt,hN (.ld (.str x56)),hE,hE,hS,hS,hN (.pk false),hE,hS,hS,hS,hS,hS,hS,hE,hE] false (kc (rAtM (f := PV.str) hx56) (kc (ownAt (f := PV.str) hx56) (hk3 hg57 (hk6 ff .nil)))) rfl
  clear ht
  refine x_if h rfl (fun hc61 h => ?_) (fun hc61 h => ?_)
  ·obtain ⟨x62,hx62,h⟩ := bind_some h
   refine x_rgt (st2 := { tm := [(0,.pv (.str p)),(4,.osl 0 0 (List.map PV.str x2).length),(6,.osl 1 0 (List.map PV.str x62).length),(7,.pv (.int .i64 i_1))],hp := [(0,some (.p none (List.map PV.str x2))),(1,some (.p none (List.map PV.str x62)))],nx := 2 }) (rg [hE,hE,hE,hN .cutR,hE] ({ tm := [(0,.pv (.str p)),(4,.osl 0 0 (List.map PV.str x2).length),(6,.osl 1 (0 + Int.toNat 0) (Int.toNat (IntKind.wrap .i64 ((List.length out : Int) - 1)) - Int.toNat 0)),(7,.pv (.int .i64 i_1))],hp := [(0,some (.p none (List.map PV.str x2))),(1,some (.p none (List.map PV.str out)))],nx := 2 }) (kc (show 0 ≤ (0 : Int) ∧ (0 : Int) ≤ (IntKind.wrap .i64 ((List.length out : Int) - 1)) ∧ (IntKind.wrap .i64 ((List.length out : Int) - 1)) ≤ (((List.map PV.str out).length : Nat) : Int) from (cutR_ob hx62 (by simp))) .nil) (((Sub.of_eq (show ({ tm := [(0,.pv (.str p)),(4,.osl 0 0 (List.map PV.str x2).length),(6,.osl 1 0 (List.map PV.str x62).length),(7,.pv (.int .i64 i_1))],hp := [(0,some (.p none (List.map PV.str x2))),(1,some (.p none (List.map PV.str x62)))],nx := 2 } : VSt) = trimSt 1 (Int.toNat (IntKind.wrap .i64 ((List.length out : Int) - 1)) - Int.toNat 0) ({ tm := [(0,.pv (.str p)),(4,.osl 0 0 (List.map PV.str x2).length),(6,.osl 1 (0 + Int.toNat 0) (Int.toNat (IntKind.wrap .i64 ((List.length out : Int) - 1)) - Int.toNat 0)),(7,.pv (.int .i64 i_1))],hp := [(0,some (.p none (List.map PV.str x2))),(1,some (.p none (List.map PV.str out)))],nx := 2 }) from (show ({ tm := [(0,.pv (.str p)),(4,.osl 0 0 (List.map PV.str x2).length),(6,.osl 1 0 (List.map PV.str x62).length),(7,.pv (.int .i64 i_1))],hp := [(0,some (.p none (List.map PV.str x2))),(1,some (.p none (List.map PV.str x62)))],nx := 2 } : VSt) = { tm := [(0,.pv (.str p)),(4,.osl 0 0 (List.map PV.str x2).length),(6,.osl 1 (0 + Int.toNat 0) (Int.toNat (IntKind.wrap .i64 ((List.length out : Int) - 1)) - Int.toNat 0)),(7,.pv (.int .i64 i_1))],hp := [(0,some (.p none (List.map PV.str x2))),(1,some (.p none (List.take (Int.toNat (IntKind.wrap .i64 ((List.length out : Int) - 1)) - Int.toNat 0) (List.map PV.str out))))],nx := 2 } from (by rw [(cutR_f hx62).2,(cutR_f hx62).1]; try rfl)).trans (by kernel_rfl))).trans (Sub.trim 1 (Int.toNat (IntKind.wrap .i64 ((List.length out : Int) - 1)) - Int.toNat 0) _)))) ?_
   refine x_bn (x_bn (x_tn ?_))
   refine x_rgt (rgn [hE,hE,hE] (⟨[(0,pS p),(4,oL 0 PV.str x2),(6,oL 1 PV.str x62),(7,pI (IntKind.wrap .i64 (i_1 + 1)))],[(0,rL none PV.str x2),(1,rL none PV.str x62)],2⟩)) ?_
   refine x_tn ?_
   exact ⟨_,(sj h).symm,by kernel_rfl⟩
  obtain ⟨x63,hx63,h⟩ := bind_some h
  obtain ⟨t66,ht,h⟩ := bind_some h
  refine x_rgB (fun b_ => (⟨[(0,pS p),(4,oL 0 PV.str x2),(6,oL 1 PV.str out),(7,pI i_1),(97,pB b_)],[(0,rL none PV.str x2),(1,rL none PV.str out)],2⟩ : VSt)) t66 ?_ ?_
  ·rcases bq (decide (x63 = [46,46])) with hg64 | hg64
   ·replace ht := ite_t ht hg64
    obtain ⟨x65,hx65,ht⟩ := bind_some ht
    obtain rfl := sj ht
    exact rb [hE,hE,hN .rAt,hN (.ld (.str x63)),hE,hE,hY,(.y,(.cal [] (.bool x65) true)),hN (.pk true),hE] x65 (kc (rAtM (f := PV.str) hx63) (kc (ownAt (f := PV.str) hx63) (hk2 hg64 (kc (c59 hx65) (kc hg64 .nil))))) rfl
   replace ht := ite_f ht hg64
   obtain rfl := sj ht
   exact rb [hE,hE,hN .rAt,hN (.ld (.str x63)),hE,hE,hS,hS,hN (.pk false),hE] false (kc (rAtM (f := PV.str) hx63) (kc (ownAt (f := PV.str) hx63) (hk3 hg64 .nil))) rfl
  clear ht
  refine x_if h rfl (fun hc67 h => ?_) (fun hc67 h => ?_)
  ·refine x_kk (x_skip (x_bn (x_bn (x_tn ?_))))
   refine x_rgt (rgn [hE,hE,hE] (⟨[(0,pS p),(4,oL 0 PV.str x2),(6,oL 1 PV.str out),(7,pI (IntKind.wrap .i64 (i_1 + 1)))],[(0,rL none PV.str x2),(1,rL none PV.str out)],2⟩)) ?_
   refine x_tn ?_
   exact ⟨_,(sj h).symm,by kernel_rfl⟩
  obtain ⟨x68,hx68,h⟩ := bind_some h
  obtain ⟨x69,hx69,h⟩ := bind_some h
  refine x_rgt (rg0 [hE,hE,hE,hN .rAt,hN (.ld (.str x68)),hE,hN (.app (List.map PV.str x69)),hE] (⟨[(0,pS p),(4,oL 0 PV.str x2),(6,oL 1 PV.str x69),(7,pI i_1)],[(0,rL none PV.str x2),(1,rL none PV.str x69)],2⟩) (kc (rAtM (f := PV.str) hx68) (kc (ownAt (f := PV.str) hx68) (kc (show List.take (List.map PV.str out).length (List.map PV.str out) ++ List.take 1 (List.drop 0 ([.str x68] : List PV)) = (List.map PV.str x69) from (app_ob hx69 (.all _) (.rfl _))) (kc (show List.length (List.map PV.str x69) * 16 ≤ 140737488355328 from (by rw [List.length_map]; exact (appL_ok hx69).2.1)) (kc (show List.length (List.map PV.str x69) ≤ 9223372036854775807 from (by rw [List.length_map]; exact (appL_ok hx69).2.2)) (kc (le1 (List.map PV.str out)) (kc (show 0 + 1 ≤ List.length ([.str x68] : List PV) from (by simp)) .nil)))))))) ?_
  refine x_bn (x_bn (x_tn ?_))
  refine x_rgt (rgn [hE,hE,hE] (⟨[(0,pS p),(4,oL 0 PV.str x2),(6,oL 1 PV.str x69),(7,pI (IntKind.wrap .i64 (i_1 + 1)))],[(0,rL none PV.str x2),(1,rL none PV.str x69)],2⟩)) ?_
  refine x_tn ?_
  exact ⟨_,(sj h).symm,by kernel_rfl⟩
 refine kw0 (⟨[(6,oL 0 PV.str out)],[(0,rL none PV.str out)],1⟩) ?_
 refine x_exit ?_
 refine x_te (x_te ?_)
 replace h := done_map h hx49
 unfold ref03_Split_A71 at h
 refine x_bh ?_
 refine x_tn (x_seq ?_)
 refine x_rg (rg0 [hE,hN (.len (List.length out : Int)),hE] (⟨[(6,oL 0 PV.str out),(109,pB (decide (32 < (List.length out : Int))))],[(0,rL none PV.str out)],1⟩) (kc (lenM PV.str out) .nil)) ?_
 refine x_if h rfl (fun hc70 h => ?_) (fun hc70 h => ?_)
 ·refine x_rg (rgn [hE,hE] (⟨[(2,.pv (.nilsl)),(3,pI 4)],[],0⟩)) ?_
  refine x_toret (x_tr ?_)
  obtain rfl := sj h
  exact ret0 (.tup [.nilsl,.int .i64 4]) (.tup (.cons (.nilUsl _) (.cons (.refl _) .nil))) (fun _ => tup_ns (.cons (usl_ns (sh := none) (fun _ => rfl)) (.cons rfl .nil)))
 refine x_kk (x_skip (x_tn ?_))
 refine x_rg (rgn [hE,hE,hE] (⟨[(2,oL 0 PV.str out),(3,pI 0)],[(0,rL none PV.str out)],1⟩)) ?_
 refine x_toret ?_
 obtain rfl := sj h
 exact x_ret (.tup [.usl none (List.take (List.map PV.str out).length (List.map PV.str out)),.int .i64 0]) [0] [(List.map PV.str out).length ≤ List.length (List.map PV.str out)] (by kernel_rfl) (.cons (Nat.le_refl _) .nil) (by decide) (.tup (.cons (.of_eq (by rw [List.take_length])) (.cons (.refl _) .nil))) (fun _ => tup_ns (.cons (usl_ns (sh := none) (fun _ => rfl)) (.cons rfl .nil)))
theorem c67 {rooted : Bool} {l : (List Str)} {r : Str} (h : ref03_Build rooted l = some r) : CallOK Tryd.prog 67 [.bool rooted,.sl none (List.map PV.str l)] (.str r) true := by
 apply ok67
 unfold ref03_Build at h
 refine x_rg (rgn [hE] (⟨[(0,pB rooted),(1,pL none PV.str l)],[],0⟩)) ?_
 refine x_rg (rgn [hE] (⟨[(0,pB rooted),(1,pL none PV.str l),(5,pS [])],[],0⟩)) ?_
 refine x_seq ?_
 refine x_rg (rgn [hE] (⟨[(0,pB rooted),(1,pL none PV.str l),(5,pS []),(6,pI 0)],[],0⟩)) ?_
 refine x_block ?_
 refine kw0 (⟨[(0,pB rooted),(1,pL none PV.str l),(5,pS []),(6,pI 0)],[],0⟩) ?_
 refine x_loop (σ := (Str × Int)) h (fun s => ⟨[(0,pB rooted),(1,pL none PV.str l),(5,pS s.1),(6,pI s.2)],[],0⟩) (by kernel_rfl) ?_ ?_
 ·rintro ⟨s_,i⟩
  kernel_rfl
 rintro ⟨s_,i⟩ x6 h hx6
 replace h : ref03_Build_L6 rooted l s_ i = some x6 := h
 unfold ref03_Build_L6 at h
 refine x_seq ?_
 refine x_rg (rg0 [hE,hE,hN (.len (List.length l : Int)),hE] (⟨[(0,pB rooted),(1,pL none PV.str l),(5,pS s_),(6,pI i),(10,pB (decide (i < (List.length l : Int))))],[],0⟩) (kc (lenM PV.str l) .nil)) ?_
 refine x_if h rfl (fun hc7 h => ?_) (fun hc7 h => ?_)
 ·refine kw0 (⟨[(0,pB rooted),(1,pL none PV.str l),(5,pS s_),(6,pI i)],[],0⟩) ?_
  refine x_skip (x_tn (x_seq (x_block ?_)))
  refine x_join (τ := Str) (fun t => ref03_Build_K8 l i t = some x6) (fun t => { tm := [(0,.pv (.bool rooted)),(1,.pv (.sl none (List.map PV.str l))),(5,.pv (.str t)),(6,.pv (.int .i64 i))],hp := [],nx := 0 }) ?_ ?_
  ·rintro p9 h
   replace h : ref03_Build_K8 l i p9 = some x6 := h
   unfold ref03_Build_K8 at h
   obtain ⟨x10,hx10,h⟩ := bind_some h
   obtain ⟨x11,hx11,h⟩ := bind_some h
   refine x_rgt (rg0 [hE,hE,hE,hN (.pAt (.str x10)),hE,hN (.cat x11),hE] (⟨[(0,pB rooted),(1,pL none PV.str l),(5,pS x11),(6,pI i)],[],0⟩) (kc (lsAt_map (f := PV.str) hx10) (kc hx11 .nil))) ?_
   refine x_bn (x_tn ?_)
   refine x_rgt (rgn [hE,hE,hE] (⟨[(0,pB rooted),(1,pL none PV.str l),(5,pS x11),(6,pI (IntKind.wrap .i64 (i + 1)))],[],0⟩)) ?_
   refine x_tn ?_
   exact ⟨_,(sj h).symm,by kernel_rfl⟩
  refine x_rg (rgn [hE,hE] (⟨[(0,pB rooted),(1,pL none PV.str l),(5,pS s_),(6,pI i),(14,pB (decide (0 < i)))],[],0⟩)) ?_
  refine x_if h rfl (fun hc12 h => ?_) (fun hc12 h => ?_)
  ·obtain ⟨x13,hx13,h⟩ := bind_some h
   refine x_rgt (rg0 [hE,hN (.cat x13),hE] (⟨[(0,pB rooted),(1,pL none PV.str l),(5,pS x13),(6,pI i)],[],0⟩) (kc hx13 .nil)) ?_
   refine x_tn ?_
   exact ⟨x13,h,by kernel_rfl⟩
  refine kw0 (⟨[(0,pB rooted),(1,pL none PV.str l),(5,pS s_),(6,pI i)],[],0⟩) ?_
  refine x_skip (x_tn ?_)
  exact ⟨s_,h,by kernel_rfl⟩
 refine kw0 (⟨[(0,pB rooted),(5,pS s_)],[],0⟩) ?_
 refine x_exit ?_
 refine x_te (x_te ?_)
 replace h := done_map h hx6
 unfold ref03_Build_A17 at h
 refine x_bh ?_
 refine x_tn (x_seq ?_)
 refine x_rg (rgn [hE] (⟨[(5,pS s_),(23,pB rooted)],[],0⟩)) ?_
 refine x_if h rfl (fun hc14 h => ?_) (fun hc14 h => ?_)
 ·obtain ⟨x15,hx15,h⟩ := bind_some h
  refine x_rg (rg0 [hE,hN (.cat x15),hE] (⟨[(4,pS x15)],[],0⟩) (kc hx15 .nil)) ?_
  refine x_toret (x_tr ?_)
  obtain rfl := sj h
  exact ret0 (.str x15) (.refl _) (fun _ => rfl)
 refine x_kk (x_skip (x_tn (x_seq ?_)))
 refine x_rg (rgn [hE,hE] (⟨[(5,pS s_),(27,pB (decide (s_ = [])))],[],0⟩)) ?_
 refine x_if h rfl (fun hc16 h => ?_) (fun hc16 h => ?_)
 ·refine x_rg (rgn [hE] (⟨[(4,pS [46])],[],0⟩)) ?_
  refine x_toret (x_tr ?_)
  obtain rfl := sj h
  exact ret0 (.str [46]) (.refl _) (fun _ => rfl)
 refine x_kk (x_skip (x_tn ?_))
 refine x_rg (rgn [hE,hE] (⟨[(4,pS s_)],[],0⟩)) ?_
 refine x_toret ?_
 obtain rfl := sj h
 exact ret0 (.str s_) (.refl _) (fun _ => rfl)
theorem c58 {p : Str} {r : (Str × Int)} (h : ref03_Clean p = some r) : CallOK Tryd.prog 58 [.str p] (.tup [.str r.1,.int .i64 r.2]) true := by
 apply ok58
 unfold ref03_Clean at h
 refine x_rg (rgn [hE,hE] (⟨[(0,pS p)],[],0⟩)) ?_
 obtain ⟨x1,hx1,h⟩ := bind_some h
 refine x_rg (rg0 [hE,hN (.cal [] (.tup [.usl none (List.map PV.str x1.1),.int .i64 x1.2]) true),hE,hE,hE,hE,hE] (⟨[(0,pS p),(4,oL 0 PV.str x1.1),(5,pI x1.2)],[(0,rL none PV.str x1.1)],1⟩) (kc (c66 hx1) .nil)) ?_
 refine x_seq ?_
 refine x_rg (rgn [hE,hE] (⟨[(0,pS p),(4,oL 0 PV.str x1.1),(5,pI x1.2),(12,pB (!decide (x1.2 = 0)))],[(0,rL none PV.str x1.1)],1⟩)) ?_
 refine x_if h rfl (fun hc2 h => ?_) (fun hc2 h => ?_)
 ·refine x_rg (rgn [hE,hE,hE] (⟨[(2,pS []),(3,pI x1.2)],[],0⟩)) ?_
  refine x_toret (x_tr ?_)
  obtain rfl := sj h
  exact ret0 (.tup [.str [],.int .i64 x1.2]) (.tup (.cons (.refl _) (.cons (.refl _) .nil))) (fun _ => rfl)
 refine x_kk (x_skip (x_tn ?_))
 obtain ⟨x3,hx3,h⟩ := bind_some h
 obtain ⟨x4,hx4,h⟩ := bind_some h
 refine x_rg (rg0 [hE,hN (.cal [] (.bool x3) true),hE,hN (.call [] [.bool x3,.sl none (List.map PV.str x1.1)] (.str x4) true),hE,hE] (⟨[(2,pS x4),(3,pI 0)],[],0⟩) (kc (c59 hx3) (kc (show LesA [.bool x3,.sl none (List.take (List.map PV.str x1.1).length (List.drop 0 (List.map PV.str x1.1)))] [.bool x3,.sl none (List.map PV.str x1.1)] from (.cons (.refl _) (.cons (.of_eq (by rw [List.drop_zero,List.take_length])) .nil))) (kc (c67 hx4) (kc (le0 (List.map PV.str x1.1)) .nil))))) ?_
 refine x_toret ?_
 obtain rfl := sj h
 exact ret0 (.tup [.str x4,.int .i64 0]) (.tup (.cons (.refl _) (.cons (.refl _) .nil))) (fun _ => rfl)
theorem c30 {p : api_Procs} {x_ : api_Proc} {r : Bool} (h : ref30_fields p x_ = some r) : CallOK Tryd.prog 30 [zE3 p,zE2 x_] (.bool r) true := by
 apply ok30
 unfold ref30_fields at h
 refine x_rg (rgn [hE,hE,hE] (⟨[oP 2 0,oP 3 1],[rP 0 3 (zE3 p),rP 1 13 (zE2 x_)],2⟩)) ?_
 refine x_seq ?_
 refine x_rgB (fun b_ => (⟨[oP 2 0,oP 3 1,(21,pB b_)],[rP 0 3 (zE3 p),rP 1 13 (zE2 x_)],2⟩ : VSt)) ((!decide (x_.State = 1)) && ((!decide (x_.State = 2)) && (!decide (x_.State = 3)))) ?_ ?_
 ·rcases bq (!decide (x_.State = 1)) with hg1 | hg1
  ·rcases bq (!decide (x_.State = 2)) with hg2 | hg2
   ·exact rb [hE,hE,hE,hE,hY,hY,hY,hN (.pk true),hE,hY,hY,hY,hN (.pk true)] (!decide (x_.State = 3)) (hk4 hg1 (hk4 hg2 .nil)) (by simp only [hg1,hg2,bs,reduceIte])
   exact rb [hE,hE,hE,hE,hY,hY,hY,hN (.pk true),hE,hS,hS,hS,hN (.pk false)] false (hk4 hg1 (hk4 hg2 .nil)) (by simp only [hg1,hg2,bs,reduceIte])
  exact rb [hE,hE,hE,hE,hS,hS,hS,hN (.pk false),hE,hS,hS,hS,hE] false (hk4 hg1 (hk3 ff .nil)) (by simp only [hg1,bs,reduceIte])
 refine x_if h rfl (fun hc4 h => ?_) (fun hc4 h => ?_)
 ·refine x_rg (rgn [hE] (⟨[(4,pB false)],[],0⟩)) ?_
  refine x_toret (x_tr ?_)
  obtain rfl := sj h
  exact ret0 (.bool false) (.refl _) (fun _ => rfl)
 refine x_kk (x_skip (x_tn (x_seq ?_)))
 obtain ⟨x5,hx5,h⟩ := bind_some h
 obtain ⟨t22,ht,h⟩ := bind_some h
 refine x_rgB (fun b_ => (⟨[oP 2 0,oP 3 1,(62,pB b_)],[rP 0 3 (zE3 p),rP 1 13 (zE2 x_)],2⟩ : VSt)) t22 ?_ ?_
 ·rcases bq (!x5) with hg6 | hg6
  ·replace ht := ite_t ht hg6
   obtain rfl := sj ht
   exact rb [hE,hE,hN (.cal [] (.bool x5) true),hE,hE,hS,hS,hS,hS,(.u,.e),(.u,.e),(.u,.e),(.u,.e),hS,hN (.pk true),hE,hS,hS,hS,hS,hS,hE,hE,hS,hS,hS,hS,hS,hE,hE,hS,hS,hS,hS,hS,hE,hE,hS,hS,hS,hE] true (kc (c24 hx5) (hk6 hg6 (hk2 tt (hk8 tt (hk8 tt .nil))))) rfl
  replace ht := ite_f ht hg6
  rcases bq (!decide (x_.Name = [])) with hg7 | hg7
  ·replace ht := ite_t ht hg7
   obtain ⟨x8,hx8,ht⟩ := bind_some ht
   rcases bq (!x8) with hg9 | hg9
   ·replace ht := ite_t ht hg9
    obtain rfl := sj ht
    exact rb [hE,hE,hN (.cal [] (.bool x5) true),hE,hE,hY,hY,hY,hY,hY,hY,(.y,(.cal [] (.bool x8) true)),hY,(.y,(.pk true)),hN (.pk false),hE,hS,hS,hS,hS,hS,hN (.pk true),hE,hS,hS,hS,hS,hS,hE,hE,hS,hS,hS,hS,hS,hE,hE,hS,hS,hS,hE] true (kc (c24 hx5) (hk4 hg6 (hk3 hg7 (kc (c56 hx8) (kc hg7 (kc hg6 (kc hg7 (kc hg6 (hk6 hg9 (hk5 tt (hk8 tt .nil))))))))))) rfl
   replace ht := ite_f ht hg9
   obtain ⟨x10,hx10,ht⟩ := bind_some ht
   rcases bq (!x10) with hg11 | hg11
   ·replace ht := ite_t ht hg11
    obtain rfl := sj ht
    exact rb [hE,hE,hN (.cal [] (.bool x5) true),hE,hE,hY,hY,hY,hY,hY,hY,(.y,(.cal [] (.bool x8) true)),hY,(.y,(.pk true)),hN (.pk false),hE,hY,hY,hY,(.y,(.cal [] (.bool x10) true)),hY,hN (.pk false),hE,hS,hS,hS,hS,hS,hN (.pk true),hE,hS,hS,hS,hS,hS,hE,hE,hS,hS,hS,hE] true (kc (c24 hx5) (hk4 hg6 (hk3 hg7 (kc (c56 hx8) (kc hg7 (kc hg6 (kc hg7 (kc hg6 (hk4 hg9 (kc (c57 hx10) (hk2 hg9 (hk6 hg11 (hk8 tt .nil))))))))))))) rfl
   replace ht := ite_f ht hg11
   obtain ⟨x12,hx12,ht⟩ := bind_some ht
   rcases bq (!x12) with hg13 | hg13
   ·replace ht := ite_t ht hg13
    obtain rfl := sj ht
    exact rb [hE,hE,hN (.cal [] (.bool x5) true),hE,hE,hY,hY,hY,hY,hY,hY,(.y,(.cal [] (.bool x8) true)),hY,(.y,(.pk true)),hN (.pk false),hE,hY,hY,hY,(.y,(.cal [] (.bool x10) true)),hY,hN (.pk false),hE,hY,hY,hY,(.y,(.cal [] (.bool x12) true)),hY,hN (.pk false),hE,hS,hS,hS,hS,hS,hN (.pk true),hE,hS,hS,hS,hE] true (kc (c24 hx5) (hk4 hg6 (hk3 hg7 (kc (c56 hx8) (kc hg7 (kc hg6 (kc hg7 (kc hg6 (hk4 hg9 (kc (c57 hx10) (hk2 hg9 (hk4 hg11 (kc (c57 hx12) (hk2 hg11 (hk6 hg13 (hk3 tt .nil)))))))))))))))) rfl
   replace ht := ite_f ht hg13
   obtain ⟨x14,hx14,ht⟩ := bind_some ht
   rcases bq (!x14) with hg15 | hg15
   ·replace ht := ite_t ht hg15
    obtain rfl := sj ht
    exact rb [hE,hE,hN (.cal [] (.bool x5) true),hE,hE,hY,hY,hY,hY,hY,hY,(.y,(.cal [] (.bool x8) true)),hY,(.y,(.pk true)),hN (.pk false),hE,hY,hY,hY,(.y,(.cal [] (.bool x10) true)),hY,hN (.pk false),hE,hY,hY,hY,(.y,(.cal [] (.bool x12) true)),hY,hN (.pk false),hE,hY,hY,hY,(.y,(.cal [] (.bool x14) true)),hY,hN (.pk false),hE,hS,hS,hS,hN (.pk true)] true (kc (c24 hx5) (hk4 hg6 (hk3 hg7 (kc (c56 hx8) (kc hg7 (kc hg6 (kc hg7 (kc hg6 (hk4 hg9 (kc (c57 hx10) (hk2 hg9 (hk4 hg11 (kc (c57 hx12) (hk2 hg11 (hk4 hg13 (kc (c57 hx14) (hk2 hg13 (hk4 hg15 .nil)))))))))))))))))) rfl
   replace ht := ite_f ht hg15
   obtain rfl := sj ht
   exact rb [hE,hE,hN (.cal [] (.bool x5) true),hE,hE,hY,hY,hY,hY,hY,hY,(.y,(.cal [] (.bool x8) true)),hY,(.y,(.pk true)),hN (.pk false),hE,hY,hY,hY,(.y,(.cal [] (.bool x10) true)),hY,hN (.pk false),hE,hY,hY,hY,(.y,(.cal [] (.bool x12) true)),hY,hN (.pk false),hE,hY,hY,hY,(.y,(.cal [] (.bool x14) true)),hY,hN (.pk false),hE,hY,hY,hY,hN (.pk false)] (!decide (x_.Status = [])) (kc (c24 hx5) (hk4 hg6 (hk3 hg7 (kc (c56 hx8) (kc hg7 (kc hg6 (kc hg7 (kc hg6 (hk4 hg9 (kc (c57 hx10) (hk2 hg9 (hk4 hg11 (kc (c57 hx12) (hk2 hg11 (hk4 hg13 (kc (c57 hx14) (hk2 hg13 (hk4 hg15 .nil)))))))))))))))))) rfl
  replace ht := ite_f ht hg7
  obtain ⟨x16,hx16,ht⟩ := bind_some ht
  rcases bq (!x16) with hg17 | hg17
  ·replace ht := ite_t ht hg17
   obtain rfl := sj ht
   exact rb [hE,hE,hN (.cal [] (.bool x5) true),hE,hE,hY,hY,hY,hY,hS,hS,hS,hS,(.y,(.pk false)),hN (.pk false),hE,hY,hY,hY,(.y,(.cal [] (.bool x16) true)),hY,hE,hE,hS,hS,hS,hS,hS,hN (.pk true),hE,hS,hS,hS,hS,hS,hE,hE,hS,hS,hS,hE] true (kc (c24 hx5) (hk4 hg6 (hk4 hg7 (kc hg6 (kc hg7 (kc hg6 (hk4 ff (kc (c57 hx16) (kc ff (hk6 hg17 (hk8 tt .nil))))))))))) rfl
  replace ht := ite_f ht hg17
  obtain ⟨x18,hx18,ht⟩ := bind_some ht
  rcases bq (!x18) with hg19 | hg19
  ·replace ht := ite_t ht hg19
   obtain rfl := sj ht
   exact rb [hE,hE,hN (.cal [] (.bool x5) true),hE,hE,hY,hY,hY,hY,hS,hS,hS,hS,(.y,(.pk false)),hN (.pk false),hE,hY,hY,hY,(.y,(.cal [] (.bool x16) true)),hY,hE,hE,hY,hY,hY,(.y,(.cal [] (.bool x18) true)),hY,hN (.pk false),hE,hS,hS,hS,hS,hS,hN (.pk true),hE,hS,hS,hS,hE] true (kc (c24 hx5) (hk4 hg6 (hk4 hg7 (kc hg6 (kc hg7 (kc hg6 (hk4 ff (kc (c57 hx16) (kc ff (hk4 hg17 (kc (c57 hx18) (hk2 hg17 (hk6 hg19 (hk3 tt .nil)))))))))))))) rfl
  replace ht := ite_f ht hg19
  obtain ⟨x20,hx20,ht⟩ := bind_some ht
  rcases bq (!x20) with hg21 | hg21
  ·replace ht := ite_t ht hg21
   obtain rfl := sj ht
   exact rb [hE,hE,hN (.cal [] (.bool x5) true),hE,hE,hY,hY,hY,hY,hS,hS,hS,hS,(.y,(.pk false)),hN (.pk false),hE,hY,hY,hY,(.y,(.cal [] (.bool x16) true)),hY,hE,hE,hY,hY,hY,(.y,(.cal [] (.bool x18) true)),hY,hN (.pk false),hE,hY,hY,hY,(.y,(.cal [] (.bool x20) true)),hY,hN (.pk false),hE,hS,hS,hS,hN (.pk true)] true (kc (c24 hx5) (hk4 hg6 (hk4 hg7 (kc hg6 (kc hg7 (kc hg6 (hk4 ff (kc (c57 hx16) (kc ff (hk4 hg17 (kc (c57 hx18) (hk2 hg17 (hk4 hg19 (kc (c57 hx20) (hk2 hg19 (hk4 hg21 .nil)))))))))))))))) rfl
  replace ht := ite_f ht hg21
  obtain rfl := sj ht
  exact rb [hE,hE,hN (.cal [] (.bool x5) true),hE,hE,hY,hY,hY,hY,hS,hS,hS,hS,(.y,(.pk false)),hN (.pk false),hE,hY,hY,hY,(.y,(.cal [] (.bool x16) true)),hY,hE,hE,hY,hY,hY,(.y,(.cal [] (.bool x18) true)),hY,hN (.pk false),hE,hY,hY,hY,(.y,(.cal [] (.bool x20) true)),hY,hN (.pk false),hE,hY,hY,hY,hN (.pk false)] (!decide (x_.Status = [])) (kc (c24 hx5) (hk4 hg6 (hk4 hg7 (kc hg6 (kc hg7 (kc hg6 (hk4 ff (kc (c57 hx16) (kc ff (hk4 hg17 (kc (c57 hx18) (hk2 hg17 (hk4 hg19 (kc (c57 hx20) (hk2 hg19 (hk4 hg21 .nil)))))))))))))))) rfl
 clear ht
 refine x_if h rfl (fun hc23 h => ?_) (fun hc23 h => ?_)
 ·refine x_rg (rgn [hE] (⟨[(4,pB false)],[],0⟩)) ?_
  refine x_toret (x_tr ?_)
  obtain rfl := sj h
  exact ret0 (.bool false) (.refl _) (fun _ => rfl)
 refine x_kk (x_skip (x_tn ?_))
 obtain ⟨x24,hx24,h⟩ := bind_some h
 refine x_rg (rg0 [hE,hE,hN (.cal [] (.tup [.str x24.1,.int .i64 x24.2]) true),hE,hE,hE,hE,hE] (⟨[oP 2 0,oP 3 1,(5,pS x24.1),(6,pI x24.2)],[rP 0 3 (zE3 p),rP 1 13 (zE2 x_)],2⟩) (kc (c58 hx24) .nil)) ?_
 refine x_seq ?_
 obtain ⟨t30,ht,h⟩ := bind_some h
 refine x_rgB (fun b_ => (⟨[oP 2 0,oP 3 1,(93,pB b_)],[rP 0 3 (zE3 p),rP 1 13 (zE2 x_)],2⟩ : VSt)) t30 ?_ ?_
 ·rcases bq (!decide (x24.2 = 0)) with hg25 | hg25
  ·replace ht := ite_t ht hg25
   obtain rfl := sj ht
   exact rb [hE,hE,hE,hS,hS,hS,hS,hN (.pk true),hE,hS,hS,hS,hE,hE,hS,hS,hS,hS,hE,hE,hS,hS,hS,hS,hE] true (hk5 hg25 (hk3 tt (hk8 tt .nil))) rfl
  replace ht := ite_f ht hg25
  rcases bq (!decide (x24.1 = x_.Cwd)) with hg26 | hg26
  ·replace ht := ite_t ht hg26
   obtain rfl := sj ht
   exact rb [hE,hE,hE,hY,hY,hY,hY,hN (.pk false),hE,hS,hS,hS,hN (.pk true),hE,hS,hS,hS,hS,hE,hE,hS,hS,hS,hS,hE] true (hk5 hg25 (hk4 hg26 (hk8 tt .nil))) rfl
  replace ht := ite_f ht hg26
  obtain ⟨x27,hx27,ht⟩ := bind_some ht
  rcases bq (!x27) with hg28 | hg28
  ·replace ht := ite_t ht hg28
   obtain rfl := sj ht
   exact rb [hE,hE,hE,hY,hY,hY,hY,hN (.pk false),hE,hY,(.y,(.cal [] (.bool x27) true)),hY,hN (.pk false),hE,hS,hS,hS,hS,hN (.pk true),hE,hS,hS,hS,hS,hE] true (hk5 hg25 (hk2 hg26 (kc (c59 hx27) (hk2 hg26 (hk5 hg28 (hk4 tt .nil)))))) rfl
  replace ht := ite_f ht hg28
  rcases bq (decide (8 < (List.length x_.Notes : Int))) with hg29 | hg29
  ·replace ht := ite_t ht hg29
   obtain rfl := sj ht
   exact rb [hE,hE,hE,hY,hY,hY,hY,hN (.pk false),hE,hY,(.y,(.cal [] (.bool x27) true)),hY,hN (.pk false),hE,hY,hY,(.y,(.len (List.length x_.Notes : Int))),hY,hN (.pk false),hE,hS,hS,hS,hS,hN (.pk true)] true (hk5 hg25 (hk2 hg26 (kc (c59 hx27) (hk2 hg26 (hk3 hg28 (kc (lenM PV.str x_.Notes) (hk2 hg28 (hk5 hg29 .nil)))))))) rfl
  replace ht := ite_f ht hg29
  obtain rfl := sj ht
  exact rb [hE,hE,hE,hY,hY,hY,hY,hN (.pk false),hE,hY,(.y,(.cal [] (.bool x27) true)),hY,hN (.pk false),hE,hY,hY,(.y,(.len (List.length x_.Notes : Int))),hY,hN (.pk false),hE,hY,hY,(.y,(.len (List.length x_.Waits : Int))),hY,hN (.pk false)] (decide (64 < (List.length x_.Waits : Int))) (hk5 hg25 (hk2 hg26 (kc (c59 hx27) (hk2 hg26 (hk3 hg28 (kc (lenM PV.str x_.Notes) (hk2 hg28 (hk3 hg29 (kc (lenM zE1 x_.Waits) (hk2 hg29 .nil)))))))))) rfl
 clear ht
 refine x_if h rfl (fun hc31 h => ?_) (fun hc31 h => ?_)
 ·refine x_rg (rgn [hE] (⟨[(4,pB false)],[],0⟩)) ?_
  refine x_toret (x_tr ?_)
  obtain rfl := sj h
  exact ret0 (.bool false) (.refl _) (fun _ => rfl)
 refine x_kk (x_skip (x_tn (x_seq ?_)))
 refine x_rg (rgn [hE] (⟨[oP 2 0,oP 3 1,(7,pI 0)],[rP 0 3 (zE3 p),rP 1 13 (zE2 x_)],2⟩)) ?_
 refine x_block ?_
 refine kw0 (⟨[oP 2 0,oP 3 1,(7,pI 0)],[rP 0 3 (zE3 p),rP 1 13 (zE2 x_)],2⟩) ?_
 refine x_loop (σ := Int) h (fun s => ⟨[oP 2 0,oP 3 1,(7,pI s)],[rP 0 3 (zE3 p),rP 1 13 (zE2 x_)],2⟩) (by kernel_rfl) ?_ ?_
 ·rintro i
  kernel_rfl
 rintro i x36 h hx36
 replace h : ref30_fields_L36 p x_ i = some x36 := h
 unfold ref30_fields_L36 at h
 refine x_seq ?_
 refine x_rg (rg0 [hE,hE,hE,hN (.len (List.length x_.Notes : Int)),hE] (⟨[oP 2 0,oP 3 1,(7,pI i),(98,pB (decide (i < (List.length x_.Notes : Int))))],[rP 0 3 (zE3 p),rP 1 13 (zE2 x_)],2⟩) (kc (lenM PV.str x_.Notes) .nil)) ?_
 refine x_if h rfl (fun hc37 h => ?_) (fun hc37 h => ?_)
 ·refine x_kk (x_skip (x_tn (x_seq (x_block ?_))))
  obtain ⟨x38,hx38,h⟩ := bind_some h
  refine x_rg (rg0 [hE,hE,hE,hN (.pAt (.str x38)),hE,hE,hE] (⟨[oP 2 0,oP 3 1,(7,pI i),(107,pB (decide (1024 < (List.length x38 : Int))))],[rP 0 3 (zE3 p),rP 1 13 (zE2 x_)],2⟩) (kc (lsAt_map (f := PV.str) hx38) .nil)) ?_
  refine x_if h rfl (fun hc39 h => ?_) (fun hc39 h => ?_)
  ·refine x_rg (rgn [hE] (⟨[(4,pB false)],[],0⟩)) ?_
   refine x_toret (x_br (x_tr (x_tr ?_)))
   replace h := done_leaf h hx36
   refine x_br (x_tr ?_)
   obtain rfl := sj h
   exact ret0 (.bool false) (.refl _) (fun _ => rfl)
  refine x_kk (x_skip (x_bn (x_tn ?_)))
  refine x_rgt (rgn [hE,hE,hE] (⟨[oP 2 0,oP 3 1,(7,pI (IntKind.wrap .i64 (i + 1)))],[rP 0 3 (zE3 p),rP 1 13 (zE2 x_)],2⟩)) ?_
  refine x_tn ?_
  exact ⟨_,(sj h).symm,by kernel_rfl⟩
 refine kw0 (⟨[oP 2 0,oP 3 1],[rP 0 3 (zE3 p),rP 1 13 (zE2 x_)],2⟩) ?_
 refine x_exit ?_
 refine x_te (x_te ?_)
 replace h := done_map h hx36
 refine x_bh ?_
 refine x_tn (x_seq ?_)
 refine x_rg (rgn [hE] (⟨[oP 2 0,oP 3 1,(8,pI 0)],[rP 0 3 (zE3 p),rP 1 13 (zE2 x_)],2⟩)) ?_
 refine x_block ?_
 refine kw0 (⟨[oP 2 0,oP 3 1,(8,pI 0)],[rP 0 3 (zE3 p),rP 1 13 (zE2 x_)],2⟩) ?_
 refine x_loop (σ := Int) h (fun s => ⟨[oP 2 0,oP 3 1,(8,pI s)],[rP 0 3 (zE3 p),rP 1 13 (zE2 x_)],2⟩) (by kernel_rfl) ?_ ?_
 ·rintro i_1
  kernel_rfl
 rintro i_1 x49 h hx49
 replace h : ref30_fields_L49 p x_ i_1 = some x49 := h
 unfold ref30_fields_L49 at h
 refine x_seq ?_
 refine x_rg (rg0 [hE,hE,hE,hN (.len (List.length x_.Waits : Int)),hE] (⟨[oP 2 0,oP 3 1,(8,pI i_1),(112,pB (decide (i_1 < (List.length x_.Waits : Int))))],[rP 0 3 (zE3 p),rP 1 13 (zE2 x_)],2⟩) (kc (lenM zE1 x_.Waits) .nil)) ?_
 refine x_if h rfl (fun hc50 h => ?_) (fun hc50 h => ?_)
 ·refine x_kk (x_skip (x_tn (x_seq (x_block ?_))))
  obtain ⟨x51,hx51,h⟩ := bind_some h
  obtain ⟨t56,ht,h⟩ := bind_some h
  refine x_rgB (fun b_ => (⟨[oP 2 0,oP 3 1,(8,pI i_1),(142,pB b_)],[rP 0 3 (zE3 p),rP 1 13 (zE2 x_)],2⟩ : VSt)) t56 ?_ ?_
  ·rcases bq (decide (x51.Id < 1)) with hg52 | hg52
   ·replace ht := ite_t ht hg52
    obtain rfl := sj ht
    exact rb [hE,hE,hE,hN (.pAt (zE1 x51)),hE,hE,hE,hE,hS,hS,hS,hS,hS,hS,hS,hS,hS,hN (.pk true),hE,hS,hS,hS,hS,hS,hS,hS,hS,hE] true (kc (lsAt_map (f := zE1) hx51) (hk2 hg52 (hk8 hg52 (hk8 tt .nil)))) rfl
   replace ht := ite_f ht hg52
   obtain ⟨x53,hx53,ht⟩ := bind_some ht
   rcases bq (decide (p.Next ≤ x53.Id)) with hg54 | hg54
   ·replace ht := ite_t ht hg54
    obtain rfl := sj ht
    exact rb [hE,hE,hE,hN (.pAt (zE1 x51)),hE,hE,hE,hE,hY,hY,hY,(.y,(.pAt (zE1 x53))),hY,hY,hY,hY,hY,hN (.pk false),hE,hS,hS,hS,hS,hS,hS,hS,hS,hN (.pk true)] true (kc (lsAt_map (f := zE1) hx51) (hk4 hg52 (kc (lsAt_map (f := zE1) hx53) (hk6 hg52 (kc hg54 (hk8 hg54 .nil)))))) rfl
   replace ht := ite_f ht hg54
   obtain ⟨x55,hx55,ht⟩ := bind_some ht
   obtain rfl := sj ht
   exact rb [hE,hE,hE,hN (.pAt (zE1 x51)),hE,hE,hE,hE,hY,hY,hY,(.y,(.pAt (zE1 x53))),hY,hY,hY,hY,hY,hN (.pk false),hE,hY,hY,hY,(.y,(.pAt (zE1 x55))),hY,hY,hY,hY,hN (.pk false)] (decide (1024 < (List.length x55.Status : Int))) (kc (lsAt_map (f := zE1) hx51) (hk4 hg52 (kc (lsAt_map (f := zE1) hx53) (hk6 hg52 (hk4 hg54 (kc (lsAt_map (f := zE1) hx55) (hk5 hg54 .nil))))))) rfl
  clear ht
  refine x_if h rfl (fun hc57 h => ?_) (fun hc57 h => ?_)
  ·refine x_rg (rgn [hE] (⟨[(4,pB false)],[],0⟩)) ?_
   refine x_toret (x_br (x_tr (x_tr ?_)))
   replace h := done_leaf h hx49
   refine x_br (x_tr ?_)
   obtain rfl := sj h
   exact ret0 (.bool false) (.refl _) (fun _ => rfl)
  refine x_kk (x_skip (x_bn (x_tn ?_)))
  refine x_rgt (rgn [hE,hE,hE] (⟨[oP 2 0,oP 3 1,(8,pI (IntKind.wrap .i64 (i_1 + 1)))],[rP 0 3 (zE3 p),rP 1 13 (zE2 x_)],2⟩)) ?_
  refine x_tn ?_
  exact ⟨_,(sj h).symm,by kernel_rfl⟩
 refine kw0 (⟨[],[],0⟩) ?_
 refine x_exit ?_
 refine x_te (x_te ?_)
 replace h := done_leaf h hx49
 refine x_bh ?_
 refine x_tn ?_
 refine x_rg (rgn [hE] (⟨[(4,pB true)],[],0⟩)) ?_
 refine x_toret ?_
 obtain rfl := sj h
 exact ret0 (.bool true) (.refl _) (fun _ => rfl)
end Go.Proofs.YtfaobpifaobobaaDoor
