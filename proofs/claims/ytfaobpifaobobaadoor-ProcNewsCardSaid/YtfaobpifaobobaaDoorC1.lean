/- The functions of the program compute what their plain forms compute; printed by a program of the claim's author. -/
import Derived.Test.YtfaobpifaobobaaDoorC
import Derived.Test.YtfaobpifaobobaaDoorS
import Derived.Test.YtfaobpifaobobaaDoorShelf
import Derived.Test.YtfaobpifaobobaaDoorVmB
import Derived.Test.YtfaobpifaobobaaDoorF
namespace Go.Proofs.YtfaobpifaobobaaDoor
open Go.Vm
set_option autoImplicit false
set_option linter.unusedVariables false
set_option linter.unusedSimpArgs false
set_option maxRecDepth 100000

theorem c24 {name : Str} {r : Bool} (h : ref05_Valid name = some r) : CallOK Tryd.prog 24 [.str name] (.bool r) true := by
  apply ok24
  unfold ref05_Valid at h
  refine x_rg (rgn [hE] (⟨[(0, pS name)], [], 0⟩)) ?_
  refine x_seq ?_
  refine x_rg (st2 := ⟨[(0, pS name), (13, pB ((decide ((List.length name : Int) < 1)) || (decide (32 < (List.length name : Int)))))], [], 0⟩) ?_ ?_
  ·rcases Bool.eq_false_or_eq_true (decide ((List.length name : Int) < 1)) with hg1 | hg1
   ·exact rg [hE, hE, hE, hE, hS, hS, hS, hN (.pk true)] (⟨[(0, pS name), (13, pB true)], [], 0⟩) (.cons hg1 (.cons hg1 (.cons hg1 (.cons hg1 .nil)))) (.of_eq (by simp only [hg1, bs, reduceIte]))
   ·exact rg [hE, hE, hE, hE, hY, hY, hY, hN (.pk false)] (⟨[(0, pS name), (13, pB (decide (32 < (List.length name : Int))))], [], 0⟩) (.cons hg1 (.cons hg1 (.cons hg1 (.cons hg1 .nil)))) (.of_eq (by simp only [hg1, bs, reduceIte]))
  ·refine x_cond _ rfl (fun hc3 => ?_) (fun hc3 => ?_)
   ·replace h := ite_t h hc3
    refine x_rg (rgn [hE] (⟨[(2, pB false)], [], 0⟩)) ?_
    refine x_toret ?_
    refine x_tr ?_
    obtain rfl := Option.some.inj h
    exact ret0 (.bool false) (.refl _) (fun _ => rfl)
   ·replace h := ite_f h hc3
    refine kw0 (⟨[(0, pS name)], [], 0⟩) ?_
    refine x_skip ?_
    refine x_tn ?_
    refine x_seq ?_
    refine x_rg (rgn [hE] (⟨[(0, pS name), (3, pI 0)], [], 0⟩)) ?_
    refine x_block ?_
    refine kw0 (⟨[(0, pS name), (3, pI 0)], [], 0⟩) ?_
    refine x_loop (σ := Int) h (fun s => ⟨[(0, pS name), (3, pI s)], [], 0⟩) (by kernel_rfl) ?_ ?_
    ·rintro i
     kernel_rfl
    ·rintro i x12 h hx12
     replace h : ref05_Valid_L12 name i = some x12 := h
     unfold ref05_Valid_L12 at h
     refine x_seq ?_
     refine x_rg (rgn [hE, hE, hE, hE] (⟨[(0, pS name), (3, pI i), (17, pB (decide (i < (List.length name : Int))))], [], 0⟩)) ?_
     refine x_cond _ rfl (fun hc13 => ?_) (fun hc13 => ?_)
     ·replace h := ite_t h hc13
      refine kw0 (⟨[(0, pS name), (3, pI i)], [], 0⟩) ?_
      refine x_skip ?_
      refine x_tn ?_
      refine x_seq ?_
      refine x_block ?_
      obtain ⟨c14, hc14, h⟩ := bind_some h
      refine x_rg (rg0 [hE, hE, hN (.sAt c14), hE] (⟨[(0, pS name), (3, pI i), (4, .pv (.int .u8 (c14.toNat : Int)))], [], 0⟩) (.cons hc14 .nil)) ?_
      refine x_rg (st2 := ⟨[(0, pS name), (3, pI i), (4, .pv (.int .u8 (c14.toNat : Int))), (5, pB ((decide (97 ≤ (c14.toNat : Int))) && (decide ((c14.toNat : Int) ≤ 122))))], [], 0⟩) ?_ ?_
      ·rcases Bool.eq_false_or_eq_true (decide (97 ≤ (c14.toNat : Int))) with hg15 | hg15
       ·exact rg [hE, hE, hE, hY, hY, hN (.pk true), hE] (⟨[(0, pS name), (3, pI i), (4, .pv (.int .u8 (c14.toNat : Int))), (5, pB (decide ((c14.toNat : Int) ≤ 122)))], [], 0⟩) (.cons hg15 (.cons hg15 (.cons hg15 .nil))) (.of_eq (by simp only [hg15, bs, reduceIte]))
       ·exact rg [hE, hE, hE, hS, hS, hN (.pk false), hE] (⟨[(0, pS name), (3, pI i), (4, .pv (.int .u8 (c14.toNat : Int))), (5, pB false)], [], 0⟩) (.cons hg15 (.cons hg15 (.cons hg15 .nil))) (.of_eq (by simp only [hg15, bs, reduceIte]))
      ·refine x_rg (st2 := ⟨[(0, pS name), (3, pI i), (51, pB ((!((decide (97 ≤ (c14.toNat : Int))) && (decide ((c14.toNat : Int) ≤ 122)))) && ((decide (i = 0)) || (if (decide (48 ≤ (c14.toNat : Int))) then ((!(decide ((c14.toNat : Int) ≤ 57))) && ((!decide ((c14.toNat : Int) = 45)) && (!decide ((c14.toNat : Int) = 95)))) else ((!decide ((c14.toNat : Int) = 45)) && (!decide ((c14.toNat : Int) = 95)))))))], [], 0⟩) ?_ ?_
       ·rcases Bool.eq_false_or_eq_true (!((decide (97 ≤ (c14.toNat : Int))) && (decide ((c14.toNat : Int) ≤ 122)))) with hg17 | hg17
        ·rcases Bool.eq_false_or_eq_true (decide (i = 0)) with hg18 | hg18
         ·exact rg [hE, hE, hE, hY, hY, hY, hS, hS, hS, (.u, .e), (.u, .e), hS, hS, hS, (.u, .e), (.u, .e), hS, hS, (.u, .e), (.u, .e), hS, (.y, (.pk true)), hN (.pk true)] (⟨[(0, pS name), (3, pI i), (51, pB true)], [], 0⟩) (.cons hg17 (.cons hg17 (.cons hg17 (.cons hg18 (.cons hg18 (.cons hg18 (.cons hg18 (.cons hg18 (.cons hg18 (.cons hg18 (.cons hg18 (.cons hg18 (.cons hg17 (.cons hg18 (.cons hg17 .nil))))))))))))))) (.of_eq (by simp only [hg17, hg18, bs, reduceIte]))
         ·rcases Bool.eq_false_or_eq_true (decide (48 ≤ (c14.toNat : Int))) with hg19 | hg19
          ·rcases Bool.eq_false_or_eq_true (!(decide ((c14.toNat : Int) ≤ 57))) with hg20 | hg20
           ·rcases Bool.eq_false_or_eq_true (!decide ((c14.toNat : Int) = 45)) with hg21 | hg21
            ·exact rg [hE, hE, hE, hY, hY, hY, hY, hY, hY, hY, hY, (.y, (.pk true)), hY, hY, hY, hY, (.y, (.pk true)), hY, hY, hY, (.y, (.pk true)), (.y, (.pk false)), hN (.pk true)] (⟨[(0, pS name), (3, pI i), (51, pB (!decide ((c14.toNat : Int) = 95)))], [], 0⟩) (.cons hg17 (.cons hg17 (.cons hg17 (.cons hg18 (.cons hg18 (.cons hg18 (.cons hg19 (.cons hg19 (.cons hg18 (.cons hg19 (.cons hg18 (.cons hg18 (.cons hg20 (.cons hg20 (.cons hg18 (.cons hg20 (.cons hg18 (.cons hg21 (.cons hg21 (.cons hg18 (.cons hg21 (.cons hg17 (.cons hg18 (.cons hg17 .nil)))))))))))))))))))))))) (.of_eq (by simp only [hg17, hg18, hg19, hg20, hg21, bs, reduceIte]))
            ·exact rg [hE, hE, hE, hY, hY, hY, hY, hY, hY, hY, hY, (.y, (.pk true)), hY, hY, hY, hY, (.y, (.pk true)), hY, hS, hS, (.y, (.pk false)), (.y, (.pk false)), hN (.pk true)] (⟨[(0, pS name), (3, pI i), (51, pB false)], [], 0⟩) (.cons hg17 (.cons hg17 (.cons hg17 (.cons hg18 (.cons hg18 (.cons hg18 (.cons hg19 (.cons hg19 (.cons hg18 (.cons hg19 (.cons hg18 (.cons hg18 (.cons hg20 (.cons hg20 (.cons hg18 (.cons hg20 (.cons hg18 (.cons hg21 (.cons hg21 (.cons hg18 (.cons hg21 (.cons hg17 (.cons hg18 (.cons hg17 .nil)))))))))))))))))))))))) (.of_eq (by simp only [hg17, hg18, hg19, hg20, hg21, bs, reduceIte]))
           ·exact rg (obs := [((!((decide (97 ≤ (c14.toNat : Int))) && (decide ((c14.toNat : Int) ≤ 122)))) = true), ((!((decide (97 ≤ (c14.toNat : Int))) && (decide ((c14.toNat : Int) ≤ 122)))) = true), ((!((decide (97 ≤ (c14.toNat : Int))) && (decide ((c14.toNat : Int) ≤ 122)))) = true), ((decide (i = 0)) = false), ((decide (i = 0)) = false), ((decide (i = 0)) = false), ((decide (48 ≤ (c14.toNat : Int))) = true), ((decide (48 ≤ (c14.toNat : Int))) = true), ((decide (i = 0)) = false), ((decide (48 ≤ (c14.toNat : Int))) = true), ((decide (i = 0)) = false), ((decide (i = 0)) = false), ((!(decide ((c14.toNat : Int) ≤ 57))) = false), ((!(decide ((c14.toNat : Int) ≤ 57))) = false), ((decide (i = 0)) = false), ((!(decide ((c14.toNat : Int) ≤ 57))) = false), ((decide (i = 0)) = false), (false = false), (false = false), ((decide (i = 0)) = false), ((!((decide (97 ≤ (c14.toNat : Int))) && (decide ((c14.toNat : Int) ≤ 122)))) = true), ((decide (i = 0)) = false), ((!((decide (97 ≤ (c14.toNat : Int))) && (decide ((c14.toNat : Int) ≤ 122)))) = true)]) [hE, hE, hE, hY, hY, hY, hY, hY, hY, hY, hY, (.y, (.pk true)), hY, hY, hS, hS, (.y, (.pk false)), hY, hS, hS, hY, (.y, (.pk false)), hN (.pk true)] (⟨[(0, pS name), (3, pI i), (51, pB false)], [], 0⟩) (.cons hg17 (.cons hg17 (.cons hg17 (.cons hg18 (.cons hg18 (.cons hg18 (.cons hg19 (.cons hg19 (.cons hg18 (.cons hg19 (.cons hg18 (.cons hg18 (.cons hg20 (.cons hg20 (.cons hg18 (.cons hg20 (.cons hg18 (.cons rfl (.cons rfl (.cons hg18 (.cons hg17 (.cons hg18 (.cons hg17 .nil))))))))))))))))))))))) (.of_eq (by simp only [hg17, hg18, hg19, hg20, bs, reduceIte]))
          ·rcases Bool.eq_false_or_eq_true (!decide ((c14.toNat : Int) = 45)) with hg22 | hg22
           ·exact rg [hE, hE, hE, hY, hY, hY, hY, hY, hY, hS, hS, (.y, (.pk false)), hY, hY, hY, hY, hY, hY, hY, hY, (.y, (.pk true)), (.y, (.pk false)), hN (.pk true)] (⟨[(0, pS name), (3, pI i), (51, pB (!decide ((c14.toNat : Int) = 95)))], [], 0⟩) (.cons hg17 (.cons hg17 (.cons hg17 (.cons hg18 (.cons hg18 (.cons hg18 (.cons hg19 (.cons hg19 (.cons hg18 (.cons hg19 (.cons hg18 (.cons hg18 (.cons tt (.cons tt (.cons hg18 (.cons hg18 (.cons hg22 (.cons hg22 (.cons hg18 (.cons hg22 (.cons hg17 (.cons hg18 (.cons hg17 .nil))))))))))))))))))))))) (.of_eq (by simp only [hg17, hg18, hg19, hg22, bs, reduceIte]))
           ·exact rg [hE, hE, hE, hY, hY, hY, hY, hY, hY, hS, hS, (.y, (.pk false)), hY, hY, hY, hY, hY, hY, hS, hS, (.y, (.pk false)), (.y, (.pk false)), hN (.pk true)] (⟨[(0, pS name), (3, pI i), (51, pB false)], [], 0⟩) (.cons hg17 (.cons hg17 (.cons hg17 (.cons hg18 (.cons hg18 (.cons hg18 (.cons hg19 (.cons hg19 (.cons hg18 (.cons hg19 (.cons hg18 (.cons hg18 (.cons tt (.cons tt (.cons hg18 (.cons hg18 (.cons hg22 (.cons hg22 (.cons hg18 (.cons hg22 (.cons hg17 (.cons hg18 (.cons hg17 .nil))))))))))))))))))))))) (.of_eq (by simp only [hg17, hg18, hg19, hg22, bs, reduceIte]))
        ·exact rg [hE, hE, hE, hS, hS, hS, (.u, .e), (.u, .e), (.u, .e), (.u, .e), (.u, .e), (.u, .e), (.u, .e), (.u, .e), (.u, .e), (.u, .e), (.u, .e), (.u, .e), (.u, .e), (.u, .e), (.u, .e), hS, hN (.pk false)] (⟨[(0, pS name), (3, pI i), (51, pB false)], [], 0⟩) (.cons hg17 (.cons hg17 (.cons hg17 (.cons hg17 (.cons hg17 .nil))))) (.of_eq (by simp only [hg17, bs, reduceIte]))
       ·refine x_cond _ rfl (fun hc24 => ?_) (fun hc24 => ?_)
        ·replace h := ite_t h hc24
         refine x_rg (rgn [hE] (⟨[(2, pB false)], [], 0⟩)) ?_
         refine x_toret ?_
         refine x_br ?_
         refine x_tr ?_
         refine x_tr ?_
         replace h := done_leaf h hx12
         refine x_br ?_
         refine x_tr ?_
         obtain rfl := Option.some.inj h
         exact ret0 (.bool false) (.refl _) (fun _ => rfl)
        ·replace h := ite_f h hc24
         refine kw0 (⟨[(0, pS name), (3, pI i)], [], 0⟩) ?_
         refine x_skip ?_
         refine x_bn ?_
         refine x_tn ?_
         refine x_rgt (rgn [hE, hE, hE] (⟨[(0, pS name), (3, pI (IntKind.wrap .i64 (i + 1)))], [], 0⟩)) ?_
         refine x_tn ?_
         exact ⟨_, (Option.some.inj h).symm, by kernel_rfl⟩
     ·replace h := ite_f h hc13
      refine kw0 (⟨[], [], 0⟩) ?_
      refine x_exit ?_
      refine x_te ?_
      refine x_te ?_
      replace h := done_leaf h hx12
      refine x_bh ?_
      refine x_tn ?_
      refine x_rg (rgn [hE] (⟨[(2, pB true)], [], 0⟩)) ?_
      refine x_toret ?_
      obtain rfl := Option.some.inj h
      exact ret0 (.bool true) (.refl _) (fun _ => rfl)

theorem c10 {user : Str} {r : (api_Procs × Int)} (h : ref30_New user = some r) : CallOK Tryd.prog 10 [.str user] (.tup [.agg [.int .i64 r.1.Next, .int .i64 r.1.Group, .usl (some 13) (List.map enc_api_Proc r.1.L)], .int .i64 r.2]) false := by
  apply ok10
  unfold ref30_New at h
  refine x_rg (rgn [hE, hE] (⟨[(0, pS user), (2, .optr 0 0 0)], [(0, some (.p (some 3) [.agg [.int .i64 0, .int .i64 0, .usl (some 13) []]]))], 1⟩)) ?_
  refine x_seq ?_
  obtain ⟨x1, hx1, h⟩ := bind_some h
  refine x_rg (rg0 [hE, hN (.cal [] (.bool x1) true), hE] (⟨[(0, pS user), (2, .optr 0 0 0), (7, pB (!x1))], [(0, some (.p (some 3) [.agg [.int .i64 0, .int .i64 0, .usl (some 13) []]]))], 1⟩) (.cons (c24 hx1) .nil)) ?_
  refine x_cond _ rfl (fun hc2 => ?_) (fun hc2 => ?_)
  ·replace h := ite_t h hc2
   refine x_rg (rgn [hE, hE, hE] (⟨[(2, .optr 0 0 0), (3, pI 25)], [(0, some (.p (some 3) [.agg [.int .i64 0, .int .i64 0, .usl (some 13) []]]))], 1⟩)) ?_
   refine x_toret ?_
   refine x_tr ?_
   obtain rfl := Option.some.inj h
   exact ret0 (.tup [.agg [.int .i64 0, .int .i64 0, .usl (some 13) []], .int .i64 25]) (.tup (.cons (.refl _) (.cons (.refl _) .nil))) (fun h => nomatch h)
  ·replace h := ite_f h hc2
   refine kw0 (⟨[(0, pS user), (2, .optr 0 0 0)], [(0, some (.p (some 3) [.agg [.int .i64 0, .int .i64 0, .usl (some 13) []]]))], 1⟩) ?_
   refine x_skip ?_
   refine x_tn ?_
   refine x_rg (rgn [hE, hE, hE, hE] (⟨[(2, .optr 0 0 0), (4, .optr 1 0 0)], [(0, some (.p (some 3) [.agg [.int .i64 0, .int .i64 0, .usl (some 13) []]])), (1, some (.p (some 13) [.agg [.int .i64 1, .int .i64 0, .int .i64 1, .str user, .str [], .int .i64 1, .int .i64 1, .int .i64 1, .str [47], .usl none [], .str [], .usl (some 2) [], .bool false]]))], 2⟩)) ?_
   refine x_rg (rgn [hE, hE, hE, hE, hE] (⟨[(2, .optr 0 0 0), (3, pI 0)], [(0, some (.h (some 3) [.agg [pI 2, pI 2, .osl 1 0 1]])), (1, some (.p (some 13) [.agg [.int .i64 1, .int .i64 0, .int .i64 1, .str user, .str [], .int .i64 1, .int .i64 1, .int .i64 1, .str [47], .sl none (List.map PV.str ([] : List Str)), .str [], .sl (some 2) (List.map enc_api_Wait ([] : List api_Wait)), .bool false]]))], 2⟩)) ?_
   refine x_toret ?_
   obtain rfl := Option.some.inj h
   exact x_ret (.tup [.agg [.int .i64 2, .int .i64 2, .usl (some 13) (List.take 1 ([.agg [.int .i64 1, .int .i64 0, .int .i64 1, .str user, .str [], .int .i64 1, .int .i64 1, .int .i64 1, .str [47], .sl none (List.map PV.str ([] : List Str)), .str [], .sl (some 2) (List.map enc_api_Wait ([] : List api_Wait)), .bool false]] : List PV))], .int .i64 0]) [1] [1 ≤ List.length ([.agg [.int .i64 1, .int .i64 0, .int .i64 1, .str user, .str [], .int .i64 1, .int .i64 1, .int .i64 1, .str [47], .sl none (List.map PV.str ([] : List Str)), .str [], .sl (some 2) (List.map enc_api_Wait ([] : List api_Wait)), .bool false]] : List PV)] (by kernel_rfl) (.cons (Nat.le_refl _) .nil) (by decide) (.tup (.cons (.refl _) (.cons (.refl _) .nil))) (fun h => nomatch h)

theorem c17 {a : api_Proc} {b : api_Proc} {r : Bool} (h : ref30_Equal a b = some r) : CallOK Tryd.prog 17 [enc_api_Proc a, enc_api_Proc b] (.bool r) true := by
  apply ok17
  unfold ref30_Equal at h
  refine x_rg (rgn [hE, hE, hE] (⟨[(2, .optr 0 0 0), (3, .optr 1 0 0)], [(0, some (.p (some 13) [enc_api_Proc a])), (1, some (.p (some 13) [enc_api_Proc b]))], 2⟩)) ?_
  refine x_seq ?_
  refine x_rg (st2 := ⟨[(2, .optr 0 0 0), (3, .optr 1 0 0), (22, pB ((!decide ((List.length a.Notes : Int) = (List.length b.Notes : Int))) || (!decide ((List.length a.Waits : Int) = (List.length b.Waits : Int)))))], [(0, some (.p (some 13) [enc_api_Proc a])), (1, some (.p (some 13) [enc_api_Proc b]))], 2⟩) ?_ ?_
  ·rcases Bool.eq_false_or_eq_true (!decide ((List.length a.Notes : Int) = (List.length b.Notes : Int))) with hg1 | hg1
   ·exact rg [hE, hE, hN (.len (List.length a.Notes : Int)), hE, hE, hN (.len (List.length b.Notes : Int)), hE, hE, hS, hS, hS, hS, hS, hS, hS, hN (.pk true)] (⟨[(2, .optr 0 0 0), (3, .optr 1 0 0), (22, pB true)], [(0, some (.p (some 13) [enc_api_Proc a])), (1, some (.p (some 13) [enc_api_Proc b]))], 2⟩) (.cons (lenM PV.str a.Notes) (.cons (lenM PV.str b.Notes) (.cons hg1 (.cons hg1 (.cons hg1 (.cons hg1 (.cons hg1 (.cons hg1 (.cons hg1 (.cons hg1 .nil)))))))))) (.of_eq (by simp only [hg1, bs, reduceIte]))
   ·exact rg [hE, hE, hN (.len (List.length a.Notes : Int)), hE, hE, hN (.len (List.length b.Notes : Int)), hE, hE, hY, hY, (.y, (.len (List.length a.Waits : Int))), hY, hY, (.y, (.len (List.length b.Waits : Int))), hY, hN (.pk false)] (⟨[(2, .optr 0 0 0), (3, .optr 1 0 0), (22, pB (!decide ((List.length a.Waits : Int) = (List.length b.Waits : Int))))], [(0, some (.p (some 13) [enc_api_Proc a])), (1, some (.p (some 13) [enc_api_Proc b]))], 2⟩) (.cons (lenM PV.str a.Notes) (.cons (lenM PV.str b.Notes) (.cons hg1 (.cons hg1 (.cons hg1 (.cons (lenM enc_api_Wait a.Waits) (.cons hg1 (.cons hg1 (.cons hg1 (.cons (lenM enc_api_Wait b.Waits) (.cons hg1 (.cons hg1 .nil)))))))))))) (.of_eq (by simp only [hg1, bs, reduceIte]))
  ·refine x_cond _ rfl (fun hc3 => ?_) (fun hc3 => ?_)
   ·replace h := ite_t h hc3
    refine x_rg (rgn [hE] (⟨[(4, pB false)], [], 0⟩)) ?_
    refine x_toret ?_
    refine x_tr ?_
    obtain rfl := Option.some.inj h
    exact ret0 (.bool false) (.refl _) (fun _ => rfl)
   ·replace h := ite_f h hc3
    refine kw0 (⟨[(2, .optr 0 0 0), (3, .optr 1 0 0)], [(0, some (.p (some 13) [enc_api_Proc a])), (1, some (.p (some 13) [enc_api_Proc b]))], 2⟩) ?_
    refine x_skip ?_
    refine x_tn ?_
    refine x_seq ?_
    refine x_rg (rgn [hE] (⟨[(2, .optr 0 0 0), (3, .optr 1 0 0), (5, pI 0)], [(0, some (.p (some 13) [enc_api_Proc a])), (1, some (.p (some 13) [enc_api_Proc b]))], 2⟩)) ?_
    refine x_block ?_
    refine kw0 (⟨[(2, .optr 0 0 0), (3, .optr 1 0 0), (5, pI 0)], [(0, some (.p (some 13) [enc_api_Proc a])), (1, some (.p (some 13) [enc_api_Proc b]))], 2⟩) ?_
    refine x_loop (σ := Int) h (fun s => ⟨[(2, .optr 0 0 0), (3, .optr 1 0 0), (5, pI s)], [(0, some (.p (some 13) [enc_api_Proc a])), (1, some (.p (some 13) [enc_api_Proc b]))], 2⟩) (by kernel_rfl) ?_ ?_
    ·rintro i
     kernel_rfl
    ·rintro i x9 h hx9
     replace h : ref30_Equal_L9 a b i = some x9 := h
     unfold ref30_Equal_L9 at h
     refine x_seq ?_
     refine x_rg (rg0 [hE, hE, hE, hN (.len (List.length a.Notes : Int)), hE] (⟨[(2, .optr 0 0 0), (3, .optr 1 0 0), (5, pI i), (27, pB (decide (i < (List.length a.Notes : Int))))], [(0, some (.p (some 13) [enc_api_Proc a])), (1, some (.p (some 13) [enc_api_Proc b]))], 2⟩) (.cons (lenM PV.str a.Notes) .nil)) ?_
     refine x_cond _ rfl (fun hc10 => ?_) (fun hc10 => ?_)
     ·replace h := ite_t h hc10
      refine kw0 (⟨[(2, .optr 0 0 0), (3, .optr 1 0 0), (5, pI i)], [(0, some (.p (some 13) [enc_api_Proc a])), (1, some (.p (some 13) [enc_api_Proc b]))], 2⟩) ?_
      refine x_skip ?_
      refine x_tn ?_
      refine x_seq ?_
      refine x_block ?_
      obtain ⟨x11, hx11, h⟩ := bind_some h
      obtain ⟨x12, hx12, h⟩ := bind_some h
      refine x_rg (rg0 [hE, hE, hE, hN (.pAt (.str x11)), hE, hE, hE, hE, hN (.pAt (.str x12)), hE, hE] (⟨[(2, .optr 0 0 0), (3, .optr 1 0 0), (5, pI i), (40, pB (!decide (x11 = x12)))], [(0, some (.p (some 13) [enc_api_Proc a])), (1, some (.p (some 13) [enc_api_Proc b]))], 2⟩) (.cons (lsAt_map (f := PV.str) hx11) (.cons (lsAt_map (f := PV.str) hx12) .nil))) ?_
      refine x_cond _ rfl (fun hc13 => ?_) (fun hc13 => ?_)
      ·replace h := ite_t h hc13
       refine x_rg (rgn [hE] (⟨[(4, pB false)], [], 0⟩)) ?_
       refine x_toret ?_
       refine x_br ?_
       refine x_tr ?_
       refine x_tr ?_
       replace h := done_leaf h hx9
       refine x_br ?_
       refine x_tr ?_
       obtain rfl := Option.some.inj h
       exact ret0 (.bool false) (.refl _) (fun _ => rfl)
      ·replace h := ite_f h hc13
       refine kw0 (⟨[(2, .optr 0 0 0), (3, .optr 1 0 0), (5, pI i)], [(0, some (.p (some 13) [enc_api_Proc a])), (1, some (.p (some 13) [enc_api_Proc b]))], 2⟩) ?_
       refine x_skip ?_
       refine x_bn ?_
       refine x_tn ?_
       refine x_rgt (rgn [hE, hE, hE] (⟨[(2, .optr 0 0 0), (3, .optr 1 0 0), (5, pI (IntKind.wrap .i64 (i + 1)))], [(0, some (.p (some 13) [enc_api_Proc a])), (1, some (.p (some 13) [enc_api_Proc b]))], 2⟩)) ?_
       refine x_tn ?_
       exact ⟨_, (Option.some.inj h).symm, by kernel_rfl⟩
     ·replace h := ite_f h hc10
      refine kw0 (⟨[(2, .optr 0 0 0), (3, .optr 1 0 0)], [(0, some (.p (some 13) [enc_api_Proc a])), (1, some (.p (some 13) [enc_api_Proc b]))], 2⟩) ?_
      refine x_exit ?_
      refine x_te ?_
      refine x_te ?_
      replace h := done_map h hx9
      refine x_bh ?_
      refine x_tn ?_
      refine x_seq ?_
      refine x_rg (rgn [hE] (⟨[(2, .optr 0 0 0), (3, .optr 1 0 0), (6, pI 0)], [(0, some (.p (some 13) [enc_api_Proc a])), (1, some (.p (some 13) [enc_api_Proc b]))], 2⟩)) ?_
      refine x_block ?_
      refine kw0 (⟨[(2, .optr 0 0 0), (3, .optr 1 0 0), (6, pI 0)], [(0, some (.p (some 13) [enc_api_Proc a])), (1, some (.p (some 13) [enc_api_Proc b]))], 2⟩) ?_
      refine x_loop (σ := Int) h (fun s => ⟨[(2, .optr 0 0 0), (3, .optr 1 0 0), (6, pI s)], [(0, some (.p (some 13) [enc_api_Proc a])), (1, some (.p (some 13) [enc_api_Proc b]))], 2⟩) (by kernel_rfl) ?_ ?_
      ·rintro i_1
       kernel_rfl
      ·rintro i_1 x19 h hx19
       replace h : ref30_Equal_L19 a b i_1 = some x19 := h
       unfold ref30_Equal_L19 at h
       refine x_seq ?_
       refine x_rg (rg0 [hE, hE, hE, hN (.len (List.length a.Waits : Int)), hE] (⟨[(2, .optr 0 0 0), (3, .optr 1 0 0), (6, pI i_1), (45, pB (decide (i_1 < (List.length a.Waits : Int))))], [(0, some (.p (some 13) [enc_api_Proc a])), (1, some (.p (some 13) [enc_api_Proc b]))], 2⟩) (.cons (lenM enc_api_Wait a.Waits) .nil)) ?_
       refine x_cond _ rfl (fun hc20 => ?_) (fun hc20 => ?_)
       ·replace h := ite_t h hc20
        refine kw0 (⟨[(2, .optr 0 0 0), (3, .optr 1 0 0), (6, pI i_1)], [(0, some (.p (some 13) [enc_api_Proc a])), (1, some (.p (some 13) [enc_api_Proc b]))], 2⟩) ?_
        refine x_skip ?_
        refine x_tn ?_
        refine x_seq ?_
        refine x_block ?_
        obtain ⟨x21, hx21, h⟩ := bind_some h
        obtain ⟨x22, hx22, h⟩ := bind_some h
        refine x_rg (rg0 [hE, hE, hE, hN (.pAt (enc_api_Wait x21)), hE, hE, hE, hE, hN (.pAt (enc_api_Wait x22)), hE, hE] (⟨[(2, .optr 0 0 0), (3, .optr 1 0 0), (6, pI i_1), (58, pB (!(decide (x21.Id = x22.Id) && (decide (x21.Status = x22.Status) && true))))], [(0, some (.p (some 13) [enc_api_Proc a])), (1, some (.p (some 13) [enc_api_Proc b]))], 2⟩) (.cons (lsAt_map (f := enc_api_Wait) hx21) (.cons (lsAt_map (f := enc_api_Wait) hx22) .nil))) ?_
        refine x_cond _ rfl (fun hc23 => ?_) (fun hc23 => ?_)
        ·replace h := ite_t h hc23
         refine x_rg (rgn [hE] (⟨[(4, pB false)], [], 0⟩)) ?_
         refine x_toret ?_
         refine x_br ?_
         refine x_tr ?_
         refine x_tr ?_
         replace h := done_leaf h hx19
         refine x_br ?_
         refine x_tr ?_
         obtain rfl := Option.some.inj h
         exact ret0 (.bool false) (.refl _) (fun _ => rfl)
        ·replace h := ite_f h hc23
         refine kw0 (⟨[(2, .optr 0 0 0), (3, .optr 1 0 0), (6, pI i_1)], [(0, some (.p (some 13) [enc_api_Proc a])), (1, some (.p (some 13) [enc_api_Proc b]))], 2⟩) ?_
         refine x_skip ?_
         refine x_bn ?_
         refine x_tn ?_
         refine x_rgt (rgn [hE, hE, hE] (⟨[(2, .optr 0 0 0), (3, .optr 1 0 0), (6, pI (IntKind.wrap .i64 (i_1 + 1)))], [(0, some (.p (some 13) [enc_api_Proc a])), (1, some (.p (some 13) [enc_api_Proc b]))], 2⟩)) ?_
         refine x_tn ?_
         exact ⟨_, (Option.some.inj h).symm, by kernel_rfl⟩
       ·replace h := ite_f h hc20
        refine kw0 (⟨[(2, .optr 0 0 0), (3, .optr 1 0 0)], [(0, some (.p (some 13) [enc_api_Proc a])), (1, some (.p (some 13) [enc_api_Proc b]))], 2⟩) ?_
        refine x_exit ?_
        refine x_te ?_
        refine x_te ?_
        replace h := done_leaf h hx19
        refine x_bh ?_
        refine x_tn ?_
        refine x_rg (st2 := ⟨[(4, pB ((decide (a.Id = b.Id)) && ((decide (a.Parent = b.Parent)) && ((decide (a.State = b.State)) && ((decide (a.User = b.User)) && ((decide (a.Name = b.Name)) && ((decide (a.Ns = b.Ns)) && ((decide (a.Env = b.Env)) && ((decide (a.Fds = b.Fds)) && ((decide (a.Cwd = b.Cwd)) && ((decide (a.Status = b.Status)) && (decide (a.Alone = b.Alone)))))))))))))], [], 0⟩) ?_ ?_
        ·rcases Bool.eq_false_or_eq_true (decide (a.Id = b.Id)) with hg24 | hg24
         ·rcases Bool.eq_false_or_eq_true (decide (a.Parent = b.Parent)) with hg25 | hg25
          ·rcases Bool.eq_false_or_eq_true (decide (a.State = b.State)) with hg26 | hg26
           ·rcases Bool.eq_false_or_eq_true (decide (a.User = b.User)) with hg27 | hg27
            ·rcases Bool.eq_false_or_eq_true (decide (a.Name = b.Name)) with hg28 | hg28
             ·rcases Bool.eq_false_or_eq_true (decide (a.Ns = b.Ns)) with hg29 | hg29
              ·rcases Bool.eq_false_or_eq_true (decide (a.Env = b.Env)) with hg30 | hg30
               ·rcases Bool.eq_false_or_eq_true (decide (a.Fds = b.Fds)) with hg31 | hg31
                ·rcases Bool.eq_false_or_eq_true (decide (a.Cwd = b.Cwd)) with hg32 | hg32
                 ·rcases Bool.eq_false_or_eq_true (decide (a.Status = b.Status)) with hg33 | hg33
                  ·exact rg [hE, hE, hE, hE, hE, hE, hY, hY, hY, hY, hY, hN (.pk true), hE, hY, hY, hY, hY, hY, hN (.pk true), hE, hY, hY, hY, hY, hY, hN (.pk true), hE, hY, hY, hY, hY, hY, hN (.pk true), hE, hY, hY, hY, hY, hY, hN (.pk true), hE, hY, hY, hY, hY, hY, hN (.pk true), hE, hY, hY, hY, hY, hY, hN (.pk true), hE, hY, hY, hY, hY, hY, hN (.pk true), hE, hY, hY, hY, hY, hY, hN (.pk true), hE, hY, hY, hY, hY, hY, hN (.pk true), hE] (⟨[(4, pB (decide (a.Alone = b.Alone)))], [], 0⟩) (.cons hg24 (.cons hg24 (.cons hg24 (.cons hg24 (.cons hg24 (.cons hg24 (.cons hg25 (.cons hg25 (.cons hg25 (.cons hg25 (.cons hg25 (.cons hg25 (.cons hg26 (.cons hg26 (.cons hg26 (.cons hg26 (.cons hg26 (.cons hg26 (.cons hg27 (.cons hg27 (.cons hg27 (.cons hg27 (.cons hg27 (.cons hg27 (.cons hg28 (.cons hg28 (.cons hg28 (.cons hg28 (.cons hg28 (.cons hg28 (.cons hg29 (.cons hg29 (.cons hg29 (.cons hg29 (.cons hg29 (.cons hg29 (.cons hg30 (.cons hg30 (.cons hg30 (.cons hg30 (.cons hg30 (.cons hg30 (.cons hg31 (.cons hg31 (.cons hg31 (.cons hg31 (.cons hg31 (.cons hg31 (.cons hg32 (.cons hg32 (.cons hg32 (.cons hg32 (.cons hg32 (.cons hg32 (.cons hg33 (.cons hg33 (.cons hg33 (.cons hg33 (.cons hg33 (.cons hg33 .nil)))))))))))))))))))))))))))))))))))))))))))))))))))))))))))) (.of_eq (by simp only [hg24, hg25, hg26, hg27, hg28, hg29, hg30, hg31, hg32, hg33, bs, reduceIte]))
                  ·exact rg [hE, hE, hE, hE, hE, hE, hY, hY, hY, hY, hY, hN (.pk true), hE, hY, hY, hY, hY, hY, hN (.pk true), hE, hY, hY, hY, hY, hY, hN (.pk true), hE, hY, hY, hY, hY, hY, hN (.pk true), hE, hY, hY, hY, hY, hY, hN (.pk true), hE, hY, hY, hY, hY, hY, hN (.pk true), hE, hY, hY, hY, hY, hY, hN (.pk true), hE, hY, hY, hY, hY, hY, hN (.pk true), hE, hY, hY, hY, hY, hY, hN (.pk true), hE, hS, hS, hS, hS, hS, hN (.pk false), hE] (⟨[(4, pB false)], [], 0⟩) (.cons hg24 (.cons hg24 (.cons hg24 (.cons hg24 (.cons hg24 (.cons hg24 (.cons hg25 (.cons hg25 (.cons hg25 (.cons hg25 (.cons hg25 (.cons hg25 (.cons hg26 (.cons hg26 (.cons hg26 (.cons hg26 (.cons hg26 (.cons hg26 (.cons hg27 (.cons hg27 (.cons hg27 (.cons hg27 (.cons hg27 (.cons hg27 (.cons hg28 (.cons hg28 (.cons hg28 (.cons hg28 (.cons hg28 (.cons hg28 (.cons hg29 (.cons hg29 (.cons hg29 (.cons hg29 (.cons hg29 (.cons hg29 (.cons hg30 (.cons hg30 (.cons hg30 (.cons hg30 (.cons hg30 (.cons hg30 (.cons hg31 (.cons hg31 (.cons hg31 (.cons hg31 (.cons hg31 (.cons hg31 (.cons hg32 (.cons hg32 (.cons hg32 (.cons hg32 (.cons hg32 (.cons hg32 (.cons hg33 (.cons hg33 (.cons hg33 (.cons hg33 (.cons hg33 (.cons hg33 .nil)))))))))))))))))))))))))))))))))))))))))))))))))))))))))))) (.of_eq (by simp only [hg24, hg25, hg26, hg27, hg28, hg29, hg30, hg31, hg32, hg33, bs, reduceIte]))
                 ·exact rg (obs := [((decide (a.Id = b.Id)) = true), ((decide (a.Id = b.Id)) = true), ((decide (a.Id = b.Id)) = true), ((decide (a.Id = b.Id)) = true), ((decide (a.Id = b.Id)) = true), ((decide (a.Id = b.Id)) = true), ((decide (a.Parent = b.Parent)) = true), ((decide (a.Parent = b.Parent)) = true), ((decide (a.Parent = b.Parent)) = true), ((decide (a.Parent = b.Parent)) = true), ((decide (a.Parent = b.Parent)) = true), ((decide (a.Parent = b.Parent)) = true), ((decide (a.State = b.State)) = true), ((decide (a.State = b.State)) = true), ((decide (a.State = b.State)) = true), ((decide (a.State = b.State)) = true), ((decide (a.State = b.State)) = true), ((decide (a.State = b.State)) = true), ((decide (a.User = b.User)) = true), ((decide (a.User = b.User)) = true), ((decide (a.User = b.User)) = true), ((decide (a.User = b.User)) = true), ((decide (a.User = b.User)) = true), ((decide (a.User = b.User)) = true), ((decide (a.Name = b.Name)) = true), ((decide (a.Name = b.Name)) = true), ((decide (a.Name = b.Name)) = true), ((decide (a.Name = b.Name)) = true), ((decide (a.Name = b.Name)) = true), ((decide (a.Name = b.Name)) = true), ((decide (a.Ns = b.Ns)) = true), ((decide (a.Ns = b.Ns)) = true), ((decide (a.Ns = b.Ns)) = true), ((decide (a.Ns = b.Ns)) = true), ((decide (a.Ns = b.Ns)) = true), ((decide (a.Ns = b.Ns)) = true), ((decide (a.Env = b.Env)) = true), ((decide (a.Env = b.Env)) = true), ((decide (a.Env = b.Env)) = true), ((decide (a.Env = b.Env)) = true), ((decide (a.Env = b.Env)) = true), ((decide (a.Env = b.Env)) = true), ((decide (a.Fds = b.Fds)) = true), ((decide (a.Fds = b.Fds)) = true), ((decide (a.Fds = b.Fds)) = true), ((decide (a.Fds = b.Fds)) = true), ((decide (a.Fds = b.Fds)) = true), ((decide (a.Fds = b.Fds)) = true), ((decide (a.Cwd = b.Cwd)) = false), ((decide (a.Cwd = b.Cwd)) = false), ((decide (a.Cwd = b.Cwd)) = false), ((decide (a.Cwd = b.Cwd)) = false), ((decide (a.Cwd = b.Cwd)) = false), ((decide (a.Cwd = b.Cwd)) = false), (false = false), (false = false), (false = false), (false = false), (false = false)]) [hE, hE, hE, hE, hE, hE, hY, hY, hY, hY, hY, hN (.pk true), hE, hY, hY, hY, hY, hY, hN (.pk true), hE, hY, hY, hY, hY, hY, hN (.pk true), hE, hY, hY, hY, hY, hY, hN (.pk true), hE, hY, hY, hY, hY, hY, hN (.pk true), hE, hY, hY, hY, hY, hY, hN (.pk true), hE, hY, hY, hY, hY, hY, hN (.pk true), hE, hY, hY, hY, hY, hY, hN (.pk true), hE, hS, hS, hS, hS, hS, hN (.pk false), hE, hS, hS, hS, hS, hS, hE, hE] (⟨[(4, pB false)], [], 0⟩) (.cons hg24 (.cons hg24 (.cons hg24 (.cons hg24 (.cons hg24 (.cons hg24 (.cons hg25 (.cons hg25 (.cons hg25 (.cons hg25 (.cons hg25 (.cons hg25 (.cons hg26 (.cons hg26 (.cons hg26 (.cons hg26 (.cons hg26 (.cons hg26 (.cons hg27 (.cons hg27 (.cons hg27 (.cons hg27 (.cons hg27 (.cons hg27 (.cons hg28 (.cons hg28 (.cons hg28 (.cons hg28 (.cons hg28 (.cons hg28 (.cons hg29 (.cons hg29 (.cons hg29 (.cons hg29 (.cons hg29 (.cons hg29 (.cons hg30 (.cons hg30 (.cons hg30 (.cons hg30 (.cons hg30 (.cons hg30 (.cons hg31 (.cons hg31 (.cons hg31 (.cons hg31 (.cons hg31 (.cons hg31 (.cons hg32 (.cons hg32 (.cons hg32 (.cons hg32 (.cons hg32 (.cons hg32 (.cons rfl (.cons rfl (.cons rfl (.cons rfl (.cons rfl .nil))))))))))))))))))))))))))))))))))))))))))))))))))))))))))) (.of_eq (by simp only [hg24, hg25, hg26, hg27, hg28, hg29, hg30, hg31, hg32, bs, reduceIte]))
                ·exact rg (obs := [((decide (a.Id = b.Id)) = true), ((decide (a.Id = b.Id)) = true), ((decide (a.Id = b.Id)) = true), ((decide (a.Id = b.Id)) = true), ((decide (a.Id = b.Id)) = true), ((decide (a.Id = b.Id)) = true), ((decide (a.Parent = b.Parent)) = true), ((decide (a.Parent = b.Parent)) = true), ((decide (a.Parent = b.Parent)) = true), ((decide (a.Parent = b.Parent)) = true), ((decide (a.Parent = b.Parent)) = true), ((decide (a.Parent = b.Parent)) = true), ((decide (a.State = b.State)) = true), ((decide (a.State = b.State)) = true), ((decide (a.State = b.State)) = true), ((decide (a.State = b.State)) = true), ((decide (a.State = b.State)) = true), ((decide (a.State = b.State)) = true), ((decide (a.User = b.User)) = true), ((decide (a.User = b.User)) = true), ((decide (a.User = b.User)) = true), ((decide (a.User = b.User)) = true), ((decide (a.User = b.User)) = true), ((decide (a.User = b.User)) = true), ((decide (a.Name = b.Name)) = true), ((decide (a.Name = b.Name)) = true), ((decide (a.Name = b.Name)) = true), ((decide (a.Name = b.Name)) = true), ((decide (a.Name = b.Name)) = true), ((decide (a.Name = b.Name)) = true), ((decide (a.Ns = b.Ns)) = true), ((decide (a.Ns = b.Ns)) = true), ((decide (a.Ns = b.Ns)) = true), ((decide (a.Ns = b.Ns)) = true), ((decide (a.Ns = b.Ns)) = true), ((decide (a.Ns = b.Ns)) = true), ((decide (a.Env = b.Env)) = true), ((decide (a.Env = b.Env)) = true), ((decide (a.Env = b.Env)) = true), ((decide (a.Env = b.Env)) = true), ((decide (a.Env = b.Env)) = true), ((decide (a.Env = b.Env)) = true), ((decide (a.Fds = b.Fds)) = false), ((decide (a.Fds = b.Fds)) = false), ((decide (a.Fds = b.Fds)) = false), ((decide (a.Fds = b.Fds)) = false), ((decide (a.Fds = b.Fds)) = false), ((decide (a.Fds = b.Fds)) = false), (false = false), (false = false), (false = false), (false = false), (false = false), (false = false), (false = false), (false = false), (false = false), (false = false)]) [hE, hE, hE, hE, hE, hE, hY, hY, hY, hY, hY, hN (.pk true), hE, hY, hY, hY, hY, hY, hN (.pk true), hE, hY, hY, hY, hY, hY, hN (.pk true), hE, hY, hY, hY, hY, hY, hN (.pk true), hE, hY, hY, hY, hY, hY, hN (.pk true), hE, hY, hY, hY, hY, hY, hN (.pk true), hE, hY, hY, hY, hY, hY, hN (.pk true), hE, hS, hS, hS, hS, hS, hN (.pk false), hE, hS, hS, hS, hS, hS, hE, hE, hS, hS, hS, hS, hS, hE, hE] (⟨[(4, pB false)], [], 0⟩) (.cons hg24 (.cons hg24 (.cons hg24 (.cons hg24 (.cons hg24 (.cons hg24 (.cons hg25 (.cons hg25 (.cons hg25 (.cons hg25 (.cons hg25 (.cons hg25 (.cons hg26 (.cons hg26 (.cons hg26 (.cons hg26 (.cons hg26 (.cons hg26 (.cons hg27 (.cons hg27 (.cons hg27 (.cons hg27 (.cons hg27 (.cons hg27 (.cons hg28 (.cons hg28 (.cons hg28 (.cons hg28 (.cons hg28 (.cons hg28 (.cons hg29 (.cons hg29 (.cons hg29 (.cons hg29 (.cons hg29 (.cons hg29 (.cons hg30 (.cons hg30 (.cons hg30 (.cons hg30 (.cons hg30 (.cons hg30 (.cons hg31 (.cons hg31 (.cons hg31 (.cons hg31 (.cons hg31 (.cons hg31 (.cons rfl (.cons rfl (.cons rfl (.cons rfl (.cons rfl (.cons rfl (.cons rfl (.cons rfl (.cons rfl (.cons rfl .nil)))))))))))))))))))))))))))))))))))))))))))))))))))))))))) (.of_eq (by simp only [hg24, hg25, hg26, hg27, hg28, hg29, hg30, hg31, bs, reduceIte]))
               ·exact rg (obs := [((decide (a.Id = b.Id)) = true), ((decide (a.Id = b.Id)) = true), ((decide (a.Id = b.Id)) = true), ((decide (a.Id = b.Id)) = true), ((decide (a.Id = b.Id)) = true), ((decide (a.Id = b.Id)) = true), ((decide (a.Parent = b.Parent)) = true), ((decide (a.Parent = b.Parent)) = true), ((decide (a.Parent = b.Parent)) = true), ((decide (a.Parent = b.Parent)) = true), ((decide (a.Parent = b.Parent)) = true), ((decide (a.Parent = b.Parent)) = true), ((decide (a.State = b.State)) = true), ((decide (a.State = b.State)) = true), ((decide (a.State = b.State)) = true), ((decide (a.State = b.State)) = true), ((decide (a.State = b.State)) = true), ((decide (a.State = b.State)) = true), ((decide (a.User = b.User)) = true), ((decide (a.User = b.User)) = true), ((decide (a.User = b.User)) = true), ((decide (a.User = b.User)) = true), ((decide (a.User = b.User)) = true), ((decide (a.User = b.User)) = true), ((decide (a.Name = b.Name)) = true), ((decide (a.Name = b.Name)) = true), ((decide (a.Name = b.Name)) = true), ((decide (a.Name = b.Name)) = true), ((decide (a.Name = b.Name)) = true), ((decide (a.Name = b.Name)) = true), ((decide (a.Ns = b.Ns)) = true), ((decide (a.Ns = b.Ns)) = true), ((decide (a.Ns = b.Ns)) = true), ((decide (a.Ns = b.Ns)) = true), ((decide (a.Ns = b.Ns)) = true), ((decide (a.Ns = b.Ns)) = true), ((decide (a.Env = b.Env)) = false), ((decide (a.Env = b.Env)) = false), ((decide (a.Env = b.Env)) = false), ((decide (a.Env = b.Env)) = false), ((decide (a.Env = b.Env)) = false), ((decide (a.Env = b.Env)) = false), (false = false), (false = false), (false = false), (false = false), (false = false), (false = false), (false = false), (false = false), (false = false), (false = false), (false = false), (false = false), (false = false), (false = false), (false = false)]) [hE, hE, hE, hE, hE, hE, hY, hY, hY, hY, hY, hN (.pk true), hE, hY, hY, hY, hY, hY, hN (.pk true), hE, hY, hY, hY, hY, hY, hN (.pk true), hE, hY, hY, hY, hY, hY, hN (.pk true), hE, hY, hY, hY, hY, hY, hN (.pk true), hE, hY, hY, hY, hY, hY, hN (.pk true), hE, hS, hS, hS, hS, hS, hN (.pk false), hE, hS, hS, hS, hS, hS, hE, hE, hS, hS, hS, hS, hS, hE, hE, hS, hS, hS, hS, hS, hE, hE] (⟨[(4, pB false)], [], 0⟩) (.cons hg24 (.cons hg24 (.cons hg24 (.cons hg24 (.cons hg24 (.cons hg24 (.cons hg25 (.cons hg25 (.cons hg25 (.cons hg25 (.cons hg25 (.cons hg25 (.cons hg26 (.cons hg26 (.cons hg26 (.cons hg26 (.cons hg26 (.cons hg26 (.cons hg27 (.cons hg27 (.cons hg27 (.cons hg27 (.cons hg27 (.cons hg27 (.cons hg28 (.cons hg28 (.cons hg28 (.cons hg28 (.cons hg28 (.cons hg28 (.cons hg29 (.cons hg29 (.cons hg29 (.cons hg29 (.cons hg29 (.cons hg29 (.cons hg30 (.cons hg30 (.cons hg30 (.cons hg30 (.cons hg30 (.cons hg30 (.cons rfl (.cons rfl (.cons rfl (.cons rfl (.cons rfl (.cons rfl (.cons rfl (.cons rfl (.cons rfl (.cons rfl (.cons rfl (.cons rfl (.cons rfl (.cons rfl (.cons rfl .nil))))))))))))))))))))))))))))))))))))))))))))))))))))))))) (.of_eq (by simp only [hg24, hg25, hg26, hg27, hg28, hg29, hg30, bs, reduceIte]))
              ·exact rg (obs := [((decide (a.Id = b.Id)) = true), ((decide (a.Id = b.Id)) = true), ((decide (a.Id = b.Id)) = true), ((decide (a.Id = b.Id)) = true), ((decide (a.Id = b.Id)) = true), ((decide (a.Id = b.Id)) = true), ((decide (a.Parent = b.Parent)) = true), ((decide (a.Parent = b.Parent)) = true), ((decide (a.Parent = b.Parent)) = true), ((decide (a.Parent = b.Parent)) = true), ((decide (a.Parent = b.Parent)) = true), ((decide (a.Parent = b.Parent)) = true), ((decide (a.State = b.State)) = true), ((decide (a.State = b.State)) = true), ((decide (a.State = b.State)) = true), ((decide (a.State = b.State)) = true), ((decide (a.State = b.State)) = true), ((decide (a.State = b.State)) = true), ((decide (a.User = b.User)) = true), ((decide (a.User = b.User)) = true), ((decide (a.User = b.User)) = true), ((decide (a.User = b.User)) = true), ((decide (a.User = b.User)) = true), ((decide (a.User = b.User)) = true), ((decide (a.Name = b.Name)) = true), ((decide (a.Name = b.Name)) = true), ((decide (a.Name = b.Name)) = true), ((decide (a.Name = b.Name)) = true), ((decide (a.Name = b.Name)) = true), ((decide (a.Name = b.Name)) = true), ((decide (a.Ns = b.Ns)) = false), ((decide (a.Ns = b.Ns)) = false), ((decide (a.Ns = b.Ns)) = false), ((decide (a.Ns = b.Ns)) = false), ((decide (a.Ns = b.Ns)) = false), ((decide (a.Ns = b.Ns)) = false), (false = false), (false = false), (false = false), (false = false), (false = false), (false = false), (false = false), (false = false), (false = false), (false = false), (false = false), (false = false), (false = false), (false = false), (false = false), (false = false), (false = false), (false = false), (false = false), (false = false)]) [hE, hE, hE, hE, hE, hE, hY, hY, hY, hY, hY, hN (.pk true), hE, hY, hY, hY, hY, hY, hN (.pk true), hE, hY, hY, hY, hY, hY, hN (.pk true), hE, hY, hY, hY, hY, hY, hN (.pk true), hE, hY, hY, hY, hY, hY, hN (.pk true), hE, hS, hS, hS, hS, hS, hN (.pk false), hE, hS, hS, hS, hS, hS, hE, hE, hS, hS, hS, hS, hS, hE, hE, hS, hS, hS, hS, hS, hE, hE, hS, hS, hS, hS, hS, hE, hE] (⟨[(4, pB false)], [], 0⟩) (.cons hg24 (.cons hg24 (.cons hg24 (.cons hg24 (.cons hg24 (.cons hg24 (.cons hg25 (.cons hg25 (.cons hg25 (.cons hg25 (.cons hg25 (.cons hg25 (.cons hg26 (.cons hg26 (.cons hg26 (.cons hg26 (.cons hg26 (.cons hg26 (.cons hg27 (.cons hg27 (.cons hg27 (.cons hg27 (.cons hg27 (.cons hg27 (.cons hg28 (.cons hg28 (.cons hg28 (.cons hg28 (.cons hg28 (.cons hg28 (.cons hg29 (.cons hg29 (.cons hg29 (.cons hg29 (.cons hg29 (.cons hg29 (.cons rfl (.cons rfl (.cons rfl (.cons rfl (.cons rfl (.cons rfl (.cons rfl (.cons rfl (.cons rfl (.cons rfl (.cons rfl (.cons rfl (.cons rfl (.cons rfl (.cons rfl (.cons rfl (.cons rfl (.cons rfl (.cons rfl (.cons rfl .nil)))))))))))))))))))))))))))))))))))))))))))))))))))))))) (.of_eq (by simp only [hg24, hg25, hg26, hg27, hg28, hg29, bs, reduceIte]))
             ·exact rg (obs := [((decide (a.Id = b.Id)) = true), ((decide (a.Id = b.Id)) = true), ((decide (a.Id = b.Id)) = true), ((decide (a.Id = b.Id)) = true), ((decide (a.Id = b.Id)) = true), ((decide (a.Id = b.Id)) = true), ((decide (a.Parent = b.Parent)) = true), ((decide (a.Parent = b.Parent)) = true), ((decide (a.Parent = b.Parent)) = true), ((decide (a.Parent = b.Parent)) = true), ((decide (a.Parent = b.Parent)) = true), ((decide (a.Parent = b.Parent)) = true), ((decide (a.State = b.State)) = true), ((decide (a.State = b.State)) = true), ((decide (a.State = b.State)) = true), ((decide (a.State = b.State)) = true), ((decide (a.State = b.State)) = true), ((decide (a.State = b.State)) = true), ((decide (a.User = b.User)) = true), ((decide (a.User = b.User)) = true), ((decide (a.User = b.User)) = true), ((decide (a.User = b.User)) = true), ((decide (a.User = b.User)) = true), ((decide (a.User = b.User)) = true), ((decide (a.Name = b.Name)) = false), ((decide (a.Name = b.Name)) = false), ((decide (a.Name = b.Name)) = false), ((decide (a.Name = b.Name)) = false), ((decide (a.Name = b.Name)) = false), ((decide (a.Name = b.Name)) = false), (false = false), (false = false), (false = false), (false = false), (false = false), (false = false), (false = false), (false = false), (false = false), (false = false), (false = false), (false = false), (false = false), (false = false), (false = false), (false = false), (false = false), (false = false), (false = false), (false = false), (false = false), (false = false), (false = false), (false = false), (false = false)]) [hE, hE, hE, hE, hE, hE, hY, hY, hY, hY, hY, hN (.pk true), hE, hY, hY, hY, hY, hY, hN (.pk true), hE, hY, hY, hY, hY, hY, hN (.pk true), hE, hY, hY, hY, hY, hY, hN (.pk true), hE, hS, hS, hS, hS, hS, hN (.pk false), hE, hS, hS, hS, hS, hS, hE, hE, hS, hS, hS, hS, hS, hE, hE, hS, hS, hS, hS, hS, hE, hE, hS, hS, hS, hS, hS, hE, hE, hS, hS, hS, hS, hS, hE, hE] (⟨[(4, pB false)], [], 0⟩) (.cons hg24 (.cons hg24 (.cons hg24 (.cons hg24 (.cons hg24 (.cons hg24 (.cons hg25 (.cons hg25 (.cons hg25 (.cons hg25 (.cons hg25 (.cons hg25 (.cons hg26 (.cons hg26 (.cons hg26 (.cons hg26 (.cons hg26 (.cons hg26 (.cons hg27 (.cons hg27 (.cons hg27 (.cons hg27 (.cons hg27 (.cons hg27 (.cons hg28 (.cons hg28 (.cons hg28 (.cons hg28 (.cons hg28 (.cons hg28 (.cons rfl (.cons rfl (.cons rfl (.cons rfl (.cons rfl (.cons rfl (.cons rfl (.cons rfl (.cons rfl (.cons rfl (.cons rfl (.cons rfl (.cons rfl (.cons rfl (.cons rfl (.cons rfl (.cons rfl (.cons rfl (.cons rfl (.cons rfl (.cons rfl (.cons rfl (.cons rfl (.cons rfl (.cons rfl .nil))))))))))))))))))))))))))))))))))))))))))))))))))))))) (.of_eq (by simp only [hg24, hg25, hg26, hg27, hg28, bs, reduceIte]))
            ·exact rg (obs := [((decide (a.Id = b.Id)) = true), ((decide (a.Id = b.Id)) = true), ((decide (a.Id = b.Id)) = true), ((decide (a.Id = b.Id)) = true), ((decide (a.Id = b.Id)) = true), ((decide (a.Id = b.Id)) = true), ((decide (a.Parent = b.Parent)) = true), ((decide (a.Parent = b.Parent)) = true), ((decide (a.Parent = b.Parent)) = true), ((decide (a.Parent = b.Parent)) = true), ((decide (a.Parent = b.Parent)) = true), ((decide (a.Parent = b.Parent)) = true), ((decide (a.State = b.State)) = true), ((decide (a.State = b.State)) = true), ((decide (a.State = b.State)) = true), ((decide (a.State = b.State)) = true), ((decide (a.State = b.State)) = true), ((decide (a.State = b.State)) = true), ((decide (a.User = b.User)) = false), ((decide (a.User = b.User)) = false), ((decide (a.User = b.User)) = false), ((decide (a.User = b.User)) = false), ((decide (a.User = b.User)) = false), ((decide (a.User = b.User)) = false), (false = false), (false = false), (false = false), (false = false), (false = false), (false = false), (false = false), (false = false), (false = false), (false = false), (false = false), (false = false), (false = false), (false = false), (false = false), (false = false), (false = false), (false = false), (false = false), (false = false), (false = false), (false = false), (false = false), (false = false), (false = false), (false = false), (false = false), (false = false), (false = false), (false = false)]) [hE, hE, hE, hE, hE, hE, hY, hY, hY, hY, hY, hN (.pk true), hE, hY, hY, hY, hY, hY, hN (.pk true), hE, hY, hY, hY, hY, hY, hN (.pk true), hE, hS, hS, hS, hS, hS, hN (.pk false), hE, hS, hS, hS, hS, hS, hE, hE, hS, hS, hS, hS, hS, hE, hE, hS, hS, hS, hS, hS, hE, hE, hS, hS, hS, hS, hS, hE, hE, hS, hS, hS, hS, hS, hE, hE, hS, hS, hS, hS, hS, hE, hE] (⟨[(4, pB false)], [], 0⟩) (.cons hg24 (.cons hg24 (.cons hg24 (.cons hg24 (.cons hg24 (.cons hg24 (.cons hg25 (.cons hg25 (.cons hg25 (.cons hg25 (.cons hg25 (.cons hg25 (.cons hg26 (.cons hg26 (.cons hg26 (.cons hg26 (.cons hg26 (.cons hg26 (.cons hg27 (.cons hg27 (.cons hg27 (.cons hg27 (.cons hg27 (.cons hg27 (.cons rfl (.cons rfl (.cons rfl (.cons rfl (.cons rfl (.cons rfl (.cons rfl (.cons rfl (.cons rfl (.cons rfl (.cons rfl (.cons rfl (.cons rfl (.cons rfl (.cons rfl (.cons rfl (.cons rfl (.cons rfl (.cons rfl (.cons rfl (.cons rfl (.cons rfl (.cons rfl (.cons rfl (.cons rfl (.cons rfl (.cons rfl (.cons rfl (.cons rfl (.cons rfl .nil)))))))))))))))))))))))))))))))))))))))))))))))))))))) (.of_eq (by simp only [hg24, hg25, hg26, hg27, bs, reduceIte]))
           ·exact rg (obs := [((decide (a.Id = b.Id)) = true), ((decide (a.Id = b.Id)) = true), ((decide (a.Id = b.Id)) = true), ((decide (a.Id = b.Id)) = true), ((decide (a.Id = b.Id)) = true), ((decide (a.Id = b.Id)) = true), ((decide (a.Parent = b.Parent)) = true), ((decide (a.Parent = b.Parent)) = true), ((decide (a.Parent = b.Parent)) = true), ((decide (a.Parent = b.Parent)) = true), ((decide (a.Parent = b.Parent)) = true), ((decide (a.Parent = b.Parent)) = true), ((decide (a.State = b.State)) = false), ((decide (a.State = b.State)) = false), ((decide (a.State = b.State)) = false), ((decide (a.State = b.State)) = false), ((decide (a.State = b.State)) = false), ((decide (a.State = b.State)) = false), (false = false), (false = false), (false = false), (false = false), (false = false), (false = false), (false = false), (false = false), (false = false), (false = false), (false = false), (false = false), (false = false), (false = false), (false = false), (false = false), (false = false), (false = false), (false = false), (false = false), (false = false), (false = false), (false = false), (false = false), (false = false), (false = false), (false = false), (false = false), (false = false), (false = false), (false = false), (false = false), (false = false), (false = false), (false = false)]) [hE, hE, hE, hE, hE, hE, hY, hY, hY, hY, hY, hN (.pk true), hE, hY, hY, hY, hY, hY, hN (.pk true), hE, hS, hS, hS, hS, hS, hN (.pk false), hE, hS, hS, hS, hS, hS, hE, hE, hS, hS, hS, hS, hS, hE, hE, hS, hS, hS, hS, hS, hE, hE, hS, hS, hS, hS, hS, hE, hE, hS, hS, hS, hS, hS, hE, hE, hS, hS, hS, hS, hS, hE, hE, hS, hS, hS, hS, hS, hE, hE] (⟨[(4, pB false)], [], 0⟩) (.cons hg24 (.cons hg24 (.cons hg24 (.cons hg24 (.cons hg24 (.cons hg24 (.cons hg25 (.cons hg25 (.cons hg25 (.cons hg25 (.cons hg25 (.cons hg25 (.cons hg26 (.cons hg26 (.cons hg26 (.cons hg26 (.cons hg26 (.cons hg26 (.cons rfl (.cons rfl (.cons rfl (.cons rfl (.cons rfl (.cons rfl (.cons rfl (.cons rfl (.cons rfl (.cons rfl (.cons rfl (.cons rfl (.cons rfl (.cons rfl (.cons rfl (.cons rfl (.cons rfl (.cons rfl (.cons rfl (.cons rfl (.cons rfl (.cons rfl (.cons rfl (.cons rfl (.cons rfl (.cons rfl (.cons rfl (.cons rfl (.cons rfl (.cons rfl (.cons rfl (.cons rfl (.cons rfl (.cons rfl (.cons rfl .nil))))))))))))))))))))))))))))))))))))))))))))))))))))) (.of_eq (by simp only [hg24, hg25, hg26, bs, reduceIte]))
          ·exact rg (obs := [((decide (a.Id = b.Id)) = true), ((decide (a.Id = b.Id)) = true), ((decide (a.Id = b.Id)) = true), ((decide (a.Id = b.Id)) = true), ((decide (a.Id = b.Id)) = true), ((decide (a.Id = b.Id)) = true), ((decide (a.Parent = b.Parent)) = false), ((decide (a.Parent = b.Parent)) = false), ((decide (a.Parent = b.Parent)) = false), ((decide (a.Parent = b.Parent)) = false), ((decide (a.Parent = b.Parent)) = false), ((decide (a.Parent = b.Parent)) = false), (false = false), (false = false), (false = false), (false = false), (false = false), (false = false), (false = false), (false = false), (false = false), (false = false), (false = false), (false = false), (false = false), (false = false), (false = false), (false = false), (false = false), (false = false), (false = false), (false = false), (false = false), (false = false), (false = false), (false = false), (false = false), (false = false), (false = false), (false = false), (false = false), (false = false), (false = false), (false = false), (false = false), (false = false), (false = false), (false = false), (false = false), (false = false), (false = false), (false = false)]) [hE, hE, hE, hE, hE, hE, hY, hY, hY, hY, hY, hN (.pk true), hE, hS, hS, hS, hS, hS, hN (.pk false), hE, hS, hS, hS, hS, hS, hE, hE, hS, hS, hS, hS, hS, hE, hE, hS, hS, hS, hS, hS, hE, hE, hS, hS, hS, hS, hS, hE, hE, hS, hS, hS, hS, hS, hE, hE, hS, hS, hS, hS, hS, hE, hE, hS, hS, hS, hS, hS, hE, hE, hS, hS, hS, hS, hS, hE, hE] (⟨[(4, pB false)], [], 0⟩) (.cons hg24 (.cons hg24 (.cons hg24 (.cons hg24 (.cons hg24 (.cons hg24 (.cons hg25 (.cons hg25 (.cons hg25 (.cons hg25 (.cons hg25 (.cons hg25 (.cons rfl (.cons rfl (.cons rfl (.cons rfl (.cons rfl (.cons rfl (.cons rfl (.cons rfl (.cons rfl (.cons rfl (.cons rfl (.cons rfl (.cons rfl (.cons rfl (.cons rfl (.cons rfl (.cons rfl (.cons rfl (.cons rfl (.cons rfl (.cons rfl (.cons rfl (.cons rfl (.cons rfl (.cons rfl (.cons rfl (.cons rfl (.cons rfl (.cons rfl (.cons rfl (.cons rfl (.cons rfl (.cons rfl (.cons rfl (.cons rfl (.cons rfl (.cons rfl (.cons rfl (.cons rfl (.cons rfl .nil)))))))))))))))))))))))))))))))))))))))))))))))))))) (.of_eq (by simp only [hg24, hg25, bs, reduceIte]))
         ·exact rg (obs := [((decide (a.Id = b.Id)) = false), ((decide (a.Id = b.Id)) = false), ((decide (a.Id = b.Id)) = false), ((decide (a.Id = b.Id)) = false), ((decide (a.Id = b.Id)) = false), ((decide (a.Id = b.Id)) = false), (false = false), (false = false), (false = false), (false = false), (false = false), (false = false), (false = false), (false = false), (false = false), (false = false), (false = false), (false = false), (false = false), (false = false), (false = false), (false = false), (false = false), (false = false), (false = false), (false = false), (false = false), (false = false), (false = false), (false = false), (false = false), (false = false), (false = false), (false = false), (false = false), (false = false), (false = false), (false = false), (false = false), (false = false), (false = false), (false = false), (false = false), (false = false), (false = false), (false = false), (false = false), (false = false), (false = false), (false = false), (false = false)]) [hE, hE, hE, hE, hE, hE, hS, hS, hS, hS, hS, hN (.pk false), hE, hS, hS, hS, hS, hS, hE, hE, hS, hS, hS, hS, hS, hE, hE, hS, hS, hS, hS, hS, hE, hE, hS, hS, hS, hS, hS, hE, hE, hS, hS, hS, hS, hS, hE, hE, hS, hS, hS, hS, hS, hE, hE, hS, hS, hS, hS, hS, hE, hE, hS, hS, hS, hS, hS, hE, hE, hS, hS, hS, hS, hS, hE, hE] (⟨[(4, pB false)], [], 0⟩) (.cons hg24 (.cons hg24 (.cons hg24 (.cons hg24 (.cons hg24 (.cons hg24 (.cons rfl (.cons rfl (.cons rfl (.cons rfl (.cons rfl (.cons rfl (.cons rfl (.cons rfl (.cons rfl (.cons rfl (.cons rfl (.cons rfl (.cons rfl (.cons rfl (.cons rfl (.cons rfl (.cons rfl (.cons rfl (.cons rfl (.cons rfl (.cons rfl (.cons rfl (.cons rfl (.cons rfl (.cons rfl (.cons rfl (.cons rfl (.cons rfl (.cons rfl (.cons rfl (.cons rfl (.cons rfl (.cons rfl (.cons rfl (.cons rfl (.cons rfl (.cons rfl (.cons rfl (.cons rfl (.cons rfl (.cons rfl (.cons rfl (.cons rfl (.cons rfl (.cons rfl .nil))))))))))))))))))))))))))))))))))))))))))))))))))) (.of_eq (by simp only [hg24, bs, reduceIte]))
        ·refine x_toret ?_
         obtain rfl := Option.some.inj h
         exact ret0 (.bool ((decide (a.Id = b.Id)) && ((decide (a.Parent = b.Parent)) && ((decide (a.State = b.State)) && ((decide (a.User = b.User)) && ((decide (a.Name = b.Name)) && ((decide (a.Ns = b.Ns)) && ((decide (a.Env = b.Env)) && ((decide (a.Fds = b.Fds)) && ((decide (a.Cwd = b.Cwd)) && ((decide (a.Status = b.Status)) && (decide (a.Alone = b.Alone))))))))))))) (.refl _) (fun _ => rfl)

theorem c11 {a : api_Procs} {b : api_Procs} {r : Bool} (h : ref30_Same a b = some r) : CallOK Tryd.prog 11 [enc_api_Procs a, enc_api_Procs b] (.bool r) true := by
  apply ok11
  unfold ref30_Same at h
  refine x_rg (rgn [hE, hE, hE] (⟨[(2, .optr 0 0 0), (3, .optr 1 0 0)], [(0, some (.p (some 3) [enc_api_Procs a])), (1, some (.p (some 3) [enc_api_Procs b]))], 2⟩)) ?_
  refine x_seq ?_
  refine x_rg (st2 := ⟨[(2, .optr 0 0 0), (3, .optr 1 0 0), (26, pB ((!decide (a.Next = b.Next)) || ((!decide (a.Group = b.Group)) || (!decide ((List.length a.L : Int) = (List.length b.L : Int))))))], [(0, some (.p (some 3) [enc_api_Procs a])), (1, some (.p (some 3) [enc_api_Procs b]))], 2⟩) ?_ ?_
  ·rcases Bool.eq_false_or_eq_true (!decide (a.Next = b.Next)) with hg1 | hg1
   ·exact rg [hE, hE, hE, hE, hE, hE, hS, hS, hS, hS, hS, hN (.pk true), hE, hS, hS, hS, hS, hS, hS, hS, hE] (⟨[(2, .optr 0 0 0), (3, .optr 1 0 0), (26, pB true)], [(0, some (.p (some 3) [enc_api_Procs a])), (1, some (.p (some 3) [enc_api_Procs b]))], 2⟩) (.cons hg1 (.cons hg1 (.cons hg1 (.cons hg1 (.cons hg1 (.cons hg1 (.cons tt (.cons tt (.cons tt (.cons tt (.cons tt (.cons tt (.cons tt .nil))))))))))))) (.of_eq (by simp only [hg1, bs, reduceIte]))
   ·rcases Bool.eq_false_or_eq_true (!decide (a.Group = b.Group)) with hg2 | hg2
    ·exact rg [hE, hE, hE, hE, hE, hE, hY, hY, hY, hY, hY, hN (.pk false), hE, hS, hS, hS, hS, hS, hS, hS, hN (.pk true)] (⟨[(2, .optr 0 0 0), (3, .optr 1 0 0), (26, pB true)], [(0, some (.p (some 3) [enc_api_Procs a])), (1, some (.p (some 3) [enc_api_Procs b]))], 2⟩) (.cons hg1 (.cons hg1 (.cons hg1 (.cons hg1 (.cons hg1 (.cons hg1 (.cons hg2 (.cons hg2 (.cons hg2 (.cons hg2 (.cons hg2 (.cons hg2 (.cons hg2 (.cons hg2 .nil)))))))))))))) (.of_eq (by simp only [hg1, hg2, bs, reduceIte]))
    ·exact rg [hE, hE, hE, hE, hE, hE, hY, hY, hY, hY, hY, hN (.pk false), hE, hY, hY, (.y, (.len (List.length a.L : Int))), hY, hY, (.y, (.len (List.length b.L : Int))), hY, hN (.pk false)] (⟨[(2, .optr 0 0 0), (3, .optr 1 0 0), (26, pB (!decide ((List.length a.L : Int) = (List.length b.L : Int))))], [(0, some (.p (some 3) [enc_api_Procs a])), (1, some (.p (some 3) [enc_api_Procs b]))], 2⟩) (.cons hg1 (.cons hg1 (.cons hg1 (.cons hg1 (.cons hg1 (.cons hg1 (.cons hg2 (.cons hg2 (.cons hg2 (.cons (lenM enc_api_Proc a.L) (.cons hg2 (.cons hg2 (.cons hg2 (.cons (lenM enc_api_Proc b.L) (.cons hg2 (.cons hg2 .nil)))))))))))))))) (.of_eq (by simp only [hg1, hg2, bs, reduceIte]))
  ·refine x_cond _ rfl (fun hc4 => ?_) (fun hc4 => ?_)
   ·replace h := ite_t h hc4
    refine x_rg (rgn [hE] (⟨[(4, pB false)], [], 0⟩)) ?_
    refine x_toret ?_
    refine x_tr ?_
    obtain rfl := Option.some.inj h
    exact ret0 (.bool false) (.refl _) (fun _ => rfl)
   ·replace h := ite_f h hc4
    refine kw0 (⟨[(2, .optr 0 0 0), (3, .optr 1 0 0)], [(0, some (.p (some 3) [enc_api_Procs a])), (1, some (.p (some 3) [enc_api_Procs b]))], 2⟩) ?_
    refine x_skip ?_
    refine x_tn ?_
    refine x_seq ?_
    refine x_rg (rgn [hE] (⟨[(2, .optr 0 0 0), (3, .optr 1 0 0), (5, pI 0)], [(0, some (.p (some 3) [enc_api_Procs a])), (1, some (.p (some 3) [enc_api_Procs b]))], 2⟩)) ?_
    refine x_block ?_
    refine kw0 (⟨[(2, .optr 0 0 0), (3, .optr 1 0 0), (5, pI 0)], [(0, some (.p (some 3) [enc_api_Procs a])), (1, some (.p (some 3) [enc_api_Procs b]))], 2⟩) ?_
    refine x_loop (σ := Int) h (fun s => ⟨[(2, .optr 0 0 0), (3, .optr 1 0 0), (5, pI s)], [(0, some (.p (some 3) [enc_api_Procs a])), (1, some (.p (some 3) [enc_api_Procs b]))], 2⟩) (by kernel_rfl) ?_ ?_
    ·rintro i
     kernel_rfl
    ·rintro i x11 h hx11
     replace h : ref30_Same_L11 a b i = some x11 := h
     unfold ref30_Same_L11 at h
     refine x_seq ?_
     refine x_rg (rg0 [hE, hE, hE, hN (.len (List.length a.L : Int)), hE] (⟨[(2, .optr 0 0 0), (3, .optr 1 0 0), (5, pI i), (31, pB (decide (i < (List.length a.L : Int))))], [(0, some (.p (some 3) [enc_api_Procs a])), (1, some (.p (some 3) [enc_api_Procs b]))], 2⟩) (.cons (lenM enc_api_Proc a.L) .nil)) ?_
     refine x_cond _ rfl (fun hc12 => ?_) (fun hc12 => ?_)
     ·replace h := ite_t h hc12
      refine kw0 (⟨[(2, .optr 0 0 0), (3, .optr 1 0 0), (5, pI i)], [(0, some (.p (some 3) [enc_api_Procs a])), (1, some (.p (some 3) [enc_api_Procs b]))], 2⟩) ?_
      refine x_skip ?_
      refine x_tn ?_
      refine x_seq ?_
      refine x_block ?_
      obtain ⟨x13, hx13, h⟩ := bind_some h
      obtain ⟨x14, hx14, h⟩ := bind_some h
      obtain ⟨x15, hx15, h⟩ := bind_some h
      refine x_rg (rg0 [hE, hE, hE, hN (.pAt (enc_api_Proc x13)), hE, hE, hE, hE, hN (.pAt (enc_api_Proc x14)), hE, hN (.cal [] (.bool x15) true), hE] (⟨[(2, .optr 0 0 0), (3, .optr 1 0 0), (5, pI i), (45, pB (!x15))], [(0, some (.p (some 3) [enc_api_Procs a])), (1, some (.p (some 3) [enc_api_Procs b]))], 2⟩) (.cons (lsAt_map (f := enc_api_Proc) hx13) (.cons (lsAt_map (f := enc_api_Proc) hx14) (.cons (c17 hx15) .nil)))) ?_
      refine x_cond _ rfl (fun hc16 => ?_) (fun hc16 => ?_)
      ·replace h := ite_t h hc16
       refine x_rg (rgn [hE] (⟨[(4, pB false)], [], 0⟩)) ?_
       refine x_toret ?_
       refine x_br ?_
       refine x_tr ?_
       refine x_tr ?_
       replace h := done_leaf h hx11
       refine x_br ?_
       refine x_tr ?_
       obtain rfl := Option.some.inj h
       exact ret0 (.bool false) (.refl _) (fun _ => rfl)
      ·replace h := ite_f h hc16
       refine kw0 (⟨[(2, .optr 0 0 0), (3, .optr 1 0 0), (5, pI i)], [(0, some (.p (some 3) [enc_api_Procs a])), (1, some (.p (some 3) [enc_api_Procs b]))], 2⟩) ?_
       refine x_skip ?_
       refine x_bn ?_
       refine x_tn ?_
       refine x_rgt (rgn [hE, hE, hE] (⟨[(2, .optr 0 0 0), (3, .optr 1 0 0), (5, pI (IntKind.wrap .i64 (i + 1)))], [(0, some (.p (some 3) [enc_api_Procs a])), (1, some (.p (some 3) [enc_api_Procs b]))], 2⟩)) ?_
       refine x_tn ?_
       exact ⟨_, (Option.some.inj h).symm, by kernel_rfl⟩
     ·replace h := ite_f h hc12
      refine kw0 (⟨[], [], 0⟩) ?_
      refine x_exit ?_
      refine x_te ?_
      refine x_te ?_
      replace h := done_leaf h hx11
      refine x_bh ?_
      refine x_tn ?_
      refine x_rg (rgn [hE] (⟨[(4, pB true)], [], 0⟩)) ?_
      refine x_toret ?_
      obtain rfl := Option.some.inj h
      exact ret0 (.bool true) (.refl _) (fun _ => rfl)

theorem c3 {user : Str} {r : Bool} (h : law30_ProcNews user = some r) : CallOK Tryd.prog 3 [.str user] (.bool r) true := by
  apply ok3
  unfold law30_ProcNews at h
  refine x_rg (rgn [hE] (⟨[(0, pS user)], [], 0⟩)) ?_
  refine x_seq ?_
  refine x_rg (rgn [hE, hE, hE] (⟨[(0, pS user), (9, pB (decide (1000 < (List.length user : Int))))], [], 0⟩)) ?_
  refine x_cond _ rfl (fun hc1 => ?_) (fun hc1 => ?_)
  ·replace h := ite_t h hc1
   obtain ⟨x2, hx2, h⟩ := bind_some h
   refine x_rg (rg0 [hN (.cal [] (.bool x2) true), hE] (⟨[(2, pB x2)], [], 0⟩) (.cons (c8 hx2) .nil)) ?_
   refine x_toret ?_
   refine x_tr ?_
   obtain rfl := Option.some.inj h
   exact ret0 (.bool x2) (.refl _) (fun _ => rfl)
  ·replace h := ite_f h hc1
   refine kw0 (⟨[(0, pS user)], [], 0⟩) ?_
   refine x_skip ?_
   refine x_tn ?_
   obtain ⟨x3, hx3, h⟩ := bind_some h
   refine x_rg (rg0 [hE, hN (.cal [] (.tup [.agg [.int .i64 x3.1.Next, .int .i64 x3.1.Group, .usl (some 13) (List.map enc_api_Proc x3.1.L)], .int .i64 x3.2]) false), hE, hE, hE, hE, hE, hE] (⟨[(0, pS user), (3, .optr 0 0 0), (4, pI x3.2)], [(0, some (.h (some 3) [.agg [pI x3.1.Next, pI x3.1.Group, oL 1 enc_api_Proc x3.1.L]])), (1, rL (some 13) enc_api_Proc x3.1.L)], 2⟩) (.cons (c9 hx3) .nil)) ?_
   obtain ⟨x4, hx4, h⟩ := bind_some h
   refine x_rg (rg0 [hE, hN (.cal [] (.tup [.agg [.int .i64 x4.1.Next, .int .i64 x4.1.Group, .usl (some 13) (List.map enc_api_Proc x4.1.L)], .int .i64 x4.2]) false), hE, hE, hE, hE, hE, hE] (⟨[(3, .optr 0 0 0), (4, pI x3.2), (5, .optr 2 0 0), (6, pI x4.2)], [(0, some (.h (some 3) [.agg [pI x3.1.Next, pI x3.1.Group, oL 1 enc_api_Proc x3.1.L]])), (1, rL (some 13) enc_api_Proc x3.1.L), (2, some (.h (some 3) [.agg [pI x4.1.Next, pI x4.1.Group, oL 3 enc_api_Proc x4.1.L]])), (3, rL (some 13) enc_api_Proc x4.1.L)], 4⟩) (.cons (c10 hx4) .nil)) ?_
   obtain ⟨x5, hx5, h⟩ := bind_some h
   obtain ⟨t9, ht, h⟩ := bind_some h
   refine x_rg (st2 := ⟨[(2, pB t9)], [], 0⟩) ?_ ?_
   ·rcases Bool.eq_false_or_eq_true x5 with hg6 | hg6
    ·replace ht := ite_t ht hg6
     rcases Bool.eq_false_or_eq_true (decide (x3.2 = x4.2)) with hg7 | hg7
     ·replace ht := ite_t ht hg7
      obtain ⟨x8, hx8, ht⟩ := bind_some ht
      have e := Option.some.inj ht
      subst e
      exact rg0 (obs := [(LesA [.agg [.int .i64 x3.1.Next, .int .i64 x3.1.Group, .sl (some 13) (List.take (List.map enc_api_Proc x3.1.L).length (List.drop 0 (List.map enc_api_Proc x3.1.L)))], .agg [.int .i64 x4.1.Next, .int .i64 x4.1.Group, .sl (some 13) (List.take (List.map enc_api_Proc x4.1.L).length (List.drop 0 (List.map enc_api_Proc x4.1.L)))]] [.agg [.int .i64 x3.1.Next, .int .i64 x3.1.Group, .sl (some 13) (List.map enc_api_Proc x3.1.L)], .agg [.int .i64 x4.1.Next, .int .i64 x4.1.Group, .sl (some 13) (List.map enc_api_Proc x4.1.L)]]), (CallOK Tryd.prog 11 [.agg [.int .i64 x3.1.Next, .int .i64 x3.1.Group, .sl (some 13) (List.map enc_api_Proc x3.1.L)], .agg [.int .i64 x4.1.Next, .int .i64 x4.1.Group, .sl (some 13) (List.map enc_api_Proc x4.1.L)]] (.bool x5) true), (0 + (List.map enc_api_Proc x3.1.L).length ≤ List.length (List.map enc_api_Proc x3.1.L)), (0 + (List.map enc_api_Proc x4.1.L).length ≤ List.length (List.map enc_api_Proc x4.1.L)), (x5 = true), (x5 = true), (x5 = true), (x5 = true), ((decide (x3.2 = x4.2)) = true), (CallOK Tryd.prog 8 [] (.bool x8) true), ((decide (x3.2 = x4.2)) = true)]) [hE, hE, hN (.call [] [.agg [.int .i64 x3.1.Next, .int .i64 x3.1.Group, .sl (some 13) (List.map enc_api_Proc x3.1.L)], .agg [.int .i64 x4.1.Next, .int .i64 x4.1.Group, .sl (some 13) (List.map enc_api_Proc x4.1.L)]] (.bool x5) true), hE, hY, hY, hY, hN (.pk true), hE, (.y, (.cal [] (.bool x8) true)), hN (.pk true), hE] (⟨[(2, pB x8)], [], 0⟩) (.cons (.cons (.agg (.cons (.refl _) (.cons (.refl _) (.cons (.of_eq (by rw [List.drop_zero, List.take_length])) .nil)))) (.cons (.agg (.cons (.refl _) (.cons (.refl _) (.cons (.of_eq (by rw [List.drop_zero, List.take_length])) .nil)))) .nil)) (.cons (c11 hx5) (.cons (by simp) (.cons (by simp) (.cons hg6 (.cons hg6 (.cons hg6 (.cons hg6 (.cons hg7 (.cons (c8 hx8) (.cons hg7 .nil)))))))))))
     ·replace ht := ite_f ht hg7
      have e := Option.some.inj ht
      subst e
      exact rg0 (obs := [(LesA [.agg [.int .i64 x3.1.Next, .int .i64 x3.1.Group, .sl (some 13) (List.take (List.map enc_api_Proc x3.1.L).length (List.drop 0 (List.map enc_api_Proc x3.1.L)))], .agg [.int .i64 x4.1.Next, .int .i64 x4.1.Group, .sl (some 13) (List.take (List.map enc_api_Proc x4.1.L).length (List.drop 0 (List.map enc_api_Proc x4.1.L)))]] [.agg [.int .i64 x3.1.Next, .int .i64 x3.1.Group, .sl (some 13) (List.map enc_api_Proc x3.1.L)], .agg [.int .i64 x4.1.Next, .int .i64 x4.1.Group, .sl (some 13) (List.map enc_api_Proc x4.1.L)]]), (CallOK Tryd.prog 11 [.agg [.int .i64 x3.1.Next, .int .i64 x3.1.Group, .sl (some 13) (List.map enc_api_Proc x3.1.L)], .agg [.int .i64 x4.1.Next, .int .i64 x4.1.Group, .sl (some 13) (List.map enc_api_Proc x4.1.L)]] (.bool x5) true), (0 + (List.map enc_api_Proc x3.1.L).length ≤ List.length (List.map enc_api_Proc x3.1.L)), (0 + (List.map enc_api_Proc x4.1.L).length ≤ List.length (List.map enc_api_Proc x4.1.L)), (x5 = true), (x5 = true), (x5 = true), (x5 = true), ((decide (x3.2 = x4.2)) = false), ((decide (x3.2 = x4.2)) = false)]) [hE, hE, hN (.call [] [.agg [.int .i64 x3.1.Next, .int .i64 x3.1.Group, .sl (some 13) (List.map enc_api_Proc x3.1.L)], .agg [.int .i64 x4.1.Next, .int .i64 x4.1.Group, .sl (some 13) (List.map enc_api_Proc x4.1.L)]] (.bool x5) true), hE, hY, hY, hY, hN (.pk true), hE, hS, hN (.pk false), hE] (⟨[(2, pB false)], [], 0⟩) (.cons (.cons (.agg (.cons (.refl _) (.cons (.refl _) (.cons (.of_eq (by rw [List.drop_zero, List.take_length])) .nil)))) (.cons (.agg (.cons (.refl _) (.cons (.refl _) (.cons (.of_eq (by rw [List.drop_zero, List.take_length])) .nil)))) .nil)) (.cons (c11 hx5) (.cons (by simp) (.cons (by simp) (.cons hg6 (.cons hg6 (.cons hg6 (.cons hg6 (.cons hg7 (.cons hg7 .nil))))))))))
    ·replace ht := ite_f ht hg6
     have e := Option.some.inj ht
     subst e
     exact rg0 (obs := [(LesA [.agg [.int .i64 x3.1.Next, .int .i64 x3.1.Group, .sl (some 13) (List.take (List.map enc_api_Proc x3.1.L).length (List.drop 0 (List.map enc_api_Proc x3.1.L)))], .agg [.int .i64 x4.1.Next, .int .i64 x4.1.Group, .sl (some 13) (List.take (List.map enc_api_Proc x4.1.L).length (List.drop 0 (List.map enc_api_Proc x4.1.L)))]] [.agg [.int .i64 x3.1.Next, .int .i64 x3.1.Group, .sl (some 13) (List.map enc_api_Proc x3.1.L)], .agg [.int .i64 x4.1.Next, .int .i64 x4.1.Group, .sl (some 13) (List.map enc_api_Proc x4.1.L)]]), (CallOK Tryd.prog 11 [.agg [.int .i64 x3.1.Next, .int .i64 x3.1.Group, .sl (some 13) (List.map enc_api_Proc x3.1.L)], .agg [.int .i64 x4.1.Next, .int .i64 x4.1.Group, .sl (some 13) (List.map enc_api_Proc x4.1.L)]] (.bool x5) true), (0 + (List.map enc_api_Proc x3.1.L).length ≤ List.length (List.map enc_api_Proc x3.1.L)), (0 + (List.map enc_api_Proc x4.1.L).length ≤ List.length (List.map enc_api_Proc x4.1.L)), (x5 = false), (x5 = false), (x5 = false), (x5 = false), (false = false)]) [hE, hE, hN (.call [] [.agg [.int .i64 x3.1.Next, .int .i64 x3.1.Group, .sl (some 13) (List.map enc_api_Proc x3.1.L)], .agg [.int .i64 x4.1.Next, .int .i64 x4.1.Group, .sl (some 13) (List.map enc_api_Proc x4.1.L)]] (.bool x5) true), hE, hS, hS, hS, hN (.pk false), hE, hS, hE, hE] (⟨[(2, pB false)], [], 0⟩) (.cons (.cons (.agg (.cons (.refl _) (.cons (.refl _) (.cons (.of_eq (by rw [List.drop_zero, List.take_length])) .nil)))) (.cons (.agg (.cons (.refl _) (.cons (.refl _) (.cons (.of_eq (by rw [List.drop_zero, List.take_length])) .nil)))) .nil)) (.cons (c11 hx5) (.cons (by simp) (.cons (by simp) (.cons hg6 (.cons hg6 (.cons hg6 (.cons hg6 (.cons rfl .nil)))))))))
   ·clear ht
    refine x_toret ?_
    obtain rfl := Option.some.inj h
    exact ret0 (.bool t9) (.refl _) (fun _ => rfl)

end Go.Proofs.YtfaobpifaobobaaDoor
