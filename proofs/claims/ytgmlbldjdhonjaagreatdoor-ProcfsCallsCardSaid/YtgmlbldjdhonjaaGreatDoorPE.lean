import Derived.Test.YtgmlbldjdhonjaaGreatDoorPO
namespace Go.Proofs.YtgmlbldjdhonjaaGreatDoor
open Go.Vm
set_option autoImplicit false
set_option linter.unusedVariables false
set_option linter.unusedSimpArgs false
set_option maxRecDepth 100000
def repP (id : Int) (y : api_Proc) : api_Proc := if y.Parent = id then { y with Parent := 1 } else y
def waitC (x : api_Proc) (y : api_Proc) : Bool := decide (y.Id = x.Parent) && (!x.Alone && decide ((List.length y.Waits : Int) < 64))
def addW (id : Int) (status : Str) (y : api_Proc) : api_Proc := { y with Waits := y.Waits ++ [api_Wait.mk id status] }
def exitY (id : Int) (status : Str) (x y : api_Proc) : api_Proc := if waitC x (repP id y) = true then addW id status (repP id y) else repP id y
def exitF (id : Int) (status : Str) (x y : api_Proc) : Option api_Proc := if y.Id = id then none else some (exitY id status x y)
def exitS (p : api_Procs) (id : Int) (status : Str) : api_Procs × Int :=
 if (findP p.L id).2 = false then (p, 42) else if id = 1 then (p, 43) else if shortB status = false then (p, 4)
 else ({ p with L := p.L.filterMap (exitF id status (findP p.L id).1) }, 0)
theorem repP_id (id : Int) (y : api_Proc) : (repP id y).Id = y.Id ∧ (repP id y).Waits = y.Waits ∧ (repP id y).Alone = y.Alone := by
 unfold repP; split <;> exact ⟨rfl, rfl, rfl⟩
theorem ref30_Exit_eq {p : api_Procs} (h : Mod p) (id : Int) (s : Str) : ref30_Exit p id s = some (exitS p id s) := by
 have hn := h.n
 have hm := m5
 have lp : ∀ f : Bool, loopM (fun st => ref30_Exit_L22 p id s ((findP p.L id).1, f) st.1 st.2) (0, ([] : List api_Proc)) = some ({ p with L := p.L.filterMap (exitF id s (findP p.L id).1) }, 0) := by
  intro f
  generalize (findP p.L id).1 = x
  refine loop_filterMap p.L (exitF id s x) (fun st i => (i, st)) _ _ (fun st i hi hs => ?_) ?_
  ·show ref30_Exit_L22 p id s (x, f) (i : Int) st = _
   have hx := h.e _ (List.getElem_mem hi)
   have h1 : (i : Int) < (List.length p.L : Int) := by omega
   have ha : ∀ z : api_Proc, appL 168 st [z] = some (st ++ [z]) := fun z => appL_small (by simp; omega) (by simp; omega)
   have k28 : ∀ z : api_Proc, ref30_Exit_K28 (i : Int) st z = some (.cont ((i : Int) + 1, st ++ [z])) := fun z => by
    unfold ref30_Exit_K28
    rw [ha, Option.bind_some, wrapNat hi (by omega)]
   have k26 : ∀ z : api_Proc, z.Waits.length ≤ 100000 → ref30_Exit_K26 id s (x, f) (i : Int) st z = some (.cont ((i : Int) + 1, st ++ [if waitC x z = true then addW id s z else z])) := fun z hz => by
    unfold ref30_Exit_K26 waitC
    have c1 : appL 24 ([] : List api_Wait) z.Waits = some z.Waits := by rw [appL_small (by simp; omega) (by simp; omega)]; rfl
    have c2 : ∀ w : api_Wait, appL 24 z.Waits [w] = some (z.Waits ++ [w]) := fun w => appL_small (by simp; omega) (by simp; omega)
    simp only [c1, c2, Option.bind_some, k28]
    cases (decide (z.Id = x.Parent) && (!x.Alone && decide ((List.length z.Waits : Int) < 64))) <;> rfl
   unfold ref30_Exit_L22 exitF exitY repP
   simp only [decide_eq_true h1, if_true, lsAt_nat hi, Option.bind_some, wrapNat hi (by omega)]
   by_cases a1 : p.L[i].Id = id
   ·simp [a1]
   ·by_cases a2 : p.L[i].Parent = id
    ·simp only [decide_eq_false a1, Bool.false_eq_true, if_false, decide_eq_true a2, if_true, if_neg a1, if_pos a2]
     rw [k26 { p.L[i] with Parent := 1 } hx.2.1]; rfl
    ·simp only [decide_eq_false a1, Bool.false_eq_true, if_false, decide_eq_false a2, if_neg a1, if_neg a2]
     rw [k26 _ hx.2.1]; rfl
  ·show ref30_Exit_L22 p id s (x, f) _ _ = _
   unfold ref30_Exit_L22
   simp
 unfold ref30_Exit exitS
 rw [ref30_Find_eq h, Option.bind_some]
 cases hf : findP p.L id with
 | mk x f =>
  have lp' := lp f
  rw [hf] at lp'
  cases f with
  | false => rfl
  | true =>
   simp only [Bool.not_true, Bool.false_eq_true, if_false, reduceCtorEq]
   unfold shortB
   by_cases a1 : id = 1
   ·simp [a1]
   ·by_cases a2 : (1024 : Int) < (List.length s : Int)
    ·have a3 : ¬ (List.length s : Int) ≤ 1024 := by omega
     simp [a1, a2, a3]
    ·have a3 : (List.length s : Int) ≤ 1024 := by omega
     simp only [decide_eq_false a1, decide_eq_false a2, decide_eq_true a3, Bool.false_eq_true, if_false, if_neg a1, reduceCtorEq]
     exact lp'
theorem rep_loop {p : api_Procs} {l : List api_Proc} (id : Int) (hl : l.length ≤ 100000) : loopM (fun s => proc_Exit_L17 id p l s.1 s.2) (0, l) = some ({ p with L := l.map (repP id) }, 0) := by
 have hm := m5
 refine loopM_F (τ := Int × List api_Proc) l.length (fun s i => (i, s)) (fun s => proc_Exit_L17 id p l s.1 s.2) (fun _ _ => ({ p with L := l.map (repP id) }, 0)) (fun i s => s = (l.take i).map (repP id) ++ l.drop i) (s0 := l) (by simp) (fun s i hi hs => ?_) (fun s hs => ?_)
 ·left
  have hsl : i < s.length := by rw [hs]; simp; omega
  have hsi : s[i] = l[i] := by
   subst hs
   rw [List.getElem_append_right (by simp; omega)]
   simp only [List.length_map, List.length_take, List.getElem_drop]
   congr 1; omega
  have hset : s.set i (repP id l[i]) = (l.take (i + 1)).map (repP id) ++ l.drop (i + 1) := by
   subst hs
   rw [List.set_append_right _ _ (by simp; omega)]
   have h1 : i - ((l.take i).map (repP id)).length = 0 := by simp; omega
   rw [h1, List.drop_eq_getElem_cons hi, List.set_cons_zero, List.take_succ_eq_append_getElem hi, List.map_append, List.append_assoc]
   rfl
  refine ⟨s.set i (repP id l[i]), ?_, rfl, hset⟩
  show proc_Exit_L17 id p l (i : Int) s = _
  unfold proc_Exit_L17
  have h1 : (i : Int) < (List.length l : Int) := by omega
  simp only [decide_eq_true h1, if_true, lsAt_nat hsl, Option.bind_some, wrapNat hi (by omega), hsi, Int.toNat_natCast]
  by_cases a1 : l[i].Parent = id
  ·simp only [decide_eq_true a1, if_true]
   unfold repP
   rw [if_pos a1]
  ·simp only [decide_eq_false a1, Bool.false_eq_true, if_false]
   have : s.set i (repP id l[i]) = s := by
    unfold repP
    rw [if_neg a1, ← hsi]; exact List.set_getElem_self hsl
   rw [this]
 ·show proc_Exit_L17 id p l _ s = _
  unfold proc_Exit_L17
  have : s = l.map (repP id) := by rw [hs]; simp
  subst this
  simp
theorem exit_list {a b : List api_Proc} {x : api_Proc} {id : Int} {s : Str} (hx : x.Id = id) (hu : Uniq (a ++ x :: b)) : (a ++ x :: b).filterMap (exitF id s x) = (a ++ b).map (exitY id s x) := by
 obtain ⟨h1, h2⟩ := hu.mid
 have e : ∀ l : List api_Proc, (∀ y ∈ l, y.Id ≠ x.Id) → l.filterMap (exitF id s x) = l.map (exitY id s x) := by
  intro l
  induction l with
  | nil => intro _; rfl
  | cons y l ih =>
   intro hl
   have : exitF id s x y = some (exitY id s x y) := by unfold exitF; rw [if_neg (by rw [← hx]; exact hl y (by simp))]
   rw [List.filterMap_cons, this, ih fun z hz => hl z (by simp [hz])]
   rfl
 have ex : exitF id s x x = none := by unfold exitF; rw [if_pos hx]
 rw [List.filterMap_append, List.filterMap_cons, ex, e a h1, e b h2, List.map_append]
theorem K8_eq {p q : api_Procs} {a b : List api_Proc} {x : api_Proc} (id : Int) (hn : (a ++ x :: b).length ≤ 100000) : proc_Exit_K8 id q (a.length : Int) (a ++ x :: b) = some ({ q with L := (a ++ b).map (repP id) }, 0) := by
 unfold proc_Exit_K8 slices_Delete_api_Proc_api_Proc_o
 simp at hn
 rw [delL_nat (by omega), Option.bind_some]
 exact rep_loop (p := q) id (by simp; omega)
theorem memM {α : Type} {l a b : List α} {x y : α} (hl : l = a ++ x :: b) (hy : y ∈ a ++ b) : y ∈ l := by
 rw [hl]
 rcases List.mem_append.1 hy with h | h
 ·exact List.mem_append.2 (.inl h)
 ·exact List.mem_append.2 (.inr (List.mem_cons_of_mem _ h))
theorem proc_Exit_eq {p : api_Procs} (h : Mod p) (hu : Uniq p.L) (hpar : ∀ x ∈ p.L, x.Id ≠ 1 → x.Parent ≠ x.Id) (id : Int) (s : Str) : proc_Exit p id s = some (exitS p id s) := by
 have hn := h.n
 unfold proc_Exit proc_short exitS
 rw [proc_own_eq h, Option.bind_some, proc_index_eq h, Option.bind_some]
 rcases at_cases p id with ⟨h1, h2⟩ | ⟨a, x, b, hl, hx, h1, h2⟩
 ·rw [h1, h2]; rfl
 ·rw [h1, h2]
  have hz : ¬ ((a.length : Int) < 0) := by omega
  have e1 : lsAt p.L (a.length : Int) = some x := by rw [hl]; exact lsAt_mid
  simp only [decide_eq_false hz, Bool.false_eq_true, if_false, reduceCtorEq, Option.bind_some, proc_index_eq h]
  unfold shortB
  by_cases a1 : id = 1
  ·simp [a1]
  ·by_cases a2 : (List.length s : Int) ≤ 1024
   ·simp only [decide_eq_false a1, Bool.false_eq_true, if_false, decide_eq_true a2, Bool.not_true, if_neg a1, reduceCtorEq, e1, Option.bind_some]
    have hxm : x ∈ p.L := by rw [hl]; simp
    have hpx : x.Parent ≠ x.Id := hpar x hxm (by rw [hx]; exact a1)
    have fin : p.L.filterMap (exitF id s x) = (a ++ b).map (exitY id s x) := by
     rw [hl] at hu ⊢
     exact exit_list hx hu
    rw [fin]
    have plain : (∀ y ∈ a ++ b, waitC x (repP id y) = false) → proc_Exit_K8 id p (a.length : Int) p.L = some ({ p with L := (a ++ b).map (exitY id s x) }, 0) := by
     intro hw
     rw [hl, K8_eq (p := p) (q := p) id (by rw [← hl]; exact hn)]
     congr 3
     refine List.map_congr_left fun y hy => ?_
     unfold exitY
     rw [if_neg (by rw [hw y hy]; simp)]
    have wC : ∀ y, waitC x (repP id y) = waitC x y := fun y => by
     unfold waitC
     rw [(repP_id id y).1, (repP_id id y).2.1]
    rcases at_cases p x.Parent with ⟨k1, k2⟩ | ⟨a', z, b', hl', hz', k1, k2⟩
    ·rw [k1]
     simp only [show ¬ ((0 : Int) ≤ -1) by omega, decide_false, Bool.false_eq_true, if_false, Option.bind_some]
     refine plain fun y hy => ?_
     rw [wC]
     unfold waitC
     have hne : y.Id ≠ x.Parent := fun he => by
      rcases ixP_cases p.L x.Parent with ⟨q1, _⟩ | ⟨_, _, _, _, _, _, q4⟩
      ·exact q1 y (memM hl hy) he
      ·rw [q4] at k1; omega
     simp [hne]
    ·rw [k1]
     have k0 : (0 : Int) ≤ (a'.length : Int) := by omega
     have e2 : lsAt p.L (a'.length : Int) = some z := by rw [hl']; exact lsAt_mid
     simp only [decide_eq_true k0, if_true, e2, Option.bind_some]
     have uz : ∀ y ∈ p.L, y.Id = x.Parent → y = z := fun y hy he => by
      rw [hl'] at hy hu
      obtain ⟨u1, u2⟩ := hu.mid
      rcases List.mem_append.1 hy with hy | hy
      ·exact (u1 y hy (by rw [he, hz'])).elim
      ·rcases List.mem_cons.1 hy with rfl | hy
       ·rfl
       ·exact (u2 y hy (by rw [he, hz'])).elim
     by_cases b1 : x.Alone = true
     ·simp only [b1, Bool.not_true, Bool.false_eq_true, if_false, Option.bind_some]
      refine plain fun y hy => ?_
      unfold waitC; simp [b1]
     ·have b1' : x.Alone = false := by simpa using b1
      by_cases b2 : (List.length z.Waits : Int) < 64
      ·simp only [b1', Bool.not_false, if_true, Option.bind_some, decide_eq_true b2]
       have c2 : appL 24 z.Waits [api_Wait.mk id s] = some (z.Waits ++ [api_Wait.mk id s]) := appL_small (by simp; omega) (by simp; omega)
       rw [c2, Option.bind_some]
       have hset : List.set p.L (Int.toNat ((a'.length : Nat) : Int)) (addW id s z) = p.L.map fun y => if y.Id = x.Parent then addW id s y else y := by
        have hu' := hu
        rw [hl'] at hu'
        have := putP_mid (x := z) (x' := addW id s z) hu' rfl
        rw [hl', setL (p := p), ← this]
        unfold putP
        refine List.map_congr_left fun y hy => ?_
        have hzz : (addW id s z).Id = x.Parent := hz'
        rw [hzz]
        by_cases hyi : y.Id = x.Parent
        ·rw [if_pos hyi, if_pos hyi, uz y (by rw [hl']; exact hy) hyi]
        ·rw [if_neg hyi, if_neg hyi]
       show proc_Exit_K8 id p (a.length : Int) (List.set p.L (Int.toNat ((a'.length : Nat) : Int)) (addW id s z)) = _
       rw [hset]
       have hmap : (p.L.map fun y => if y.Id = x.Parent then addW id s y else y) = (a.map fun y => if y.Id = x.Parent then addW id s y else y) ++ (if x.Id = x.Parent then addW id s x else x) :: (b.map fun y => if y.Id = x.Parent then addW id s y else y) := by
        rw [hl, List.map_append, List.map_cons]
       rw [hmap]
       have hla : (a.length : Int) = (((a.map fun y => if y.Id = x.Parent then addW id s y else y).length : Nat) : Int) := by simp
       rw [hla, K8_eq (p := p) (q := p) id (by
        have : p.L.length = a.length + (b.length + 1) := by rw [hl]; simp
        simp; omega)]
       congr 3
       rw [← List.map_append, List.map_map]
       refine List.map_congr_left fun y hy => ?_
       have hym : y ∈ p.L := memM hl hy
       show repP id (if y.Id = x.Parent then addW id s y else y) = exitY id s x y
       unfold exitY
       rw [wC]
       by_cases hyi : y.Id = x.Parent
       ·have hyz := uz y hym hyi
        have hw : waitC x y = true := by
         unfold waitC
         rw [hyz, decide_eq_true hz', b1', decide_eq_true b2]; rfl
        rw [if_pos hyi, if_pos hw]
        unfold repP addW
        by_cases hp : y.Parent = id
        ·simp [hp]
        ·simp [hp]
       ·have hw : waitC x y = false := by unfold waitC; simp [hyi]
        rw [if_neg hyi, if_neg (by rw [hw]; simp)]
      ·simp only [b1', Bool.not_false, if_true, Option.bind_some, decide_eq_false b2, Bool.false_eq_true, if_false]
       refine plain fun y hy => ?_
       have hym : y ∈ p.L := memM hl hy
       rw [wC]
       unfold waitC
       by_cases hyi : y.Id = x.Parent
       ·rw [uz y hym hyi]; simp [b2]
       ·simp [hyi]
   ·simp [a1, a2]
theorem Good.parNe {p : api_Procs} (g : Good p) : ∀ x ∈ p.L, x.Id ≠ 1 → x.Parent ≠ x.Id := by
 intro x hx h1 he
 obtain ⟨y, hy, h2, h3⟩ := g.par x hx h1
 omega
end Go.Proofs.YtgmlbldjdhonjaaGreatDoor
