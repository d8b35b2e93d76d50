/- The plain laws of the quotas. -/
import Derived.Test.YtpmkdmgmnljlmaaR
namespace Go.Proofs.Ytpmkdmgmnljlmaa
open Go.Vm
set_option autoImplicit false
set_option linter.unusedVariables false
set_option linter.unusedSimpArgs false

/-! ### Used -/
def usedStep (name : Str) (s : Int × Int) (n : api_Node) : Step (Int × Int) (Int × Int) := if n.Uid = name then .cont (IntKind.wrap .i64 (s.1 + 1), IntKind.wrap .i64 (s.2 + (List.length n.Data : Int))) else .cont s
def used (l : List api_Node) (name : Str) : Int × Int := runL (usedStep name) id (0, 0) l
theorem quota_Used_eq {t : api_Tree} {name : Str} (h : t.Nodes.length ≤ maxLen) : quota_Used t name = some (used t.Nodes name) := by
  unfold quota_Used
  refine loopM_list t.Nodes (fun (s : Int × Int) i => (s.1, s.2, i)) _ (usedStep name) id ?_ ?_ (0, 0)
  · intro s i hi
    simp only [quota_Used_L7, lsAt_nat hi, wrapNat hi h, usedStep]
    by_cases hu : t.Nodes[i].Uid = name <;> simp [hi, hu, Step.map]
  · intro s; simp [quota_Used_L7]
theorem ref12_Used_eq {t : api_Tree} {name : Str} (h : t.Nodes.length ≤ maxLen) : ref12_Used t name = some (used t.Nodes name) := by
  unfold ref12_Used
  refine loopM_list t.Nodes (fun (s : Int × Int) i => (s.1, s.2, i)) _ (usedStep name) id ?_ ?_ (0, 0)
  · intro s i hi
    simp only [ref12_Used_L8, lsAt_nat hi, wrapNat hi h, usedStep]
    by_cases hu : t.Nodes[i].Uid = name <;> simp [hi, hu, Step.map]
  · intro s; simp [ref12_Used_L8]

/-! ### Find -/
def find (l : List api_Quota) (name : Str) : api_Quota × Bool := runL (fun (_ : Unit) q => if q.User = name then .done (q, true) else .cont ()) (fun _ => (⟨[], 0, 0⟩, false)) () l
theorem quota_Find_eq {l : List api_Quota} {name : Str} (h : l.length ≤ maxLen) : quota_Find l name = some (find l name) := by
  unfold quota_Find
  refine loopM_list l (fun (s : Unit) i => i) _ (fun (_ : Unit) q => if q.User = name then .done (q, true) else .cont ()) (fun _ => (⟨[], 0, 0⟩, false)) ?_ ?_ ()
  · intro s i hi
    simp only [quota_Find_L5, lsAt_nat hi, wrapNat hi h]
    by_cases hu : l[i].User = name <;> simp [hi, hu, Step.map]
  · intro s; simp [quota_Find_L5]
theorem ref12_Find_eq {l : List api_Quota} {name : Str} (h : l.length ≤ maxLen) : ref12_Find l name = some (find l name) := by
  unfold ref12_Find
  refine loopM_list l (fun (s : Unit) i => i) _ (fun (_ : Unit) q => if q.User = name then .done (q, true) else .cont ()) (fun _ => (⟨[], 0, 0⟩, false)) ?_ ?_ ()
  · intro s i hi
    simp only [ref12_Find_L6, lsAt_nat hi, wrapNat hi h]
    by_cases hu : l[i].User = name <;> simp [hi, hu, Step.map]
  · intro s; simp [ref12_Find_L6]
theorem find_nil {name : Str} : find [] name = (⟨[], 0, 0⟩, false) := rfl
theorem find_cons {q : api_Quota} {l : List api_Quota} {name : Str} : find (q :: l) name = if q.User = name then (q, true) else find l name := by
  by_cases h : q.User = name <;> simp [find, runL, h]

/-! ### Fits -/
def fits (l : List api_Quota) (t : List api_Node) (name : Str) (x y : Int) : Bool :=
  !(find l name).2 || ((decide (x ≤ 0) || decide (x ≤ IntKind.wrap .i64 ((find l name).1.Files - (used t name).1))) && (decide (y ≤ 0) || decide (y ≤ IntKind.wrap .i64 ((find l name).1.Bytes - (used t name).2))))
theorem quota_Fits_eq {l : List api_Quota} {t : api_Tree} {name : Str} {x y : Int} (h : l.length ≤ maxLen) (ht : t.Nodes.length ≤ maxLen) : quota_Fits l t name x y = some (fits l t.Nodes name x y) := by
  unfold quota_Fits
  simp only [quota_Find_eq h, quota_Used_eq ht, Option.bind_some, fits]
  cases (find l name).2 <;> by_cases hx : x ≤ 0 <;> simp [hx]
theorem ref12_Fits_eq {l : List api_Quota} {t : api_Tree} {name : Str} {x y : Int} (h : l.length ≤ maxLen) (ht : t.Nodes.length ≤ maxLen) : ref12_Fits l t name x y = some (fits l t.Nodes name x y) := by
  unfold ref12_Fits
  simp only [ref12_Find_eq h, ref12_Used_eq ht, Option.bind_some, fits]
  cases (find l name).2 <;> by_cases hx : x ≤ 0 <;> simp [hx]

/-! ### Over -/
def isOver (t : List api_Node) (q : api_Quota) : Bool := decide (q.Files < (used t q.User).1) || decide (q.Bytes < (used t q.User).2)
def overStep (t : List api_Node) (s : List Str) (q : api_Quota) : Step (List Str) (List Str) := if isOver t q = true then .cont (s ++ [q.User]) else .cont s
def over (l : List api_Quota) (t : List api_Node) : List Str := (l.filter (isOver t)).map (·.User)
theorem over_run {t : List api_Node} : ∀ (l : List api_Quota) (s : List Str), runL (overStep t) id s l = s ++ over l t
  | [], s => by simp [runL, over]
  | q :: l, s => by
    by_cases h : isOver t q = true
    · rw [runL_cont (s' := s ++ [q.User]) (by simp [overStep, h]), over_run l]; simp [over, h]
    · rw [runL_cont (s' := s) (by simp [overStep, h]), over_run l]; simp [over, h]
theorem quota_Over_eq {l : List api_Quota} {t : api_Tree} (h : l.length ≤ 1000) (ht : t.Nodes.length ≤ maxLen) : quota_Over l t = some (over l t.Nodes) := by
  unfold quota_Over
  have := loopM_inv l (fun (s : List Str) i => (i, s)) (fun s => quota_Over_L10 l t s.1 s.2) (fun _ => overStep t.Nodes) id (fun i s => s.length ≤ i) (s0 := []) (Nat.le_refl 0) ?_ ?_
  · rw [this, runI_run, over_run]; rfl
  · intro s i hi hs
    have hm : l.length ≤ maxLen := by unfold maxLen; omega
    refine ⟨?_, ?_⟩
    · simp only [quota_Over_L10, lsAt_nat hi, wrapNat hi hm, quota_Used_eq ht, Option.bind_some, overStep, isOver]
      have ha : appL 16 s [l[i].User] = some (s ++ [l[i].User]) := appL_small (by simp; omega) (by simp; omega)
      rw [ha]
      by_cases ho : (decide (l[i].Files < (used t.Nodes l[i].User).1) || decide (l[i].Bytes < (used t.Nodes l[i].User).2)) = true <;> simp [hi, ho, Step.map] at *
    · intro s' hs'
      unfold overStep at hs'
      split at hs' <;> cases hs' <;> (try simp only [List.length_append, List.length_cons, List.length_nil]) <;> omega
  · intro s _; simp [quota_Over_L10]
theorem ref12_Over_eq {l : List api_Quota} {t : api_Tree} (h : l.length ≤ 1000) (ht : t.Nodes.length ≤ maxLen) : ref12_Over l t = some (over l t.Nodes) := by
  unfold ref12_Over
  have := loopM_inv l (fun (s : List Str) i => (i, s)) (fun s => ref12_Over_L13 l t s.1 s.2) (fun _ => overStep t.Nodes) id (fun i s => s.length ≤ i) (s0 := []) (Nat.le_refl 0) ?_ ?_
  · rw [this, runI_run, over_run]; rfl
  · intro s i hi hs
    have hm : l.length ≤ maxLen := by unfold maxLen; omega
    refine ⟨?_, ?_⟩
    · simp only [ref12_Over_L13, lsAt_nat hi, wrapNat hi hm, ref12_Used_eq ht, Option.bind_some, overStep, isOver]
      have ha : appL 16 s [l[i].User] = some (s ++ [l[i].User]) := appL_small (by simp; omega) (by simp; omega)
      rw [ha]
      by_cases ho : l[i].Files < (used t.Nodes l[i].User).1
      · simp [hi, ho, Step.map]
      · by_cases hp : l[i].Bytes < (used t.Nodes l[i].User).2 <;> simp [hi, ho, hp, Step.map]
    · intro s' hs'
      unfold overStep at hs'
      split at hs' <;> cases hs' <;> (try simp only [List.length_append, List.length_cons, List.length_nil]) <;> omega
  · intro s _; simp [ref12_Over_L13]

/-! ### Names -/
theorem ref12_Names_eq {a b : List Str} (h : a.length ≤ maxLen) : ref12_Names a b = some (decide (a = b)) := by
  unfold ref12_Names
  by_cases hl : a.length = b.length
  · have := loopM_listI a (fun (s : Unit) i => i) (fun s => ref12_Names_L7 a b s) (fun i (_ : Unit) x => if some x = b[i]? then .cont () else .done false) (fun _ => true) ?_ ?_ ()
    · have hn : ¬ (!decide ((List.length a : Int) = (List.length b : Int))) = true := by simp [hl]
      rw [if_neg hn, this]
      congr 1
      have key : ∀ (k : Nat) (x y : List Str), x.length = y.length → y = b.drop k → runI (fun i (_ : Unit) (x : Str) => if some x = b[i]? then .cont () else .done false) (fun _ => true) k () x = decide (x = y) := by
        intro k x
        induction x generalizing k with
        | nil => intro y hxy _; cases y <;> simp [runI] at *
        | cons x r ih =>
          intro y hxy hy
          cases y with
          | nil => simp at hxy
          | cons z y =>
            have hz : b[k]? = some z := by
              have := congrArg (fun l => l[0]?) hy
              simpa using this.symm
            have hy' : y = b.drop (k + 1) := by
              have := congrArg (fun l => l.drop 1) hy
              simpa [List.drop_drop, Nat.add_comm] using this
            by_cases hxz : x = z
            · subst hxz
              simp only [runI, hz, if_true]
              rw [ih (k + 1) y (by simpa using hxy) hy']
              simp
            · simp [runI, hz, hxz]
      exact key 0 a b hl (by simp)
    · intro s i hi
      have hb : i < b.length := by omega
      simp only [ref12_Names_L7, lsAt_nat hi, lsAt_nat hb, wrapNat hi h, Option.bind_some, List.getElem?_eq_getElem hb, Option.some.injEq]
      by_cases hx : a[i] = b[i] <;> simp [hi, hx, Step.map]
    · intro s; simp [ref12_Names_L7]
  · have hn : (!decide ((List.length a : Int) = (List.length b : Int))) = true := by simp; omega
    rw [if_pos hn]
    have : a ≠ b := fun e => hl (by rw [e])
    simp [this]

/-! ### names of users -/
def lowB (c : UInt8) : Bool := decide (97 ≤ (c.toNat : Int)) && decide ((c.toNat : Int) ≤ 122)
def moreB (c : UInt8) : Bool := (decide (48 ≤ (c.toNat : Int)) && decide ((c.toNat : Int) ≤ 57)) || (decide ((c.toNat : Int) = 45) || decide ((c.toNat : Int) = 95))
def vU : Bool → Str → Bool
  | _, [] => true
  | first, c :: r => (lowB c || (!first && moreB c)) && vU false r
def validU (name : Str) : Bool := !decide (name = []) && (decide ((List.length name : Int) ≤ 32) && vU true name)
theorem vU_drop {name : Str} {i : Nat} (h : i < name.length) : vU (decide (i = 0)) (name.drop i) = ((lowB name[i] || (!decide (i = 0) && moreB name[i])) && vU (decide (i + 1 = 0)) (name.drop (i + 1))) := by
  rw [List.drop_eq_getElem_cons h]
  simp [vU]
theorem user_Valid_eq {name : Str} : user_Valid name = some (validU name) := by
  unfold user_Valid validU
  by_cases h0 : name = []
  · simp [h0]
  by_cases h1 : (32 : Int) < (List.length name : Int)
  · have : ¬ ((List.length name : Int) ≤ 32) := by omega
    simp [h0, h1, this]
  have hm : name.length ≤ maxLen := by unfold maxLen; omega
  have h2 : (List.length name : Int) ≤ 32 := by omega
  have := loopM_F name.length (fun (s : Unit) i => i) (fun s => user_Valid_L17 name s) (fun i _ => vU (decide (i = 0)) (name.drop i)) (fun _ _ => True) (s0 := ()) trivial ?_ ?_
  · simp only [h0, h1, h2, decide_true, decide_false, Bool.or_self, Bool.false_eq_true, if_false, Bool.not_false, Bool.true_and]
    rw [this]; rfl
  · intro s i hi _
    simp only [user_Valid_L17, strAt_nat hi, wrapNat hi hm, Option.bind_some, vU_drop hi, lowB, moreB]
    have hd : decide ((i : Int) < (List.length name : Int)) = true := by simp [hi]
    have hz : decide ((i : Int) = 0) = decide (i = 0) := by simp
    simp only [hd, hz, if_true]
    generalize vU (decide (i + 1 = 0)) (name.drop (i + 1)) = R
    generalize decide (i = 0) = z
    generalize decide (97 ≤ (name[i].toNat : Int)) = a
    generalize decide ((name[i].toNat : Int) ≤ 122) = b
    generalize decide (48 ≤ (name[i].toNat : Int)) = c
    generalize decide ((name[i].toNat : Int) ≤ 57) = d
    generalize decide ((name[i].toNat : Int) = 45) = e
    generalize decide ((name[i].toNat : Int) = 95) = f
    cases a <;> cases b <;> cases c <;> cases d <;> cases e <;> cases f <;> cases z <;> simp
  · intro s _; simp [user_Valid_L17, vU]
theorem ref05_Valid_eq {name : Str} (hm : name.length ≤ maxLen) : ref05_Valid name = some (validU name) := by
  unfold ref05_Valid validU
  by_cases h0 : name = []
  · simp [h0]
  have h0' : ¬ (List.length name : Int) < 1 := by
    have : name.length ≠ 0 := by simpa using h0
    omega
  by_cases h1 : (32 : Int) < (List.length name : Int)
  · have : ¬ ((List.length name : Int) ≤ 32) := by omega
    simp [h0, h1, this]
  have h2 : (List.length name : Int) ≤ 32 := by omega
  have := loopM_F name.length (fun (s : Unit) i => i) (fun s => ref05_Valid_L12 name s) (fun i _ => vU (decide (i = 0)) (name.drop i)) (fun _ _ => True) (s0 := ()) trivial ?_ ?_
  · simp only [h0, h0', h1, h2, decide_true, decide_false, Bool.or_self, Bool.false_eq_true, if_false, Bool.not_false, Bool.true_and]
    rw [this]; rfl
  · intro s i hi _
    simp only [ref05_Valid_L12, strAt_nat hi, wrapNat hi hm, Option.bind_some, vU_drop hi, lowB, moreB]
    have hd : decide ((i : Int) < (List.length name : Int)) = true := by simp [hi]
    have hz : decide ((i : Int) = 0) = decide (i = 0) := by simp
    simp only [hd, hz, if_true]
    generalize vU (decide (i + 1 = 0)) (name.drop (i + 1)) = R
    generalize decide (i = 0) = z
    generalize decide (97 ≤ (name[i].toNat : Int)) = a
    generalize decide ((name[i].toNat : Int) ≤ 122) = b
    generalize decide (48 ≤ (name[i].toNat : Int)) = c
    generalize decide ((name[i].toNat : Int) ≤ 57) = d
    generalize decide ((name[i].toNat : Int) = 45) = e
    generalize decide ((name[i].toNat : Int) = 95) = f
    cases a <;> cases b <;> cases c <;> cases d <;> cases e <;> cases f <;> cases z <;> simp
  · intro s _; simp [ref05_Valid_L12, vU]

/-! ### Check -/
theorem blt_total : ∀ (a b : Str), (blt a b || decide (a = b)) = !blt b a
  | [], [] => by simp [blt, Op.bytesLess]
  | [], _ :: _ => by simp [blt, Op.bytesLess]
  | _ :: _, [] => by simp [blt, Op.bytesLess]
  | x :: a, y :: b => by
    have ih := blt_total a b
    unfold blt at *
    simp only [Op.bytesLess]
    by_cases h1 : x < y
    · have h2 : ¬ y < x := by have := UInt8.lt_asymm h1; exact this
      have h3 : ¬ y = x := by rintro rfl; exact UInt8.lt_irrefl _ h1
      simp [h1, h2, h3]
    · by_cases h2 : y < x
      · have h3 : ¬ x = y := by rintro rfl; exact UInt8.lt_irrefl _ h2
        simp [h1, h2, h3]
      · have h3 : x = y := UInt8.le_antisymm (UInt8.not_lt.1 h2) (UInt8.not_lt.1 h1)
        subst h3
        simp only [UInt8.lt_irrefl, decide_false, beq_self_eq_true, Bool.true_and, Bool.false_or, List.cons.injEq, true_and]
        exact ih
def badNum (q : api_Quota) : Bool := decide (q.Files < 0) || (decide (9007199254740991 < q.Files) || (decide (q.Bytes < 0) || decide (9007199254740991 < q.Bytes)))
def gap (p : Option Str) (u : Str) : Bool := match p with | some p => !blt p u | none => false
def chk : Option Str → List api_Quota → Int
  | _, [] => 0
  | p, q :: r => if validU q.User = false then 25 else if gap p q.User = true then 2 else if badNum q = true then 5 else chk (some q.User) r
def prevOf (l : List api_Quota) (i : Nat) : Option Str := if i = 0 then none else (l[i - 1]?).map (·.User)
def checkL (l : List api_Quota) : Int := if (64 : Int) < (List.length l : Int) then 22 else chk none l
theorem minmax_bad (a b : Int) : (decide (min a b < 0) || decide (9007199254740991 < max a b)) = (decide (a < 0) || (decide (9007199254740991 < a) || (decide (b < 0) || decide (9007199254740991 < b)))) := by
  rw [Bool.eq_iff_iff]
  simp only [Bool.or_eq_true, decide_eq_true_eq]
  omega
theorem quota_Check_eq {l : List api_Quota} : quota_Check l = some (checkL l) := by
  unfold quota_Check checkL
  by_cases h : (64 : Int) < (List.length l : Int)
  · simp [h]
  have hm : l.length ≤ maxLen := by unfold maxLen; omega
  have := loopM_F l.length (fun (s : Unit) i => i) (fun s => quota_Check_L10 l s) (fun i _ => chk (prevOf l i) (l.drop i)) (fun _ _ => True) (s0 := ()) trivial ?_ ?_
  · simp only [h, decide_false, Bool.false_eq_true, if_false]
    rw [this]; rfl
  · intro s i hi _
    have hd : decide ((i : Int) < (List.length l : Int)) = true := by simp [hi]
    simp only [quota_Check_L10, lsAt_nat hi, wrapNat hi hm, wrapPred hi hm, Option.bind_some, user_Valid_eq, List.drop_eq_getElem_cons hi, chk, hd, if_true, minmax_bad]
    have hp : prevOf l (i + 1) = some l[i].User := by simp [prevOf, hi]
    by_cases hv : validU l[i].User = true
    · by_cases h0 : i = 0
      · subst h0
        have hq : prevOf l 0 = none := rfl
        simp only [gap, hv, hq, hp, if_true, Option.bind_some, Bool.not_true, Bool.false_eq_true, if_false, reduceCtorEq, Int.natCast_zero, Int.lt_irrefl, decide_false]
        cases hb : badNum l[0] <;> unfold badNum at hb <;> simp [hb]
      · have hpos : (0 : Int) < (i : Int) := by omega
        have hq : prevOf l i = some (l[i - 1]'(by omega)).User := by simp [prevOf, h0, show i - 1 < l.length by omega]
        rw [lsAt_pred hi (by omega)]
        simp only [gap, hv, hq, hp, hpos, decide_true, if_true, Option.bind_some, Bool.not_true, Bool.false_eq_true, if_false, reduceCtorEq, blt_total]
        cases blt (l[i - 1]'(by omega)).User l[i].User with
        | false => simp
        | true =>
          cases hb : badNum l[i] <;> unfold badNum at hb <;> simp [hb]
    · simp [hv]
  · intro s _; simp [quota_Check_L10, chk]
theorem ref12_Check_eq {l : List api_Quota} (hw : ∀ q ∈ l, q.User.length ≤ maxLen) : ref12_Check l = some (checkL l) := by
  unfold ref12_Check checkL
  by_cases h : (64 : Int) < (List.length l : Int)
  · simp [h]
  have hm : l.length ≤ maxLen := by unfold maxLen; omega
  have := loopM_F l.length (fun (s : Unit) i => i) (fun s => ref12_Check_L12 l s) (fun i _ => chk (prevOf l i) (l.drop i)) (fun _ _ => True) (s0 := ()) trivial ?_ ?_
  · simp only [h, decide_false, Bool.false_eq_true, if_false]
    rw [this]; rfl
  · intro s i hi _
    have hd : decide ((i : Int) < (List.length l : Int)) = true := by simp [hi]
    simp only [ref12_Check_L12, lsAt_nat hi, wrapNat hi hm, wrapPred hi hm, Option.bind_some, ref05_Valid_eq (hw l[i] (List.getElem_mem hi)), List.drop_eq_getElem_cons hi, chk, hd, if_true]
    have hp : prevOf l (i + 1) = some l[i].User := by simp [prevOf, hi]
    by_cases hv : validU l[i].User = true
    · by_cases h0 : i = 0
      · subst h0
        have hq : prevOf l 0 = none := rfl
        simp only [gap, hv, hq, hp, if_true, Option.bind_some, Bool.not_true, Bool.false_eq_true, if_false, reduceCtorEq, Int.natCast_zero, Int.lt_irrefl, decide_false]
        cases hb : badNum l[0] <;> unfold badNum at hb <;> simp [hb]
      · have hpos : (0 : Int) < (i : Int) := by omega
        have hq : prevOf l i = some (l[i - 1]'(by omega)).User := by simp [prevOf, h0, show i - 1 < l.length by omega]
        rw [lsAt_pred hi (by omega)]
        simp only [gap, hv, hq, hp, hpos, decide_true, if_true, Option.bind_some, Bool.not_true, Bool.false_eq_true, if_false, reduceCtorEq]
        cases blt (l[i - 1]'(by omega)).User l[i].User with
        | false => simp
        | true =>
          cases hb : badNum l[i] <;> unfold badNum at hb <;> simp [hb]
    · simp [hv]
  · intro s _; simp [ref12_Check_L12, chk]

/-! ### the examples -/
theorem law12_two_eq : law12_two = some ⟨3, [⟨1, 1, 0, [47], 2147484141, [97, 110, 110], [], [], 0, 0, []⟩, ⟨2, 1, 0, [102], 420, [97, 110, 110], [], [], 0, 0, [97, 98, 99]⟩]⟩ := rfl
theorem alive_true : law12_alive = some true := by
  unfold law12_alive
  simp only [law12_two_eq, Option.bind_some]
  rw [quota_Used_eq (by simp [maxLen]), quota_Find_eq (by simp [maxLen]), quota_Check_eq, quota_Check_eq, quota_Fits_eq (by simp [maxLen]) (by simp [maxLen]), quota_Fits_eq (by simp [maxLen]) (by simp [maxLen]), quota_Fits_eq (by simp [maxLen]) (by simp [maxLen]), quota_Fits_eq (by simp [maxLen]) (by simp [maxLen]), quota_Over_eq (by simp) (by simp [maxLen])]
  have e : over [⟨[97, 110, 110], 1, 4⟩] [⟨1, 1, 0, [47], 2147484141, [97, 110, 110], [], [], 0, 0, []⟩, ⟨2, 1, 0, [102], 420, [97, 110, 110], [], [], 0, 0, [97, 98, 99]⟩] = [[97, 110, 110]] := by decide +kernel
  simp only [Option.bind_some, e]
  rw [ref12_Names_eq (by simp [maxLen])]
  decide +kernel

theorem few_eq {l : List api_Quota} {t : api_Tree} : law12_few l t = some (decide ((List.length l : Int) ≤ 100) && decide ((List.length t.Nodes : Int) ≤ 200)) := rfl
theorem bind_id {o : Option Bool} : (o.bind fun x => some x) = o := by cases o <;> rfl

theorem law12_QuotaChecks_true (l : List api_Quota) (w : List.length l ≤ maxLen ∧ ∀ y ∈ l, wf_api_Quota y) : law12_QuotaChecks l = some true := by
  unfold law12_QuotaChecks
  simp only [alive_true, quota_Check_eq, ref12_Check_eq (fun q hq => (w.2 q hq).1), Option.bind_some, decide_true, if_true]
  split <;> rfl

theorem law12_QuotaUses_true (l : List api_Quota) (t : api_Tree) (x : law12_Ask) (w : List.length l ≤ maxLen ∧ ∀ y ∈ l, wf_api_Quota y) (wt : wf_api_Tree t) (wx : wf_law12_Ask x) : law12_QuotaUses l t x = some true := by
  unfold law12_QuotaUses
  simp only [few_eq, alive_true, Option.bind_some]
  by_cases hf : (decide ((List.length l : Int) ≤ 100) && decide ((List.length t.Nodes : Int) ≤ 200)) = true
  · simp only [hf, Bool.not_true, Bool.false_eq_true, if_false]
    simp only [Bool.and_eq_true, decide_eq_true_eq] at hf
    have ht : t.Nodes.length ≤ maxLen := wt.2.1
    have hl : l.length ≤ 1000 := by omega
    simp only [quota_Used_eq ht, ref12_Used_eq ht, ref12_Check_eq (fun q hq => (w.2 q hq).1), quota_Find_eq w.1, ref12_Find_eq w.1, quota_Fits_eq w.1 ht, ref12_Fits_eq w.1 ht, quota_Over_eq hl ht, ref12_Over_eq hl ht, Option.bind_some]
    rw [ref12_Names_eq (by unfold over; rw [List.length_map]; exact Nat.le_trans (List.length_filter_le _ _) w.1)]
    by_cases hc : checkL l = 0 <;> simp [hc]
  · simp [hf]

theorem fits_less {l : List api_Quota} {t : List api_Node} {name : Str} {x y x' y' : Int} (h : fits l t name x y = true) : fits l t name (min x x') (min y y') = true := by
  unfold fits at *
  generalize (find l name).1.Files - (used t name).1 = A at *
  generalize (find l name).1.Bytes - (used t name).2 = B at *
  simp only [Bool.or_eq_true, Bool.and_eq_true, Bool.not_eq_true', decide_eq_true_eq] at *
  rcases h with h | ⟨h1, h2⟩
  · exact .inl h
  · exact .inr ⟨by omega, by omega⟩
theorem fits_none {l : List api_Quota} {t : List api_Node} {name : Str} {x y : Int} : fits l t name (min x 0) (min y 0) = true := by
  unfold fits
  have h1 : min x 0 ≤ 0 := by omega
  have h2 : min y 0 ≤ 0 := by omega
  simp [h1, h2]
theorem law12_QuotaLess_true (l : List api_Quota) (t : api_Tree) (x : law12_Ask × law12_Ask) (w : List.length l ≤ maxLen ∧ ∀ y ∈ l, wf_api_Quota y) (wt : wf_api_Tree t) (wx : wf_law12_Ask_law12_Ask x) : law12_QuotaLess l t x = some true := by
  unfold law12_QuotaLess
  have ht : t.Nodes.length ≤ maxLen := wt.2.1
  simp only [few_eq, alive_true, Option.bind_some, ref12_Check_eq (fun q hq => (w.2 q hq).1), quota_Fits_eq w.1 ht, fits_none]
  cases hf : fits l t.Nodes x.1.User x.1.Files x.1.Bytes with
  | true =>
    rw [fits_less hf]
    split <;> simp
  | false =>
    split <;> simp

/-! ### what a checked list is -/
theorem blt_trans : ∀ {a b c : Str}, blt a b = true → blt b c = true → blt a c = true
  | _, [], _, h, _ => by simp [blt, Op.bytesLess] at h
  | _, _ :: _, [], _, h => by simp [blt, Op.bytesLess] at h
  | [], _ :: _, _ :: _, _, _ => by simp [blt, Op.bytesLess]
  | x :: a, y :: b, z :: c, h1, h2 => by
    have ih := @blt_trans a b c
    unfold blt at *
    simp only [Op.bytesLess, Bool.or_eq_true, decide_eq_true_eq, Bool.and_eq_true, beq_iff_eq] at *
    rcases h1 with h1 | ⟨rfl, h1⟩
    · rcases h2 with h2 | ⟨rfl, h2⟩
      · exact .inl (UInt8.lt_trans h1 h2)
      · exact .inl h1
    · rcases h2 with h2 | ⟨rfl, h2⟩
      · exact .inl h2
      · exact .inr ⟨rfl, ih h1 h2⟩
theorem blt_irrefl : ∀ (a : Str), blt a a = false
  | [] => rfl
  | x :: a => by
    have ih := blt_irrefl a
    unfold blt at *
    simp [Op.bytesLess, ih, UInt8.lt_irrefl]
theorem chk_cons {q : api_Quota} {r : List api_Quota} {p : Option Str} (h : chk p (q :: r) = 0) : badNum q = false ∧ (∀ s, p = some s → blt s q.User = true) ∧ chk (some q.User) r = 0 := by
  unfold chk at h
  by_cases h1 : validU q.User = false
  · rw [if_pos h1] at h; cases h
  rw [if_neg h1] at h
  by_cases h2 : gap p q.User = true
  · rw [if_pos h2] at h; cases h
  rw [if_neg h2] at h
  by_cases h3 : badNum q = true
  · rw [if_pos h3] at h; cases h
  rw [if_neg h3] at h
  refine ⟨by simpa using h3, ?_, h⟩
  rintro s rfl
  simpa [gap] using h2
theorem chk_ok : ∀ {l : List api_Quota} {p : Option Str}, chk p l = 0 → (∀ q ∈ l, badNum q = false ∧ ∀ s, p = some s → blt s q.User = true)
  | [], _, _ => by simp
  | q :: r, p, h => by
    obtain ⟨h3, hq, h⟩ := chk_cons h
    have ih := chk_ok h
    intro x hx
    rcases List.mem_cons.1 hx with rfl | hx
    · exact ⟨h3, hq⟩
    · exact ⟨(ih x hx).1, fun s hs => blt_trans (hq s hs) ((ih x hx).2 _ rfl)⟩
theorem chk_find : ∀ {l : List api_Quota} {p : Option Str}, chk p l = 0 → ∀ q ∈ l, find l q.User = (q, true)
  | [], _, _ => by simp
  | q :: r, p, h => by
    obtain ⟨_, _, h⟩ := chk_cons h
    have ih := chk_find h
    have hk := chk_ok h
    intro x hx
    rcases List.mem_cons.1 hx with rfl | hx
    · rw [find_cons, if_pos rfl]
    · have hne : ¬ q.User = x.User := fun e => by
        have := (hk x hx).2 _ rfl
        rw [e, blt_irrefl] at this
        cases this
      rw [find_cons, if_neg hne]
      exact ih x hx
theorem checkL_ok {l : List api_Quota} (h : checkL l = 0) : ∀ q ∈ l, badNum q = false ∧ find l q.User = (q, true) := by
  unfold checkL at h
  split at h
  · cases h
  · exact fun q hq => ⟨(chk_ok h q hq).1, chk_find h q hq⟩
theorem badNum_false {q : api_Quota} (h : badNum q = false) : 0 ≤ q.Files ∧ q.Files ≤ 9007199254740991 ∧ 0 ≤ q.Bytes ∧ q.Bytes ≤ 9007199254740991 := by
  unfold badNum at h
  simp only [Bool.or_eq_false_iff, decide_eq_false_iff_not] at h
  omega
theorem used_nil {name : Str} : used [] name = (0, 0) := rfl
theorem wrap_within (n : Int) : -9223372036854775808 ≤ IntKind.wrap .i64 n ∧ IntKind.wrap .i64 n ≤ 9223372036854775807 ∧ (∃ k : Int, IntKind.wrap .i64 n = n + k * 18446744073709551616) := by
  rw [Go.IntKind.wrap_i64]
  refine ⟨by omega, by omega, ?_⟩
  exact ⟨-((n + 9223372036854775808) / 18446744073709551616), by omega⟩

/-! ### QuotaOver -/
theorem fits_empty {l : List api_Quota} {q : api_Quota} (hf : find l q.User = (q, true)) (hb : badNum q = false) (x y : Int) : fits l [] q.User x y = (!(decide (q.Files < x) || decide (q.Bytes < y))) := by
  have := badNum_false hb
  unfold fits
  simp only [hf, used_nil, Bool.not_true, Bool.false_or, Int.sub_zero]
  rw [wrap64 (by omega) (by omega), wrap64 (by omega) (by omega), Bool.eq_iff_iff]
  simp only [Bool.or_eq_true, Bool.and_eq_true, decide_eq_true_eq, Bool.not_eq_true', Bool.or_eq_false_iff, decide_eq_false_iff_not]
  omega
theorem over_drop {l : List api_Quota} {t : List api_Node} {i : Nat} (h : i < l.length) : over (l.drop i) t = if isOver t l[i] = true then l[i].User :: over (l.drop (i + 1)) t else over (l.drop (i + 1)) t := by
  unfold over
  rw [List.drop_eq_getElem_cons h, List.filter_cons]
  by_cases hi : isOver t l[i] = true <;> simp only [hi, if_true, if_false, List.map_cons]
  simp
theorem law12_QuotaOver_true (l : List api_Quota) (t : api_Tree) (w : List.length l ≤ maxLen ∧ ∀ y ∈ l, wf_api_Quota y) (wt : wf_api_Tree t) : law12_QuotaOver l t = some true := by
  unfold law12_QuotaOver
  have ht : t.Nodes.length ≤ maxLen := wt.2.1
  simp only [few_eq, alive_true, Option.bind_some, ref12_Check_eq (fun q hq => (w.2 q hq).1)]
  by_cases hf : (decide ((List.length l : Int) ≤ 100) && decide ((List.length t.Nodes : Int) ≤ 200)) = true
  · simp only [hf, Bool.not_true, Bool.false_eq_true, if_false, Option.bind_some]
    simp only [Bool.and_eq_true, decide_eq_true_eq] at hf
    by_cases hc : checkL l = 0
    · have hok := checkL_ok hc
      have hl : l.length ≤ 1000 := by omega
      simp only [hc, decide_true, Bool.not_true, Bool.false_eq_true, if_false, quota_Over_eq hl ht, Option.bind_some]
      refine loopM_F (τ := Int × Int) l.length (fun (n : Nat) i => ((n : Int), i)) (fun s => law12_QuotaOver_L21 l t (over l t.Nodes) s.1 s.2) (fun i (n : Nat) => true) (fun i n => over l t.Nodes = (over l t.Nodes).take n ++ over (l.drop i) t.Nodes ∧ n ≤ (over l t.Nodes).length) (s0 := 0) (by simp) ?_ ?_
      · rintro n i hi ⟨hn, hle⟩
        left
        have hmem : l[i] ∈ l := List.getElem_mem hi
        obtain ⟨hb, hfd⟩ := hok _ hmem
        have hd : decide ((i : Int) < (List.length l : Int)) = true := by simp [hi]
        have hov : isOver t.Nodes l[i] = (decide (l[i].Files < (used t.Nodes l[i].User).1) || decide (l[i].Bytes < (used t.Nodes l[i].User).2)) := rfl
        have hz : (List.length ([] : List api_Node)) ≤ maxLen := by simp
        have hov2 := over_drop (t := t.Nodes) hi
        simp only [law12_QuotaOver_L21, lsAt_nat hi, wrapNat hi w.1, Option.bind_some, hd, if_true, quota_Used_eq ht, quota_Fits_eq (t := ⟨0, []⟩) w.1 hz, fits_empty hfd hb, ← hov, Bool.not_not]
        cases hio : isOver t.Nodes l[i] with
        | false =>
          rw [hio] at hov2
          refine ⟨n, by simp, trivial, ?_, hle⟩
          have e : over (l.drop i) t.Nodes = over (l.drop (i + 1)) t.Nodes := by simpa using hov2
          rw [← e]; exact hn
        | true =>
          rw [hio, if_pos rfl] at hov2
          rw [hov2] at hn
          have hlen : n < (over l t.Nodes).length := by
            have := congrArg List.length hn
            simp at this
            omega
          have hget : (over l t.Nodes)[n] = l[i].User := by
            have h1 := congrArg (fun x => x[n]?) hn
            simp only [List.getElem?_append, List.length_take] at h1
            rw [if_neg (by omega), Nat.min_eq_left (by omega)] at h1
            simpa [hlen] using h1
          have hlt : ¬ ((List.length (over l t.Nodes) : Int) ≤ (n : Int)) := by omega
          refine ⟨n + 1, ?_, trivial, ?_, by omega⟩
          · simp only [hlt, decide_false, Bool.false_eq_true, if_false, if_true, lsAt_nat hlen, Option.bind_some, hget, decide_true, Bool.not_true]
            rw [wrapNat hlen (by unfold over; rw [List.length_map]; exact Nat.le_trans (List.length_filter_le _ _) w.1)]
            rfl
          · rw [List.take_succ_eq_append_getElem hlen, hget, List.append_assoc]
            exact hn
      · rintro n ⟨hn, hle⟩
        have : n = (over l t.Nodes).length := by
          have := congrArg List.length hn
          simp [over] at this hle ⊢
          omega
        subst this
        simp [law12_QuotaOver_L21, law12_QuotaOver_A36, alive_true]
    · simp [hc]
  · simp [hf]

/-! ### QuotaAdds -/
theorem used_snoc {l : List api_Node} {n : api_Node} {name : Str} : used (l ++ [n]) name = if n.Uid = name then (IntKind.wrap .i64 ((used l name).1 + 1), IntKind.wrap .i64 ((used l name).2 + (List.length n.Data : Int))) else used l name := by
  have key : ∀ (l : List api_Node) (s : Int × Int), runL (usedStep name) id s (l ++ [n]) = if n.Uid = name then (IntKind.wrap .i64 ((runL (usedStep name) id s l).1 + 1), IntKind.wrap .i64 ((runL (usedStep name) id s l).2 + (List.length n.Data : Int))) else runL (usedStep name) id s l := by
    intro l
    induction l with
    | nil => intro s; by_cases h : n.Uid = name <;> simp [runL, usedStep, h]
    | cons x r ih =>
      intro s
      by_cases h : x.Uid = name <;> simp only [List.cons_append, runL, usedStep, h, if_true, if_false] <;> exact ih _
  exact key l (0, 0)
theorem used_bound {l : List api_Node} {name : Str} : 0 ≤ (used l name).1 ∧ (used l name).1 ≤ l.length ∨ maxLen < l.length := by
  by_cases hm : maxLen < l.length
  · exact .inr hm
  · refine .inl ?_
    have key : ∀ (r : List api_Node) (s : Int × Int) (k : Nat), 0 ≤ s.1 → s.1 ≤ k → k + r.length ≤ maxLen → 0 ≤ (runL (usedStep name) id s r).1 ∧ (runL (usedStep name) id s r).1 ≤ (k + r.length : Nat) := by
      intro r
      induction r with
      | nil => intro s k h0 h1 _; simpa [runL] using ⟨h0, h1⟩
      | cons x r ih =>
        intro s k h0 h1 h2
        simp only [List.length_cons] at h2
        by_cases h : x.Uid = name
        · have hw : IntKind.wrap .i64 (s.1 + 1) = s.1 + 1 := wrap64 (by omega) (by unfold maxLen at h2; omega)
          simp only [runL, usedStep, h, if_true, hw]
          have := ih (s.1 + 1, IntKind.wrap .i64 (s.2 + (List.length x.Data : Int))) (k + 1) (by simp; omega) (by simp; omega) (by omega)
          simp only [List.length_cons]
          refine ⟨this.1, ?_⟩
          have h3 := this.2
          omega
        · simp only [runL, usedStep, h, if_false]
          have := ih s k h0 h1 (by omega)
          simp only [List.length_cons]
          refine ⟨this.1, ?_⟩
          have h3 := this.2
          omega
    have := key l (0, 0) 0 (by simp) (by simp) (by omega)
    rw [Nat.zero_add] at this
    exact this
theorem used_in (l : List api_Node) (name : Str) : -9223372036854775808 ≤ (used l name).2 ∧ (used l name).2 ≤ 9223372036854775807 := by
  have key : ∀ (r : List api_Node) (s : Int × Int), (-9223372036854775808 ≤ s.2 ∧ s.2 ≤ 9223372036854775807) → -9223372036854775808 ≤ (runL (usedStep name) id s r).2 ∧ (runL (usedStep name) id s r).2 ≤ 9223372036854775807 := by
    intro r
    induction r with
    | nil => intro s h; exact h
    | cons x r ih =>
      intro s h
      by_cases hx : x.Uid = name
      · simp only [runL, usedStep, hx, if_true]
        exact ih _ ⟨(wrap_within _).1, (wrap_within _).2.1⟩
      · simp only [runL, usedStep, hx, if_false]
        exact ih s h
  exact key l (0, 0) (by simp)
theorem over_add {l : List api_Quota} {t : List api_Node} {user data : Str} (hl : t.length ≤ 200) (hok : ∀ q ∈ l, badNum q = false ∧ find l q.User = (q, true)) (hd : data.length ≤ 1000) (hf : fits l t user 1 (List.length data : Int) = true) :
    over l (t ++ [⟨0, 0, 0, [], 0, user, [], [], 0, 0, data⟩]) = over l t := by
  unfold over
  congr 1
  refine List.filter_congr fun q hq => ?_
  obtain ⟨hb, hfd⟩ := hok q hq
  unfold isOver
  rw [used_snoc]
  by_cases hu : user = q.User
  · subst hu
    simp only [if_true]
    have hn := badNum_false hb
    unfold fits at hf
    simp only [hfd, Bool.not_true, Bool.false_or] at hf
    have hu1 := used_bound (l := t) (name := q.User)
    have hu2 := used_in t q.User
    generalize used t q.User = u at *
    obtain ⟨f, b⟩ := u
    simp only at *
    have hf1 : 0 ≤ f ∧ f ≤ 200 := by
      rcases hu1 with h | h
      · omega
      · unfold maxLen at h; omega
    rw [wrap64 (n := f + 1) (by omega) (by omega)]
    rw [wrap64 (n := q.Files - f) (by omega) (by omega)] at hf
    have hw := wrap_within (q.Bytes - b)
    have hw2 := wrap_within (b + (List.length data : Int))
    generalize IntKind.wrap .i64 (q.Bytes - b) = W at *
    generalize IntKind.wrap .i64 (b + (List.length data : Int)) = V at *
    obtain ⟨k, hk⟩ := hw.2.2
    obtain ⟨k2, hk2⟩ := hw2.2.2
    simp only [Bool.and_eq_true, Bool.or_eq_true, decide_eq_true_eq] at hf
    rw [Bool.eq_iff_iff]
    simp only [Bool.or_eq_true, decide_eq_true_eq]
    omega
  · simp [hu]
theorem law12_QuotaAdds_true (l : List api_Quota) (t : api_Tree) (user data : Str) (w : List.length l ≤ maxLen ∧ ∀ y ∈ l, wf_api_Quota y) (wt : wf_api_Tree t) (wu : List.length user ≤ maxLen) (wd : List.length data ≤ maxLen) : law12_QuotaAdds l t user data = some true := by
  unfold law12_QuotaAdds
  have ht : t.Nodes.length ≤ maxLen := wt.2.1
  simp only [few_eq, alive_true, Option.bind_some, ref12_Check_eq (fun q hq => (w.2 q hq).1), quota_Fits_eq w.1 ht]
  by_cases hf : (decide ((List.length l : Int) ≤ 100) && decide ((List.length t.Nodes : Int) ≤ 200)) = true
  · simp only [hf, Bool.not_true, Bool.false_eq_true, if_false]
    simp only [Bool.and_eq_true, decide_eq_true_eq] at hf
    by_cases hd : (1000 : Int) < (List.length data : Int)
    · simp [hd]
    by_cases hc : checkL l = 0
    · cases hfit : fits l t.Nodes user 1 (List.length data : Int) with
      | false => simp [hd, hc]
      | true =>
        have ha1 : appL 128 ([] : List api_Node) t.Nodes = some t.Nodes := by rw [appL_small (by simp; omega) (by simp; omega)]; rfl
        have ha2 : appL 128 t.Nodes [(⟨0, 0, 0, [], 0, user, [], [], 0, 0, data⟩ : api_Node)] = some (t.Nodes ++ [⟨0, 0, 0, [], 0, user, [], [], 0, 0, data⟩]) := appL_small (by simp; omega) (by simp; omega)
        have hl : l.length ≤ 1000 := by omega
        have e1 := quota_Over_eq (t := t) hl ht
        have e2 := quota_Over_eq (l := l) (t := ⟨t.Next, t.Nodes ++ [⟨0, 0, 0, [], 0, user, [], [], 0, 0, data⟩]⟩) hl (by simp; unfold maxLen; omega)
        simp only at e2
        rw [over_add (by omega) (checkL_ok hc) (by omega) hfit] at e2
        simp only [hd, hc, decide_true, decide_false, Bool.not_true, Bool.false_eq_true, if_false, Option.bind_some, ha1, ha2, e1, e2]
        rw [ref12_Names_eq (by unfold over; rw [List.length_map]; exact Nat.le_trans (List.length_filter_le _ _) w.1)]
        simp
    · simp [hd, hc]
  · simp [hf]
end Go.Proofs.Ytpmkdmgmnljlmaa
