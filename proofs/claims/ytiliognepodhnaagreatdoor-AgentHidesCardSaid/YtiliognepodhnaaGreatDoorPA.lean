import Derived.Test.YtiliognepodhnaaGreatDoorR
import Derived.Test.YtiliognepodhnaaGreatDoorVmQ
import Derived.Lib.ReplaceLaws
import Derived.Test.YtiliognepodhnaaGreatDoorVmI
import Derived.Lib.ItoaLen
namespace Go.Proofs.YtiliognepodhnaaGreatDoor
open Go.Vm
set_option autoImplicit false
set_option linter.unusedVariables false
set_option linter.unusedSimpArgs false
set_option maxRecDepth 100000
theorem bQ4 {α : Type} {o : Option α} : (o.bind fun x => some x) = o := by cases o <;> rfl
theorem ab1 {i : Nat} (h : i ≤ 1000000) : IntKind.wrap .i64 ((i : Int) + 1) = (i : Int) + 1 := ag8 (by omega) (by omega)
theorem dlt {i n : Nat} (h : i < n) : decide ((i : Int) < (n : Int)) = true := by simp [h]
theorem dge {n : Nat} : decide ((n : Int) < (n : Int)) = false := by simp
def av0 (stops : Str) : Str → Nat
 | [] => 0
 | c :: r => if stops.contains c then 0 else av0 stops r + 1
theorem aY1 (stops s : Str) : av0 stops s ≤ s.length := by
 induction s with
 | nil => exact Nat.le_refl _
 | cons c r ih => unfold av0; split <;> simp <;> omega
theorem bb5 {s stops : Str} (hm : s.length ≤ 1000000) : ar4 s stops = some (av0 stops s : Int) := by
 unfold ar4
 refine (af6 s.length (fun (_ : Unit) i => i) (fun v => az1 s stops v) (fun i _ => ((i + av0 stops (s.drop i) : Nat) : Int)) (fun _ _ => True) (s0 := ()) trivial ?_ ?_).trans ?_
 ·intro _ i hi _
  simp only [az1, dlt hi, if_true, ar0 hi, Option.bind_some, strings_IndexByte, stringslite_IndexByte, a01, b41, cv1, List.drop_eq_getElem_cons hi, av0]
  by_cases hc : stops.contains s[i] = true
  ·right; rw [if_pos hc, if_pos hc]; rfl
  ·left
   refine ⟨(), ?_, ?_, trivial⟩
   ·rw [if_neg hc, ab1 (by omega)]
   ·rw [if_neg hc]; omega
 ·intro _ _
  simp [az1, av0]
 ·simp
theorem aY2 {s p : Str} : stringslite_HasPrefix s p = some (p.isPrefixOf s) := by
 unfold stringslite_HasPrefix
 by_cases h : p.length ≤ s.length
 ·have h1 : ((List.length p : Int) ≤ (List.length s : Int)) := by omega
  simp only [h1, decide_true, if_true, aN6 h, Option.bind_some]
  congr 1
  rw [Bool.eq_iff_iff, decide_eq_true_eq, List.isPrefixOf_iff_prefix]
  rw [List.prefix_iff_eq_take]; exact eq_comm
 ·have h1 : ¬ ((List.length p : Int) ≤ (List.length s : Int)) := by omega
  simp only [h1, decide_false, Bool.false_eq_true, if_false, Option.bind_some]
  congr 1
  symm
  rw [Bool.eq_false_iff]
  intro e
  exact h (List.isPrefixOf_iff_prefix.1 e).length_le
theorem bb6 {s p : Str} : strings_HasPrefix s p = some (p.isPrefixOf s) := by
 unfold strings_HasPrefix; rw [aY2]; rfl
def bq9 (c : UInt8) : Bool := (decide (97 ≤ (c.toNat : Int)) && decide ((c.toNat : Int) ≤ 122)) || ((decide (48 ≤ (c.toNat : Int)) && decide ((c.toNat : Int) ≤ 57)) || (decide ((c.toNat : Int) = 45) || decide ((c.toNat : Int) = 95)))
def b68 (c : UInt8) : Bool := decide (97 ≤ (c.toNat : Int)) && decide ((c.toNat : Int) ≤ 122)
def ai7 (s : Str) : Bool := ([33] : Str).isPrefixOf s
def ck5 (s : Str) : Str := if ai7 s then s.drop 1 else s
def bJ3 (s : Str) : Bool := match s with
 | [] => false
 | c :: r => b68 c && r.all bq9 && decide (s.length ≤ 32)
def bJ4 (s : Str) : Bool := bJ3 (ck5 s)
theorem b42 (c : UInt8) (h : b68 c = true) : bq9 c = true := by
 unfold b68 at h; unfold bq9; rw [h]; rfl
theorem b43 {c : UInt8} {r : Str} : bJ3 (c :: r) = (b68 c && (c :: r).all bq9 && decide ((c :: r).length ≤ 32)) := by
 show (b68 c && r.all bq9 && decide _) = _
 cases h : b68 c
 ·rfl
 ·rw [List.all_cons, b42 c h]; rfl
theorem bX7 (s : Str) : (ck5 s).length ≤ s.length := by
 unfold ck5; split <;> simp
theorem bD6 {s : Str} : strings_TrimPrefix s [33] = some (ck5 s) := by
 unfold strings_TrimPrefix stringslite_TrimPrefix
 rw [aY2 (s := s) (p := [33])]
 unfold ck5 ai7
 cases hp : ([33] : Str).isPrefixOf s with
 | false => simp
 | true =>
  have hl : 1 ≤ s.length := (List.isPrefixOf_iff_prefix.1 hp).length_le
  have := ay7 (l := s) (a := 1) hl
  simp only [Option.bind_some, if_true]
  rw [show (List.length ([33] : Str) : Int) = ((1 : Nat) : Int) from rfl, this]; rfl
theorem bQ5 {s : Str} (hs : s.length ≤ 1000000) : aQ7 s = some (bJ4 s) := by
 unfold aQ7 bJ4
 rw [bD6, Option.bind_some]
 have hl := bX7 s
 generalize ck5 s = x at hl ⊢
 cases x with
 | nil => rfl
 | cons c r =>
  have hat : ah0 (c :: r) 0 = some c := rfl
  simp only [reduceCtorEq, decide_false, Bool.false_eq_true, if_false, hat, Option.bind_some, b43]
  by_cases hlen : (32 : Int) < (List.length (c :: r) : Int)
  ·have : ¬ ((c :: r).length ≤ 32) := by omega
   simp only [hlen, decide_true, if_true, Option.bind_some, this, decide_false, Bool.and_false]
  ·have h32 : (c :: r).length ≤ 32 := by omega
   simp only [hlen, decide_false, Bool.false_eq_true, if_false, h32, decide_true, Bool.and_true]
   have hloop : aa9 (fun s => ao7 (c :: r) s) 0 = some ((c :: r).all bq9) := by
    refine (af6 (c :: r).length (fun (_ : Unit) i => i) (fun v => ao7 (c :: r) v) (fun i _ => ((c :: r).drop i).all bq9) (fun _ _ => True) (s0 := ()) trivial ?_ ?_).trans rfl
    ·intro _ i hi _
     have key : ∀ c : UInt8, (bif (decide ((c.toNat : Int) < 97)) then (bif (decide ((c.toNat : Int) < 48)) then ((!decide ((c.toNat : Int) = 45)) && (!decide ((c.toNat : Int) = 95))) else ((decide (57 < (c.toNat : Int))) && ((!decide ((c.toNat : Int) = 45)) && (!decide ((c.toNat : Int) = 95))))) else ((decide (122 < (c.toNat : Int))) && (bif (decide ((c.toNat : Int) < 48)) then ((!decide ((c.toNat : Int) = 45)) && (!decide ((c.toNat : Int) = 95))) else ((decide (57 < (c.toNat : Int))) && ((!decide ((c.toNat : Int) = 45)) && (!decide ((c.toNat : Int) = 95))))))) = !bq9 c := bp5 (by decide +kernel)
     simp only [ao7, dlt hi, if_true, ar0 hi, Option.bind_some, List.drop_eq_getElem_cons hi, List.all_cons, key]
     cases hn : bq9 (c :: r)[i]
     ·right; simp
     ·left
      refine ⟨(), ?_, by simp, trivial⟩
      simp only [Bool.not_true, Bool.false_eq_true, if_false]
      rw [ab1 (by omega)]
    ·intro _ _
     simp [ao7]
   rw [hloop]
   have k1 : ∀ c : UInt8, b68 c = (!decide ((c.toNat : Int) < 97) && !decide (122 < (c.toNat : Int))) := bp5 (by decide +kernel)
   rw [k1]
   cases decide ((c.toNat : Int) < 97) <;> cases decide (122 < (c.toNat : Int)) <;> simp
theorem bJ5 {s : Str} : aD8 s = some (ai7 s) := by
 unfold aD8 ai7
 cases s with
 | nil => rfl
 | cons c r =>
  have h1 : (0 : Int) < (List.length (c :: r) : Int) := by simp only [List.length_cons]; omega
  have h2 : ah0 (c :: r) 0 = some c := rfl
  have h3 : decide ((c.toNat : Int) = 33) = decide (c = 33) := isC c 33
  simp only [h1, decide_true, if_true, h2, Option.bind_some, h3, List.isPrefixOf]
  have key : ∀ c : UInt8, decide (c = 33) = ((33 == c) && true) := bp5 (by decide +kernel)
  rw [key]
theorem b44 {s : Str} (hs : s.length ≤ 1000000) : aN7 s = some (bJ4 s) := by
 have hk : aN7 s = ay9 (ck5 s) := by
  unfold aN7
  rw [bJ5, Option.bind_some]
  unfold ck5
  cases hp : ai7 s with
  | false => simp
  | true =>
   have hl : 1 ≤ s.length := (List.isPrefixOf_iff_prefix.1 hp).length_le
   have := ay7 (l := s) (a := 1) hl
   simp only [if_true]
   rw [show (1 : Int) = ((1 : Nat) : Int) from rfl, this]; rfl
 rw [hk]
 unfold bJ4
 have hl := bX7 s
 generalize ck5 s = x at hl ⊢
 unfold ay9
 let tail (i : Nat) (x : Str) : Bool := match i with
  | 0 => bJ3 x
  | _ => (x.drop i).all bq9 && (decide (1 ≤ (List.length x : Int)) && decide ((List.length x : Int) ≤ 32))
 refine (af6 x.length (fun (_ : Unit) i => i) (fun v => av5 x v) (fun i _ => tail i x) (fun _ _ => True) (s0 := ()) trivial ?_ ?_).trans rfl
 ·intro _ i hi _
  have key : ∀ c : UInt8, ((if (decide (97 ≤ (c.toNat : Int))) then some (decide ((c.toNat : Int) ≤ 122)) else some false) : Option Bool) = some (b68 c) := by
   intro c; unfold b68; cases decide (97 ≤ (c.toNat : Int)) <;> rfl
  have key2 : ∀ c : UInt8, (if (decide (48 ≤ (c.toNat : Int))) then (if (decide ((c.toNat : Int) ≤ 57)) then some false else (if (decide ((c.toNat : Int) = 45)) then some false else some (!(decide ((c.toNat : Int) = 95))))) else (if (decide ((c.toNat : Int) = 45)) then some false else some (!(decide ((c.toNat : Int) = 95)))) : Option Bool) = some (!(decide (48 ≤ (c.toNat : Int)) && decide ((c.toNat : Int) ≤ 57) || (decide ((c.toNat : Int) = 45) || decide ((c.toNat : Int) = 95)))) := bp5 (by decide +kernel)
  have key3 : ∀ c : UInt8, bq9 c = (b68 c || ((decide (48 ≤ (c.toNat : Int)) && decide ((c.toNat : Int) ≤ 57)) || (decide ((c.toNat : Int) = 45) || decide ((c.toNat : Int) = 95)))) := fun c => rfl
  simp only [av5, dlt hi, if_true, ar0 hi, Option.bind_some, key]
  have hlen1 : (1 : Int) ≤ (List.length x : Int) := by omega
  cases i with
  | zero =>
   cases x with
   | nil => simp at hi
   | cons c r =>
    simp only [List.getElem_cons_zero, tail, bJ3]
    cases hlow : b68 c with
    | false => right; simp
    | true =>
     left
     refine ⟨(), ?_, ?_, trivial⟩
     ·simp only [Bool.not_true, Bool.false_eq_true, if_false, Option.bind_some]
      rw [ab1 (by omega)]
     ·simp only [Bool.true_and, List.drop_succ_cons, List.drop_zero, hlen1, decide_true]
      congr 1
      rw [Bool.eq_iff_iff, decide_eq_true_eq, decide_eq_true_eq]; omega
  | succ i =>
   have h0 : decide (((i + 1 : Nat) : Int) = 0) = false := by simp; omega
   simp only [tail, List.drop_eq_getElem_cons hi, List.all_cons, h0, Bool.false_eq_true, if_false, key2]
   rw [key3]
   cases hlow : b68 x[i + 1] with
   | true =>
    left
    refine ⟨(), ?_, by simp, trivial⟩
    simp only [Bool.not_true, Bool.false_eq_true, if_false, Option.bind_some]
    rw [ab1 (by omega)]
   | false =>
    simp only [Bool.not_false, if_true, Option.bind_some, Bool.false_or]
    generalize (decide (48 ≤ (x[i + 1].toNat : Int)) && decide ((x[i + 1].toNat : Int) ≤ 57) || (decide ((x[i + 1].toNat : Int) = 45) || decide ((x[i + 1].toNat : Int) = 95))) = q
    cases q with
    | false => right; simp
    | true =>
     left
     refine ⟨(), ?_, by simp, trivial⟩
     simp only [Bool.not_true, Bool.false_eq_true, if_false]
     rw [ab1 (by omega)]
 ·intro _ _
  simp only [av5, dge, Bool.false_eq_true, if_false]
  cases x with
  | nil => rfl
  | cons c r => simp [tail]
def bb7 (v : Str) : Bool := v.all fun c => !([0, 10, 13] : Str).contains c
theorem bJ6 (stops s : Str) : decide ((av0 stops s : Int) < (List.length s : Int)) = !(s.all fun c => !stops.contains c) := by
 induction s with
 | nil => rfl
 | cons c r ih =>
  unfold av0
  by_cases hc : stops.contains c = true
  ·rw [if_pos hc]; simp only [List.all_cons, hc]; simp
  ·have hc' : stops.contains c = false := by simpa using hc
   rw [if_neg hc, List.all_cons, hc', Bool.not_false, Bool.true_and, ← ih]
   congr 1
   simp only [List.length_cons, eq_iff_iff]; omega
theorem bQ6 {v : Str} (hv : v.length ≤ 1000000) : aI3 v = some (bb7 v) := by
 unfold aI3
 refine (af6 v.length (fun (_ : Unit) i => i) (fun s => as8 v s) (fun i _ => bb7 (v.drop i)) (fun _ _ => True) (s0 := ()) trivial ?_ ?_).trans rfl
 ·intro _ i hi _
  have key : ∀ c : UInt8, ((if (decide ((c.toNat : Int) = 0)) then some true else (if (decide ((c.toNat : Int) = 10)) then some true else some (decide ((c.toNat : Int) = 13)))) : Option Bool) = some (([0, 10, 13] : Str).contains c) := bp5 (by decide +kernel)
  simp only [as8, dlt hi, if_true, ar0 hi, Option.bind_some, key, bb7, List.drop_eq_getElem_cons hi, List.all_cons]
  cases ([0, 10, 13] : Str).contains v[i] with
  | true => right; simp
  | false =>
   left
   refine ⟨(), ?_, by simp, trivial⟩
   simp only [Bool.false_eq_true, if_false]
   rw [ab1 (by omega)]
 ·intro _ _
  simp [as8, bb7]
def aY3 (l : List aa1) (n : Str) : Bool := l.any fun b => decide (b.Name = n)
def chk (before : List aa1) (a : aa1) : Int :=
 if (32 : Int) ≤ (List.length before : Int) then 22 else if bJ4 a.Name = false then 6 else if (a.Query && !decide (a.Value = [])) = true ∨ bb7 a.Value = false then 2 else if (1024 : Int) < (List.length a.Value : Int) then 4 else if aY3 before a.Name = true then 7 else 0
def bc8 {α : Type} (p : α → Bool) : List α → Int
 | [] => -1
 | a :: r => if p a then 0 else if bc8 p r = -1 then -1 else bc8 p r + 1
theorem cc8 {α : Type} (p : α → Bool) (l : List α) : -1 ≤ bc8 p l := by
 induction l with
 | nil => exact Int.le_refl _
 | cons a r ih => simp only [bc8]; split <;> (try split) <;> omega
theorem co9 {α : Type} (p : α → Bool) (l : List α) : 0 ≤ bc8 p l ↔ l.any p = true := by
 induction l with
 | nil => simp [bc8]
 | cons a r ih =>
  have := cc8 p r
  rw [List.any_cons, Bool.or_eq_true, ← ih]
  simp only [bc8]
  by_cases hp : p a = true
  ·simp [hp]
  ·rw [if_neg hp]
   split
   ·rename_i h; rw [h]; simp [hp]
   ·simp only [hp, false_or]; omega
theorem bD7 {α : Type} (p : α → Bool) (l : List α) : decide (0 ≤ bc8 p l) = l.any p := by
 rw [Bool.eq_iff_iff, decide_eq_true_eq, co9]
theorem bX8 {α : Type} {p : α → Bool} {a : α} {r : List α} (h : p a = true) : bc8 p (a :: r) = 0 := by simp [bc8, h]
theorem br0 {α : Type} {p : α → Bool} {a : α} {r : List α} (h : ¬ p a = true) : bc8 p (a :: r) = if bc8 p r = -1 then -1 else bc8 p r + 1 := by simp [bc8, h]
theorem aR8 {α : Type} {p : α → Bool} {l : List α} {body : Int → Option (Step Int Int)} (hl : l.length ≤ 1000000)
  (hb : ∀ i (h : i < l.length), body (i : Int) = if p l[i] then some (.done (i : Int)) else some (.cont (IntKind.wrap .i64 ((i : Int) + 1)))) (he : body (l.length : Int) = some (.done (-1))) : aa9 body 0 = some (bc8 p l) := by
 refine (af6 l.length (fun (_ : Unit) i => i) body (fun i _ => if bc8 p (l.drop i) = -1 then -1 else (i : Int) + bc8 p (l.drop i)) (fun _ _ => True) (s0 := ()) trivial ?_ ?_).trans ?_
 ·intro _ i hi _
  rw [hb i hi, List.drop_eq_getElem_cons hi]
  have := cc8 p (l.drop (i + 1))
  by_cases hp : p l[i] = true
  ·right; rw [if_pos hp, bX8 hp]; simp
  ·left
   refine ⟨(), ?_, ?_, trivial⟩
   ·rw [if_neg hp, ab1 (by omega)]
   ·rw [br0 hp]
    by_cases h : bc8 p (l.drop (i + 1)) = -1
    ·simp [h]
    ·rw [if_neg h, if_neg (by omega), if_neg h]; omega
 ·intro _ _
  rw [he]; simp [bc8]
 ·simp only [List.drop_zero]
  congr 1
  split
  ·rename_i h; exact h.symm
  ·simp
theorem bX9 {before : List aa1} {a : aa1} (hb : before.length ≤ 1000000) (hn : a.Name.length ≤ 1000000) (hv : a.Value.length ≤ 1000000) : aH2 before a = some (chk before a) := by
 unfold aH2 chk
 have hix : ad7 before a = some (bc8 (fun b => decide (b.Name = a.Name)) before) := by
  unfold ad7
  refine aR8 hb ?_ ?_
  ·intro i hi
   simp only [ab9, dlt hi, if_true, aa8 hi, Option.bind_some, aV6]
  ·simp [ab9]
 have hc : ac0 before a = some (aY3 before a.Name) := by
  unfold ac0 aY3
  rw [hix, Option.bind_some, bD7]
 simp only [bQ5 hn, Option.bind_some, bb5 hv, hc, bJ6]
 by_cases h1 : (32 : Int) ≤ (List.length before : Int)
 ·simp [h1]
 ·simp only [h1, decide_false, Bool.false_eq_true, if_false]
  cases bJ4 a.Name with
  | false => simp
  | true =>
   simp only [Bool.not_true, Bool.false_eq_true, if_false, Bool.true_eq_false]
   cases a.Query && !decide (a.Value = []) with
   | true => simp
   | false =>
    change (if (!bb7 a.Value) = true then _ else _) = _
    cases bb7 a.Value with
    | false => simp
    | true =>
     simp only [Bool.not_true, Bool.false_eq_true, if_false, Bool.true_eq_false, or_self]
     by_cases h4 : (1024 : Int) < (List.length a.Value : Int)
     ·simp [h4]
     ·simp only [h4, decide_false, Bool.false_eq_true, if_false]
      cases aY3 before a.Name <;> simp
theorem cc9 {before : List aa1} {a : aa1} (hb : before.length ≤ 1000000) (hn : a.Name.length ≤ 1000000) (hv : a.Value.length ≤ 1000000) : aV5 before a = some (chk before a) := by
 unfold aV5 chk
 have hloop : aa9 (fun s => au6 before a s) 0 = some (if aY3 before a.Name = true then (7 : Int) else 0) := by
  refine (af6 before.length (fun (_ : Unit) i => i) (fun s => au6 before a s) (fun i _ => if aY3 (before.drop i) a.Name = true then (7 : Int) else 0) (fun _ _ => True) (s0 := ()) trivial ?_ ?_).trans rfl
  ·intro _ i hi _
   simp only [au6, dlt hi, if_true, aa8 hi, Option.bind_some, aY3, List.drop_eq_getElem_cons hi, List.any_cons]
   by_cases h : before[i].Name = a.Name
   ·right; simp [h]
   ·left
    refine ⟨(), ?_, by simp [h], trivial⟩
    simp only [h, decide_false, Bool.false_eq_true, if_false]
    rw [ab1 (by omega)]
  ·intro _ _
   simp [au6, aY3]
 simp only [b44 hn, Option.bind_some, bQ6 hv, hloop]
 by_cases h1 : (32 : Int) ≤ (List.length before : Int)
 ·simp [h1]
 ·simp only [h1, decide_false, Bool.false_eq_true, if_false]
  cases bJ4 a.Name with
  | false => simp
  | true =>
   simp only [Bool.not_true, Bool.false_eq_true, if_false, Bool.true_eq_false]
   by_cases h4 : (1024 : Int) < (List.length a.Value : Int)
   ·cases a.Query <;> cases hd : decide (a.Value = []) <;> cases bb7 a.Value <;> simp [h4]
   ·cases a.Query <;> cases hd : decide (a.Value = []) <;> cases bb7 a.Value <;> simp [h4]
def okA (a : aa1) : Prop := a.Name.length ≤ 5000 ∧ a.Value.length ≤ 5000
def okL (l : List aa1) : Prop := l.length ≤ 5000 ∧ ∀ a ∈ l, okA a
def bv3 (before : List aa1) : List aa1 → Int
 | [] => 0
 | a :: r => if chk before a = 0 then bv3 (before ++ [a]) r else chk before a
def a43 (l : List aa1) : Int := bv3 [] l
theorem okL.get {l : List aa1} (h : okL l) {i : Nat} (hi : i < l.length) : okA l[i] := h.2 _ (List.getElem_mem hi)
theorem bk8 {l : List aa1} (h : okL l) : aB3 l = some (a43 l) := by
 unfold aB3
 refine (af6 l.length (fun (_ : Unit) i => i) (fun s => az2 l s) (fun i _ => bv3 (l.take i) (l.drop i)) (fun _ _ => True) (s0 := ()) trivial ?_ ?_).trans ?_
 ·intro _ i hi _
  have ha := h.get hi
  have h1 := h.1
  simp only [az2, dlt hi, if_true, aa8 hi, Option.bind_some, aN6 (Nat.le_of_lt hi), bX9 (before := l.take i) (a := l[i]) (by simp; omega) (by have := ha.1; omega) (by have := ha.2; omega), List.drop_eq_getElem_cons hi, bv3]
  by_cases hz : chk (l.take i) l[i] = 0
  ·left
   refine ⟨(), ?_, ?_, trivial⟩
   ·simp only [hz, decide_true, Bool.not_true, Bool.false_eq_true, if_false]
    rw [ab1 (by omega)]
   ·simp only [hz, if_true]
    rw [List.take_succ_eq_append_getElem hi]
  ·right; simp [hz]
 ·intro _ _
  simp [az2, bv3]
 ·simp [a43]
theorem br1 {l : List aa1} (h : okL l) : aA7 l = some (a43 l) := by
 unfold aA7
 refine (af6 l.length (fun (_ : Unit) i => i) (fun s => av6 l s) (fun i _ => bv3 (l.take i) (l.drop i)) (fun _ _ => True) (s0 := ()) trivial ?_ ?_).trans ?_
 ·intro _ i hi _
  have ha := h.get hi
  have h1 := h.1
  simp only [av6, dlt hi, if_true, aa8 hi, Option.bind_some, aN6 (Nat.le_of_lt hi), cc9 (before := l.take i) (a := l[i]) (by simp; omega) (by have := ha.1; omega) (by have := ha.2; omega), List.drop_eq_getElem_cons hi, bv3]
  by_cases hz : chk (l.take i) l[i] = 0
  ·left
   refine ⟨(), ?_, ?_, trivial⟩
   ·simp only [hz, decide_true, Bool.not_true, Bool.false_eq_true, if_false]
    rw [ab1 (by omega)]
   ·simp only [hz, if_true]
    rw [List.take_succ_eq_append_getElem hi]
  ·right; simp [hz]
 ·intro _ _
  simp [av6, bv3]
 ·simp [a43]
def dbl (s : Str) : Str := s.flatMap fun c => if c = 39 then [39, 39] else [c]
def oddB (s : Str) : Bool := decide (s = []) || s.any fun c => ([32, 9, 39] : Str).contains c
def br2 (s : Str) : Str := if oddB s then [39] ++ dbl s ++ [39] else s
theorem cd0 (s : Str) : (dbl s).length ≤ 2 * s.length := by
 induction s with
 | nil => exact Nat.le_refl _
 | cons c r ih =>
  unfold dbl at ih ⊢
  rw [List.flatMap_cons, List.length_append, List.length_cons]
  split <;> simp only [List.length_cons, List.length_nil] <;> omega
theorem bz2 (s : Str) : (br2 s).length ≤ 2 * s.length + 2 := by
 have := cd0 s
 unfold br2
 split <;> simp <;> omega
theorem bD8 {c : UInt8} (hc : c ≠ 39) (k : Nat) (s : Str) (hk : k ≤ Go.Lib.count s [39]) : Go.Lib.replaceK [39] [39, 39] k (c :: s) = c :: Go.Lib.replaceK [39] [39, 39] k s := by
 cases k with
 | zero => rfl
 | succ k =>
  obtain ⟨i, hi⟩ := Go.Lib.index_of_count (s := s) (old := [39]) (by omega)
  have hi' : Go.Lib.index (c :: s) [39] = ((i + 1 : Nat) : Int) := by
   have hp : ([39] : Str).isPrefixOf (c :: s) = false := by simp [List.isPrefixOf, Ne.symm hc]
   rw [Go.Lib.index, hp, hi]
   have : ((i : Int) == -1) = false := by rw [beq_eq_false_iff_ne]; omega
   simp [this]
  rw [Go.Lib.replaceK_hit _ _ _ _ _ hi, Go.Lib.replaceK_hit _ _ _ _ _ hi']
  simp [Nat.add_right_comm]
theorem bQ7 (s : Str) : Go.Lib.replaceK [39] [39, 39] (Go.Lib.count s [39]) s = dbl s := by
 induction s with
 | nil => rw [Go.Lib.count_one]; rfl
 | cons c r ih =>
  by_cases hc : c = 39
  ·subst hc
   have hi : Go.Lib.index (39 :: r) [39] = ((0 : Nat) : Int) := by rw [Go.Lib.index]; simp [List.isPrefixOf]
   rw [Go.Lib.count_cons_eq, Nat.add_comm 1, Go.Lib.replaceK_hit _ _ _ _ _ hi]
   simp only [List.take_zero, List.nil_append, Nat.zero_add, List.length_cons, List.length_nil, List.drop_succ_cons, List.drop_zero, ih]
   unfold dbl
   rw [List.flatMap_cons, if_pos rfl]
  ·rw [Go.Lib.count_cons_ne _ _ _ hc, bD8 hc _ _ (Nat.le_refl _), ih]
   unfold dbl
   rw [List.flatMap_cons, if_neg hc]; rfl
theorem bD9 {s : Str} (hs : s.length ≤ 1000000) : strings_ReplaceAll s [39] [39, 39] = some (dbl s) := by
 have hc : Go.Lib.count s [39] ≤ s.length := by rw [Go.Lib.count_one]; exact List.count_le_length
 unfold strings_ReplaceAll aQ4
 rw [if_pos ⟨by omega, by simp, by simp; omega⟩]
 unfold Go.Lib.replaceAll Go.Lib.replace
 rw [if_neg (by decide)]
 have : Go.Lib.replaceNum s [39] (-1) = Go.Lib.count s [39] := by unfold Go.Lib.replaceNum; rw [if_pos (Or.inl (by omega))]
 rw [this, bQ7]
theorem cp0 {s : Str} (hs : s.length ≤ 1000000) : a06 s = some (br2 s) := by
 unfold a06
 have hd := cd0 s
 have c1 : an9 [39] (dbl s) = some ([39] ++ dbl s) := ah9 (by simp; omega)
 have c2 : an9 ([39] ++ dbl s) [39] = some ([39] ++ dbl s ++ [39]) := ah9 (by simp; omega)
 have hu := aY1 [32, 9, 39] s
 have ha := bJ6 [32, 9, 39] s
 have hany : (s.any fun c => ([32, 9, 39] : Str).contains c) = !(s.all fun c => !([32, 9, 39] : Str).contains c) := by
  rw [List.any_eq_not_all_not]
 have hdd : decide ((av0 [32, 9, 39] s : Int) = (List.length s : Int)) = (s.all fun c => !([32, 9, 39] : Str).contains c) := by
  cases h : s.all fun c => !([32, 9, 39] : Str).contains c with
  | true => rw [h] at ha; simp only [Bool.not_true, decide_eq_false_iff_not] at ha; simp; omega
  | false => rw [h] at ha; simp only [Bool.not_false, decide_eq_true_eq] at ha; simp; omega
 simp only [bb5 hs, Option.bind_some, bD9 hs, c1, c2, hdd]
 unfold br2 oddB
 rw [hany]
 cases h : s.all fun c => !([32, 9, 39] : Str).contains c <;> cases hn : decide (s = []) <;> simp
def bz3 (a : aa1) : Str := if a.Query then a.Name ++ [63] else a.Name ++ [61] ++ br2 a.Value
theorem bY0 {a : aa1} (h : okA a) : (bz3 a).length ≤ 15003 := by
 have := bz2 a.Value
 have h1 := h.1
 have h2 := h.2
 unfold bz3
 split <;> simp <;> omega
def a44 (l : List aa1) : Str := Go.Lib.join (l.map bz3) [32]
theorem bY1 {K : Nat} {sep : Str} : ∀ {l : List Str}, (∀ x ∈ l, x.length ≤ K) → (Go.Lib.join l sep).length ≤ l.length * (K + sep.length)
 | [], _ => by simp [Go.Lib.join_nil]
 | x :: r, h => by
  rw [Go.Lib.join_cons, List.length_append]
  have hx := h x (by simp)
  have : ∀ r : List Str, (∀ y ∈ r, y.length ≤ K) → (Go.Lib.joinTail sep r).length ≤ r.length * (K + sep.length) := by
   intro r
   induction r with
   | nil => intro _; simp [Go.Lib.joinTail]
   | cons y r ih =>
    intro h
    have h1 := ih fun z hz => h z (List.mem_cons_of_mem _ hz)
    have h2 := h y (by simp)
    unfold Go.Lib.joinTail at h1 ⊢
    rw [List.map_cons, List.flatten_cons, List.length_append, List.length_append, List.length_cons, Nat.add_mul, Nat.one_mul]
    omega
  have := this r fun z hz => h z (List.mem_cons_of_mem _ hz)
  rw [List.length_cons, Nat.add_mul, Nat.one_mul]
  omega
theorem cd1 {l : List aa1} (h : okL l) (i : Nat) : (Go.Lib.join ((l.take i).map bz3) [32]).length ≤ 75020000 := by
 have h1 := bY1 (K := 15003) (sep := [32]) (l := (l.take i).map bz3) (by
  intro x hx
  obtain ⟨a, ha, rfl⟩ := List.mem_map.1 hx
  exact bY0 (h.2 a (List.mem_of_mem_take ha)))
 have h2 := h.1
 simp only [List.length_map, List.length_take, List.length_cons, List.length_nil] at h1
 have : min i l.length * (15003 + (0 + 1)) ≤ 5000 * 15004 := Nat.mul_le_mul (by omega) (by omega)
 omega
theorem cp1 {l : List aa1} (h : okL l) : a07 l = some (if a43 l = 0 then (a44 l, 0) else ([], a43 l)) := by
 unfold a07
 rw [bk8 h, Option.bind_some]
 by_cases hz : a43 l = 0
 ·have hl := h.1
  have hmk : mkC 16 ([] : Str) 0 (List.length l : Int) = some [] := by
   unfold mkC
   rw [if_pos ⟨by omega, by omega, by omega, by omega⟩]; rfl
  simp only [hz, decide_true, Bool.not_true, Bool.false_eq_true, if_false, if_true, hmk, Option.bind_some]
  refine (af6 (τ := Int × List Str) l.length (fun (x : List Str) i => (i, x)) (fun x => aw2 l x.1 x.2) (fun i _ => (a44 l, 0)) (fun i x => x = (l.take i).map bz3) (s0 := []) (by simp) ?_ ?_).trans rfl
  ·rintro x i hi rfl
   left
   have ha := h.get hi
   have h1 := ha.1
   have h2 := ha.2
   have hw : IntKind.wrap .i64 ((i : Int) + 1) = (i : Int) + 1 := ab1 (by omega)
   have hq := bz2 l[i].Value
   have c1 : an9 l[i].Name [63] = some (l[i].Name ++ [63]) := ah9 (by simp; omega)
   have c2 : an9 l[i].Name [61] = some (l[i].Name ++ [61]) := ah9 (by simp; omega)
   have c3 : an9 (l[i].Name ++ [61]) (br2 l[i].Value) = some (l[i].Name ++ [61] ++ br2 l[i].Value) := ah9 (by simp; omega)
   have ap : ∀ y : Str, aF4 16 ((l.take i).map bz3) [y] = some ((l.take i).map bz3 ++ [y]) := fun y => ak3 (by simp; omega) (by simp; omega)
   refine ⟨(l.take (i + 1)).map bz3, ?_, rfl, rfl⟩
   simp only [aw2, dlt hi, if_true, aa8 hi, Option.bind_some, c1, c2, cp0 (s := l[i].Value) (by omega), c3, ap, hw]
   rw [List.take_succ_eq_append_getElem hi, List.map_append, List.map_cons, List.map_nil]
   unfold bz3
   cases l[i].Query <;> simp
  ·rintro x rfl
   have hj : strings_Join (l.map bz3) [32] = some (a44 l) := by
    unfold strings_Join a44
    have := cd1 h l.length
    rw [List.take_length] at this
    exact bQ2 (by simp; omega) (by omega)
   simp only [aw2, dge, Bool.false_eq_true, if_false, aM2, List.take_length, hj, Option.bind_some, Option.map_some]
 ·simp [hz]
def ah8 : Str → Option (Str × Nat)
 | [] => none
 | [c] => if c = 39 then some ([], 1) else none
 | c :: d :: r => if c = 39 then (if d = 39 then (ah8 r).map fun x => (39 :: x.1, x.2 + 2) else some ([], 1)) else (ah8 (d :: r)).map fun x => (c :: x.1, x.2 + 1)
theorem b45 {c : UInt8} {r : Str} (h : c ≠ 39) : ah8 (c :: r) = (ah8 r).map fun x => (c :: x.1, x.2 + 1) := by
 cases r with
 | nil => simp [ah8, h]
 | cons d r => rw [ah8, if_neg h]
theorem bJ7 {r : Str} (h : r.head? ≠ some 39) : ah8 (39 :: r) = some ([], 1) := by
 cases r with
 | nil => rfl
 | cons d r =>
  have : d ≠ 39 := by simpa using h
  rw [ah8, if_pos rfl, if_neg this]
theorem bQ8 {r : Str} : ah8 (39 :: 39 :: r) = (ah8 r).map fun x => (39 :: x.1, x.2 + 2) := by
 rw [ah8, if_pos rfl, if_pos rfl]
theorem is39 (c : UInt8) : decide ((c.toNat : Int) = 39) = decide (c = 39) := isC c 39
theorem bQ9 (s : Str) (i : Nat) (hi : i ≤ s.length) : i = s.length ∨ ∃ h : i < s.length, (s[i] ≠ 39 ∧ ah8 (s.drop i) = (ah8 (s.drop (i + 1))).map fun x => (s[i] :: x.1, x.2 + 1)) ∨
  (s[i] = 39 ∧ (i + 1 = s.length ∨ ∃ h2 : i + 1 < s.length, s[i + 1] ≠ 39) ∧ ah8 (s.drop i) = some ([], 1)) ∨
  (s[i] = 39 ∧ (∃ h2 : i + 1 < s.length, s[i + 1] = 39) ∧ ah8 (s.drop i) = (ah8 (s.drop (i + 2))).map fun x => (39 :: x.1, x.2 + 2)) := by
 rcases Nat.lt_or_ge i s.length with h | h
 ·right
  refine ⟨h, ?_⟩
  rw [List.drop_eq_getElem_cons h]
  by_cases hc : s[i] = 39
  ·right
   rcases Nat.lt_or_ge (i + 1) s.length with h2 | h2
   ·by_cases hd : s[i + 1] = 39
    ·right
     refine ⟨hc, ⟨h2, hd⟩, ?_⟩
     rw [hc, List.drop_eq_getElem_cons h2, hd, bQ8]
    ·left
     refine ⟨hc, Or.inr ⟨h2, hd⟩, ?_⟩
     rw [hc, List.drop_eq_getElem_cons h2]
     exact bJ7 fun e => hd (Option.some.inj e)
   ·left
    refine ⟨hc, Or.inl (by omega), ?_⟩
    rw [hc, List.drop_of_length_le h2]; rfl
  ·left
   exact ⟨hc, b45 hc⟩
 ·left; omega
theorem cd2 {s : Str} (hs : s.length ≤ 1000000) : aQ6 s = some (match ah8 s with | some x => (x.1, (x.2 : Int), true) | none => ([], 0, false)) := by
 unfold aQ6
 refine (a03 (σ := Nat × Str) (fun x => ak4 s x.1 x.2) (fun x => ((x.1 : Int), x.2)) (fun x => match ah8 (s.drop x.1) with | some y => (x.2 ++ y.1, ((x.1 + y.2 : Nat) : Int), true) | none => ([], 0, false)) (fun x => s.length - x.1)
  (fun x => x.1 ≤ s.length ∧ x.2.length ≤ x.1) ?_ (s0 := (0, [])) ⟨by simp, by simp⟩).trans ?_
 ·rintro ⟨i, acc⟩ ⟨h1, h2⟩
  simp only at h1 h2
  rcases bQ9 s i h1 with he | ⟨h, hcase⟩
  ·right
   subst he
   simp [ak4, ah8]
  ·have hw : IntKind.wrap .i64 ((i : Int) + 1) = (i : Int) + 1 := ab1 (by omega)
   have hw2 : IntKind.wrap .i64 ((i : Int) + 1 + 1) = ((i + 2 : Nat) : Int) := by rw [ag8 (by omega) (by omega)]; omega
   have b1 : ∀ c : UInt8, bAdd acc [c] = some (acc ++ [c]) := fun c => aH1 (by simp; omega)
   rcases hcase with ⟨hc, hq⟩ | ⟨hc, hn, hq⟩ | ⟨hc, ⟨h3, hd⟩, hq⟩
   ·left
    refine ⟨(i + 1, acc ++ [s[i]]), ?_, ?_, ⟨by simp only; omega, by simp; omega⟩, by simp only; omega⟩
    ·simp only [ak4, dlt h, if_true, ar0 h, Option.bind_some, is39, hc, decide_false, Bool.not_false, b1, hw]
     rfl
    ·simp only [hq]
     cases ah8 (s.drop (i + 1)) with
     | none => rfl
     | some y => simp; omega
   ·right
    simp only [ak4, dlt h, if_true, ar0 h, Option.bind_some, is39, hc, decide_true, Bool.not_true, Bool.false_eq_true, if_false, hw, hq]
    rcases hn with h3 | ⟨h3, hd⟩
    ·have : (i : Int) + 1 = (List.length s : Int) := by omega
     simp [this]
    ·have h4 : ¬ ((i : Int) + 1 = (List.length s : Int)) := by omega
     have h5 : ah0 s ((i : Int) + 1) = some s[i + 1] := by
      have := ar0 h3
      rwa [show ((i + 1 : Nat) : Int) = (i : Int) + 1 by omega] at this
     simp [h4, h5, is39, hd]
   ·left
    have h4 : ¬ ((i : Int) + 1 = (List.length s : Int)) := by omega
    have h5 : ah0 s ((i : Int) + 1) = some s[i + 1] := by
     have := ar0 h3
     rwa [show ((i + 1 : Nat) : Int) = (i : Int) + 1 by omega] at this
    refine ⟨(i + 2, acc ++ [39]), ?_, ?_, ⟨by simp only; omega, by simp; omega⟩, by simp only; omega⟩
    ·simp only [ak4, dlt h, if_true, ar0 h, Option.bind_some, is39, hc, decide_true, Bool.not_true, Bool.false_eq_true, if_false, hw, h4, decide_false, h5, hd, b1, hw2]
    ·simp only [hq]
     cases ah8 (s.drop (i + 2)) with
     | none => rfl
     | some y => simp; omega
 ·simp only [List.drop_zero]
  cases ah8 s <;> simp
def br3 (c : UInt8) : Bool := decide ((c.toNat : Int) = 32) || decide ((c.toNat : Int) = 9)
def cA2 (s : Str) : Bool := match s with
 | [] => true
 | c :: _ => br3 c
def bad (e : Int) : aa1 × Nat × Int := (⟨[], [], false⟩, 0, e)
def fin (s : Str) (a : aa1) (n : Nat) : aa1 × Nat × Int := if cA2 (s.drop n) then (a, n, 0) else bad 2
def valS (s nm : Str) (n : Nat) (r : Str) : aa1 × Nat × Int := if (r.take (av0 [32, 9] r)).contains 39 then bad 2 else fin s ⟨nm, r.take (av0 [32, 9] r), false⟩ (n + (1 + av0 [32, 9] r))
def cI7 (s nm : Str) (n : Nat) : Str → aa1 × Nat × Int
 | [] => bad 2
 | c :: r => if c = 63 then fin s ⟨nm, [], true⟩ (n + 1) else if c = 61 then
  (if ([39] : Str).isPrefixOf r then (match ah8 (r.drop 1) with | none => bad 48 | some x => fin s ⟨nm, x.1, false⟩ (n + (2 + x.2))) else valS s nm n r) else bad 2
def bi4 : Str := [32, 9, 61, 63, 39]
def bv4 (s : Str) : aa1 × Nat × Int := cI7 s (s.take (av0 bi4 s)) (av0 bi4 s) (s.drop (av0 bi4 s))
theorem bE0 {s nm v : Str} {n : Nat} {q : Bool} (hn : n ≤ s.length) : aB1 s nm (n : Int) v q = some ((fin s ⟨nm, v, q⟩ n).1, ((fin s ⟨nm, v, q⟩ n).2.1 : Int), (fin s ⟨nm, v, q⟩ n).2.2) := by
 unfold aB1 fin
 rcases Nat.lt_or_ge n s.length with h | h
 ·simp only [dlt h, if_true, ar0 h, Option.bind_some, aN8, List.drop_eq_getElem_cons h, cA2]
  change (if (!br3 s[n]) = true then _ else _) = _
  cases br3 s[n] <;> rfl
 ·have : n = s.length := by omega
  subst this
  simp [cA2]
theorem aR9 : ∀ (s : Str) (x : Str × Nat), ah8 s = some x → x.1.length ≤ x.2 ∧ 1 ≤ x.2 ∧ x.2 ≤ s.length
 | [], x, h => by simp [ah8] at h
 | [c], x, h => by
  unfold ah8 at h
  split at h
  ·cases h; simp
  ·cases h
 | c :: d :: r, x, h => by
  rw [ah8] at h
  split at h
  ·split at h
   ·obtain ⟨y, hy, rfl⟩ := Option.map_eq_some_iff.1 h
    have := aR9 r y hy
    simp; omega
   ·cases h; simp
  ·obtain ⟨y, hy, rfl⟩ := Option.map_eq_some_iff.1 h
   have := aR9 (d :: r) y hy
   simp at this ⊢; omega
theorem cI8 {s : Str} (hs : s.length ≤ 1000000) : bk6 s = some ((bv4 s).1, ((bv4 s).2.1 : Int), (bv4 s).2.2) := by
 unfold bk6 bv4
 have hn := aY1 bi4 s
 have hu : ar4 s [32, 9, 61, 63, 39] = some (av0 bi4 s : Int) := bb5 hs
 rw [hu, Option.bind_some]
 generalize av0 bi4 s = n at hn ⊢
 rw [aN6 hn, Option.bind_some, ay7 hn, Option.bind_some]
 generalize hr : s.drop n = rest
 have hlen : rest.length = s.length - n := by rw [← hr, List.length_drop]
 simp only [bb6, Option.bind_some]
 cases rest with
 | nil => simp [List.isPrefixOf, cI7, bad]
 | cons c r =>
  simp only [List.length_cons] at hlen
  unfold cI7
  by_cases h63 : c = 63
  ·subst h63
   have hw : IntKind.wrap .i64 ((n : Int) + 1) = ((n + 1 : Nat) : Int) := by rw [ag8 (by omega) (by omega)]; omega
   simp only [List.isPrefixOf, BEq.rfl, Bool.and_true, if_true, hw]
   exact bE0 (by omega)
  ·have e63 : ((63 : UInt8) == c) = false := by simpa using Ne.symm h63
   simp only [List.isPrefixOf, e63, Bool.false_and, Bool.false_eq_true, if_false, h63]
   by_cases h61 : c = 61
   ·subst h61
    simp only [BEq.rfl, Bool.true_and, if_true]
    cases r with
    | nil =>
     have hu2 : ar4 [61] [32, 9] = some (1 : Int) := bb5 (by simp)
     have hcut : cut ([61] : Str) 1 1 = some [] := rfl
     have hcon : strings_Contains [] [39] = some false := rfl
     have hw : IntKind.wrap .i64 ((n : Int) + 1) = ((n + 1 : Nat) : Int) := by rw [ag8 (by omega) (by omega)]; omega
     simp only [List.isPrefixOf, Bool.false_eq_true, if_false, hu2, Option.bind_some, hcut, hcon, hw]
     exact bE0 (by simp at hlen; omega)
    | cons d r2 =>
     simp only [List.isPrefixOf, Bool.and_true]
     by_cases h39 : d = 39
     ·subst h39
      have hcut : cut (61 :: 39 :: r2) 2 (List.length (61 :: 39 :: r2) : Int) = some r2 := by
       have := ay7 (l := (61 :: 39 :: r2 : Str)) (a := 2) (by simp)
       simpa using this
      simp only [List.length_cons] at hlen
      have hcut' : cut (61 :: 39 :: r2) 2 (List.length (61 :: 39 :: r2) : Int) = some r2 := hcut
      simp only [BEq.rfl, if_true, hcut', Option.bind_some, cd2 (s := r2) (by omega), List.drop_succ_cons, List.drop_zero]
      cases hq : ah8 r2 with
      | none => simp [bad]
      | some x =>
       have hx := aR9 r2 x hq
       have hw1 : IntKind.wrap .i64 (2 + (x.2 : Int)) = 2 + (x.2 : Int) := ag8 (by omega) (by omega)
       have hw2 : IntKind.wrap .i64 ((n : Int) + (2 + (x.2 : Int))) = ((n + (2 + x.2) : Nat) : Int) := by rw [ag8 (by omega) (by omega)]; omega
       simp only [Bool.not_true, Bool.false_eq_true, if_false, hw1, hw2]
       exact bE0 (by omega)
     ·have e39 : ((39 : UInt8) == d) = false := by simpa using Ne.symm h39
      simp only [List.length_cons] at hlen
      have hu2 : ar4 (61 :: d :: r2) [32, 9] = some ((av0 [32, 9] (d :: r2) + 1 : Nat) : Int) := by
       rw [bb5 (by simp; omega), av0]; rfl
      have hle := aY1 [32, 9] (d :: r2)
      simp only [List.length_cons] at hle
      simp only [e39, Bool.false_eq_true, if_false, hu2, Option.bind_some]
      unfold valS
      generalize av0 [32, 9] (d :: r2) = k at hle ⊢
      have hcut : cut (61 :: d :: r2) 1 ((k + 1 : Nat) : Int) = some ((d :: r2).take k) := by
       have := bQ1 (l := (61 :: d :: r2 : Str)) (a := 1) (b := k + 1) (by omega) (by simp; omega)
       simpa using this
      have hcon : strings_Contains ((d :: r2).take k) [39] = some (((d :: r2).take k).contains 39) := by
       unfold strings_Contains strings_Index bI4
       rw [Option.bind_some, cv1]
      have hw : IntKind.wrap .i64 ((n : Int) + ((k + 1 : Nat) : Int)) = ((n + (1 + k) : Nat) : Int) := by rw [ag8 (by omega) (by omega)]; omega
      simp only [hcut, Option.bind_some, hcon, hw]
      cases hc : ((d :: r2).take k).contains 39 with
      | true => simp [bad]
      | false =>
       simp only [Bool.false_eq_true, if_false]
       exact bE0 (by omega)
   ·have e61 : ((61 : UInt8) == c) = false := by simpa using Ne.symm h61
    simp [e61, h61, bad]
def agree (x : aa1 × Int × Int) (at_ : Nat) (o : aa1 × Nat × Int) : Prop := x.2.2 = o.2.2 ∧ (o.2.2 = 0 → x.1 = o.1 ∧ x.2.1 = ((at_ + o.2.1 : Nat) : Int))
def bv5 (out : List aa1) (o : aa1 × Nat × Int) : Int := if o.2.2 = 0 then chk out o.1 else o.2.2
def av3 : Nat → List aa1 → Nat → Str → List aa1 × Int × Int
 | 0, out, _, _ => (out, 0, 0)
 | _ + 1, out, _, [] => (out, 0, 0)
 | f + 1, out, i, c :: r => if br3 c then av3 f out (i + 1) r else if bv5 out (bv4 (c :: r)) = 0 then av3 f (out ++ [(bv4 (c :: r)).1]) (i + (bv4 (c :: r)).2.1) ((c :: r).drop (bv4 (c :: r)).2.1) else ([], (i : Int), bv5 out (bv4 (c :: r)))
def an7 (s : Str) : List aa1 × Int × Int := av3 (s.length + 1) [] 0 s
theorem br4 {s : Str} {a : aa1} {n : Nat} (h : (fin s a n).2.2 = 0) : fin s a n = (a, n, 0) := by
 unfold fin at h ⊢
 split
 ·rfl
 ·rename_i hc; rw [if_neg hc] at h; simp [bad] at h
theorem bJ8 {s : Str} (h : (bv4 s).2.2 = 0) : 1 ≤ (bv4 s).2.1 ∧ (bv4 s).2.1 ≤ s.length ∧ (bv4 s).1.Name.length ≤ s.length ∧ (bv4 s).1.Value.length ≤ s.length := by
 unfold bv4 at h ⊢
 have hn := aY1 bi4 s
 generalize av0 bi4 s = n at hn h ⊢
 generalize hr : s.drop n = rest at h ⊢
 have hlen : rest.length = s.length - n := by rw [← hr, List.length_drop]
 cases rest with
 | nil => simp [cI7, bad] at h
 | cons c r =>
  simp only [List.length_cons] at hlen
  simp only [cI7] at h ⊢
  split at h
  ·rename_i hc
   rw [if_pos hc, br4 h]; simp; omega
  ·rename_i hc
   rw [if_neg hc]
   split at h
   ·rename_i h61
    rw [if_pos h61]
    split at h
    ·rename_i hp
     rw [if_pos hp]
     cases hq : ah8 (r.drop 1) with
     | none => rw [hq] at h; simp [bad] at h
     | some x =>
      rw [hq] at h
      simp only at h ⊢
      have hx := aR9 _ x hq
      rw [List.length_drop] at hx
      rw [br4 h]; simp; omega
    ·rename_i hp
     rw [if_neg hp]
     unfold valS at h ⊢
     have hu := aY1 [32, 9] r
     split at h
     ·simp [bad] at h
     ·rename_i hq
      rw [if_neg hq, br4 h]; simp; omega
   ·simp [bad] at h
theorem b46 {f i : Nat} {out : List aa1} {s : Str} (h : i < s.length) : av3 (f + 1) out i (s.drop i) = if br3 s[i] then av3 f out (i + 1) (s.drop (i + 1)) else
  if bv5 out (bv4 (s.drop i)) = 0 then av3 f (out ++ [(bv4 (s.drop i)).1]) (i + (bv4 (s.drop i)).2.1) (s.drop (i + (bv4 (s.drop i)).2.1)) else ([], (i : Int), bv5 out (bv4 (s.drop i))) := by
 conv => lhs; rw [List.drop_eq_getElem_cons h, av3]
 rw [← List.drop_eq_getElem_cons h, List.drop_drop]
theorem b47 {out : List aa1} {o : aa1 × Nat × Int} (h : bv5 out o = 0) : o.2.2 = 0 := by
 unfold bv5 at h
 split at h
 ·rename_i h1; exact h1
 ·rename_i h1; exact absurd h h1
theorem bE1 {s : Str} (hs : s.length ≤ 1000000) : aB2 s = some (an7 s) := by
 unfold aB2
 refine (a03 (σ := Nat × Nat × List aa1) (fun x => aw0 s x.1 x.2) (fun x => ((x.2.1 : Int), x.2.2)) (fun x => av3 x.1 x.2.2 x.2.1 (s.drop x.2.1)) (fun x => x.1)
  (fun x => x.2.1 ≤ s.length ∧ s.length - x.2.1 < x.1 ∧ x.2.2.length ≤ x.2.1) ?_ (s0 := (s.length + 1, 0, [])) ⟨by simp, by simp, by simp⟩).trans ?_
 ·rintro ⟨f, i, out⟩ ⟨h1, h2, h3⟩
  simp only at h1 h2 h3
  obtain ⟨f, rfl⟩ : ∃ g, f = g + 1 := ⟨f - 1, by omega⟩
  have hb : ∀ c : UInt8, aN8 (c.toNat : Int) = some (br3 c) := fun c => rfl
  rcases Nat.lt_or_ge i s.length with h | h
  ·have hw : IntKind.wrap .i64 ((i : Int) + 1) = ((i + 1 : Nat) : Int) := by rw [ag8 (by omega) (by omega)]; omega
   have hso : (s.drop i).length ≤ 1000000 := by rw [List.length_drop]; omega
   simp only [aw0, dlt h, if_true, ar0 h, Option.bind_some, hb, ay7 h1, cI8 hso, b46 h]
   cases hbl : br3 s[i] with
   | true =>
    left
    refine ⟨(f, i + 1, out), ?_, rfl, ⟨by simp only; omega, by simp only; omega, by simp only; omega⟩, by simp⟩
    simp only [if_true, hw]
   | false =>
    simp only [Bool.false_eq_true, if_false]
    generalize ho : bv4 (s.drop i) = o
    have hof : o.2.2 = 0 → 1 ≤ o.2.1 ∧ o.2.1 ≤ (s.drop i).length ∧ o.1.Name.length ≤ (s.drop i).length ∧ o.1.Value.length ≤ (s.drop i).length := by
     intro hz; rw [← ho] at hz ⊢; exact bJ8 hz
    rw [List.length_drop] at hof
    by_cases hz : o.2.2 = 0
    ·obtain ⟨g1, g2, g3, g4⟩ := hof hz
     have hck : aH2 out o.1 = some (chk out o.1) := bX9 (by omega) (by omega) (by omega)
     have hst : bv5 out o = chk out o.1 := by unfold bv5; rw [if_pos hz]
     have hw2 : IntKind.wrap .i64 ((i : Int) + (o.2.1 : Int)) = ((i + o.2.1 : Nat) : Int) := by rw [ag8 (by omega) (by omega)]; omega
     have hap : aF4 40 out [o.1] = some (out ++ [o.1]) := ak3 (by simp; omega) (by simp; omega)
     simp only [hz, decide_true, if_true, hck, Option.bind_some, av9, hst, hap, hw2]
     by_cases hc : chk out o.1 = 0
     ·left
      refine ⟨(f, i + o.2.1, out ++ [o.1]), ?_, ?_, ⟨by simp only; omega, by simp only; omega, by simp; omega⟩, by simp⟩
      ·simp only [hc, decide_true, Bool.not_true, Bool.false_eq_true, if_false]
      ·simp only [hc, if_true]
     ·right
      simp only [hc, decide_false, Bool.not_false, if_true, if_false]
    ·right
     have hst : bv5 out o = o.2.2 := by unfold bv5; rw [if_neg hz]
     simp only [hz, decide_false, Bool.false_eq_true, if_false, av9, Bool.not_false, if_true, hst]
  ·right
   have : i = s.length := by omega
   subst this
   simp only [aw0, dge, Bool.false_eq_true, if_false, List.drop_length, av3]
 ·rfl
def bj1 (name : Str) (a : aa1) : Bool := !a.Query && decide (a.Name = name)
def am1 (name : Str) : List aa1 → Str × Bool
 | [] => ([], false)
 | a :: r => if bj1 name a then (a.Value, true) else am1 name r
theorem bb8 {α : Type} (p : α → Bool) (l : List α) : (bc8 p l = -1 ∧ ∀ a ∈ l, p a = false) ∨ ∃ i, ∃ h : i < l.length, bc8 p l = (i : Int) ∧ p l[i] = true ∧ ∀ a ∈ l.take i, p a = false := by
 induction l with
 | nil => left; exact ⟨rfl, by simp⟩
 | cons a r ih =>
  by_cases hp : p a = true
  ·right; exact ⟨0, by simp, bX8 hp, hp, by simp⟩
  ·have hp' := Bool.eq_false_iff.2 hp
   rcases ih with ⟨h1, h2⟩ | ⟨i, h, h1, h2, h3⟩
   ·left
    refine ⟨by rw [br0 hp, if_pos h1], ?_⟩
    intro x hx
    rcases List.mem_cons.1 hx with rfl | hx
    ·exact hp'
    ·exact h2 x hx
   ·right
    refine ⟨i + 1, by simpa using h, ?_, by simpa using h2, ?_⟩
    ·rw [br0 hp, h1, if_neg (by omega)]; omega
    ·intro x hx
     rw [List.take_succ_cons] at hx
     rcases List.mem_cons.1 hx with rfl | hx
     ·exact hp'
     ·exact h3 x hx
theorem bJ9 {name : Str} {a : aa1} {r : List aa1} (h : bj1 name a = true) : am1 name (a :: r) = (a.Value, true) := by simp [am1, h]
theorem bz4 {name : Str} {a : aa1} {r : List aa1} (h : ¬ bj1 name a = true) : am1 name (a :: r) = am1 name r := by simp [am1, h]
theorem b48 {name : Str} {l : List aa1} (h : ∀ a ∈ l, bj1 name a = false) : am1 name l = ([], false) := by
 induction l with
 | nil => rfl
 | cons a r ih => rw [am1, h a (by simp), if_neg (by simp)]; exact ih fun x hx => h x (List.mem_cons_of_mem _ hx)
theorem bY2 {name : Str} : ∀ {l : List aa1} {i : Nat} (h : i < l.length), bj1 name l[i] = true → (∀ a ∈ l.take i, bj1 name a = false) → am1 name l = (l[i].Value, true)
 | [], _, h, _, _ => by simp at h
 | a :: r, 0, _, h1, _ => by
  simp only [List.getElem_cons_zero] at h1 ⊢
  rw [am1, if_pos h1]
 | a :: r, i + 1, h, h1, h2 => by
  rw [am1, h2 a (by simp), if_neg (by simp)]
  exact bY2 (i := i) (by simpa using h) (by simpa using h1) fun x hx => h2 x (by rw [List.take_succ_cons]; exact List.mem_cons_of_mem _ hx)
theorem cp2 {l : List aa1} {name : Str} (hl : l.length ≤ 1000000) : a04 l name = some (bc8 (bj1 name) l) := by
 unfold a04
 rw [bQ4]
 unfold ag2
 refine aR8 hl ?_ ?_
 ·intro i hi
  simp only [ac3, dlt hi, if_true, aa8 hi, Option.bind_some, aV7]
  rfl
 ·simp [ac3]
theorem bf1 {l : List aa1} {name : Str} (hl : l.length ≤ 1000000) : at8 l name = some (am1 name l) := by
 unfold at8
 rw [cp2 hl, Option.bind_some]
 rcases bb8 (bj1 name) l with ⟨h1, h2⟩ | ⟨i, h, h1, h2, h3⟩
 ·rw [h1, b48 h2]; rfl
 ·have : ¬ ((i : Int) < 0) := by omega
  rw [h1, bY2 h h2 h3]
  simp only [this, decide_false, Bool.false_eq_true, if_false, aa8 h, Option.bind_some]
theorem bf2 {l : List aa1} {name : Str} (hl : l.length ≤ 1000000) : ax1 l name = some (am1 name l) := by
 unfold ax1
 refine (af6 l.length (fun (_ : Unit) i => i) (fun s => au7 l name s) (fun i _ => am1 name (l.drop i)) (fun _ _ => True) (s0 := ()) trivial ?_ ?_).trans rfl
 ·intro _ i hi _
  have hbody : au7 l name (i : Int) = if bj1 name l[i] then some (.done (l[i].Value, true)) else some (.cont ((i : Int) + 1)) := by
   simp only [au7, dlt hi, if_true, aa8 hi, Option.bind_some]
   rw [ab1 (by omega), show bj1 name l[i] = (!l[i].Query && decide (l[i].Name = name)) from rfl]
   by_cases h : l[i].Name = name <;> cases hq : l[i].Query <;> simp [h]
  rw [hbody, List.drop_eq_getElem_cons hi]
  by_cases hf : bj1 name l[i] = true
  ·right; rw [if_pos hf, bJ9 hf]
  ·left; rw [if_neg hf, bz4 hf]; exact ⟨(), rfl, rfl, trivial⟩
 ·intro _ _
  simp [au7, am1]
def bb9 (l : List aa1) (a : aa1) : Bool := (am1 a.Name l).2 && (a.Query || decide ((am1 a.Name l).1 = a.Value))
theorem bf3 {l pattern : List aa1} (hl : l.length ≤ 1000000) (hp : pattern.length ≤ 1000000) : ax2 l pattern = some (pattern.all (bb9 l)) := by
 unfold ax2
 refine (af6 pattern.length (fun (_ : Unit) i => i) (fun s => at9 l pattern s) (fun i _ => (pattern.drop i).all (bb9 l)) (fun _ _ => True) (s0 := ()) trivial ?_ ?_).trans rfl
 ·intro _ i hi _
  simp only [at9, dlt hi, if_true, aa8 hi, Option.bind_some, bf1 hl, List.drop_eq_getElem_cons hi, List.all_cons, bb9]
  generalize am1 pattern[i].Name l = x
  cases x.2 <;> cases pattern[i].Query <;> cases decide (x.1 = pattern[i].Value) <;> simp <;> (try rw [ab1 (by omega)])
 ·intro _ _
  simp [at9]
theorem aG8 {l : List aa1} (hl : l.length ≤ 1000000) : aa5 l = some l := by
 unfold aa5
 rw [ak3 (by simp; omega) (by simp; omega)]; rfl
theorem bY3 {α : Type} {p : α → Bool} {l : List α} {body : Int × Int × List α → Option (Step (Int × Int × List α) (List α))} (hl : l.length ≤ 1000000)
  (hb : ∀ (i j : Nat) (s : List α) (hi : i < s.length) (hj : j < s.length), body ((i : Int), (j : Int), s) = if !p s[j] then some (.cont (IntKind.wrap .i64 ((i : Int) + 1), IntKind.wrap .i64 ((j : Int) + 1), s.set i s[j])) else some (.cont ((i : Int), IntKind.wrap .i64 ((j : Int) + 1), s)))
  (he : ∀ (i : Nat) (s : List α), i ≤ s.length → body ((i : Int), (s.length : Int), s) = some (.done (s.take i))) {i0 : Nat} (h0 : i0 < l.length) (hp0 : p l[i0] = true) (hbef : ∀ a ∈ l.take i0, p a = false) :
  aa9 body ((i0 : Int), IntKind.wrap .i64 ((i0 : Int) + 1), l) = some (l.filter fun a => !p a) := by
 have hw0 : IntKind.wrap .i64 ((i0 : Int) + 1) = ((i0 + 1 : Nat) : Int) := by rw [ag8 (by omega) (by omega)]; omega
 rw [hw0]
 have hf0 : (l.take (i0 + 1)).filter (fun a => !p a) = l.take i0 := by
  rw [List.take_succ_eq_append_getElem h0, List.filter_append, List.filter_eq_self.2 (fun a ha => by simp [hbef a ha])]
  simp [hp0]
 refine (a03 (σ := Nat × Nat × List α) body (fun x => ((x.1 : Int), (x.2.1 : Int), x.2.2)) (fun _ => l.filter fun a => !p a) (fun x => l.length - x.2.1)
  (fun x => x.1 < x.2.1 ∧ x.2.1 ≤ l.length ∧ x.2.2.length = l.length ∧ x.2.2.take x.1 = (l.take x.2.1).filter (fun a => !p a) ∧ x.2.2.drop x.2.1 = l.drop x.2.1) ?_ (s0 := (i0, i0 + 1, l)) ⟨by simp, by simp only; omega, rfl, by simp only; exact hf0.symm, rfl⟩).trans rfl
 rintro ⟨i, j, s⟩ ⟨h1, h2, h3, h4, h5⟩
 simp only at h1 h2 h3 h4 h5
 rcases Nat.lt_or_ge j l.length with hj | hj
 ·left
  have hjs : j < s.length := by omega
  have hwi : IntKind.wrap .i64 ((i : Int) + 1) = ((i + 1 : Nat) : Int) := by rw [ag8 (by omega) (by omega)]; omega
  have hwj : IntKind.wrap .i64 ((j : Int) + 1) = ((j + 1 : Nat) : Int) := by rw [ag8 (by omega) (by omega)]; omega
  have hsj : s[j] = l[j] := by
   rw [List.drop_eq_getElem_cons hjs, List.drop_eq_getElem_cons hj] at h5
   exact (List.cons.inj h5).1
  have h5' : s.drop (j + 1) = l.drop (j + 1) := by
   rw [List.drop_eq_getElem_cons hjs, List.drop_eq_getElem_cons hj] at h5
   exact (List.cons.inj h5).2
  simp only
  rw [hb i j s (by omega) hjs]
  cases hp : p s[j] with
  | true =>
   refine ⟨(i, j + 1, s), ?_, by trivial, ⟨by simp only; omega, by simp only; omega, h3, ?_, h5'⟩, by simp only; omega⟩
   ·simp only [Bool.not_true, Bool.false_eq_true, if_false, hwj]
   ·simp only
    rw [h4, List.take_succ_eq_append_getElem hj, List.filter_append]
    simp [← hsj, hp]
  | false =>
   refine ⟨(i + 1, j + 1, s.set i s[j]), ?_, by trivial, ⟨by simp only; omega, by simp only; omega, by simp [h3], ?_, ?_⟩, by simp only; omega⟩
   ·simp only [Bool.not_false, if_true, hwi, hwj]
   ·simp only
    rw [List.take_succ_eq_append_getElem (by simp; omega), List.getElem_set_self, List.take_set_of_le (Nat.le_refl _), h4, List.take_succ_eq_append_getElem hj, List.filter_append]
    simp [← hsj, hp]
   ·simp only
    rw [List.drop_set_of_lt (by omega)]; exact h5'
 ·right
  have : j = s.length := by omega
  subst this
  simp only
  rw [he i s (by omega), h4, List.take_of_length_le hj]
theorem br5 {l : List aa1} (hl : l.length ≤ 1000000) : aB4 l = some (l.filter fun a => !ai7 a.Name) := by
 unfold aB4
 rw [aG8 hl, Option.bind_some, bQ4]
 unfold af3
 have hp1 : ∀ a, az3 a = some (ai7 a.Name) := by
  intro a; unfold az3; rw [bb6]; rfl
 have hix : ad9 l = some (bc8 (fun a => ai7 a.Name) l) := by
  unfold ad9
  refine aR8 hl ?_ ?_
  ·intro i hi
   simp only [ac4, dlt hi, if_true, aa8 hi, Option.bind_some, hp1]
  ·simp [ac4]
 rw [hix, Option.bind_some]
 rcases bb8 (fun a => ai7 a.Name) l with ⟨h1, h2⟩ | ⟨i, h, h1, h2, h3⟩
 ·rw [h1, List.filter_eq_self.2 (fun a ha => by simp [h2 a ha])]; rfl
 ·have : ¬ ((i : Int) = -1) := by omega
  rw [h1]
  simp only [this, decide_false, Bool.false_eq_true, if_false]
  refine bY3 (p := fun a => ai7 a.Name) hl ?_ ?_ h h2 h3
  ·intro i j s hi hj
   simp only [ab5, dlt hj, if_true, aa8 hj, aa8 hi, Option.bind_some, hp1, Int.toNat_natCast]
  ·intro i s hi
   simp only [ab5, dge, Bool.false_eq_true, if_false, ae2, aN6 hi, Option.bind_some, Option.map_some]
theorem bz5 {l : List aa1} {name : Str} (hl : l.length ≤ 1000000) : aE0 l name = some (l.filter fun a => !decide (a.Name = name)) := by
 unfold aE0
 rw [aG8 hl, Option.bind_some, bQ4]
 unfold af4
 have hp1 : ∀ a, aD2 a name = some (decide (a.Name = name)) := fun a => rfl
 have hix : ae0 l name = some (bc8 (fun a => decide (a.Name = name)) l) := by
  unfold ae0
  refine aR8 hl ?_ ?_
  ·intro i hi
   simp only [ac5, dlt hi, if_true, aa8 hi, Option.bind_some, hp1]
  ·simp [ac5]
 rw [hix, Option.bind_some]
 rcases bb8 (fun (a : aa1) => decide (a.Name = name)) l with ⟨h1, h2⟩ | ⟨i, h, h1, h2, h3⟩
 ·rw [h1, List.filter_eq_self.2 (fun a ha => by simp only [h2 a ha, Bool.not_false])]; rfl
 ·have : ¬ ((i : Int) = -1) := by omega
  rw [h1]
  simp only [this, decide_false, Bool.false_eq_true, if_false]
  refine bY3 (p := fun a => decide (a.Name = name)) hl ?_ ?_ h h2 h3
  ·intro i j s hi hj
   simp only [ab6, dlt hj, if_true, aa8 hj, aa8 hi, Option.bind_some, hp1, Int.toNat_natCast]
  ·intro i s hi
   simp only [ab6, dge, Bool.false_eq_true, if_false, ae6, aN6 hi, Option.bind_some, Option.map_some]
theorem bi5 {l : List aa1} (hl : l.length ≤ 1000000) : at0 l = some (l.filter fun a => !ai7 a.Name) := by
 unfold at0
 refine (af6 (τ := Int × List aa1) l.length (fun (x : List aa1) i => (i, x)) (fun s => as9 l s.1 s.2) (fun i x => x ++ (l.drop i).filter fun a => !ai7 a.Name) (fun i x => x.length ≤ i) (s0 := []) (by simp) ?_ ?_).trans (by simp)
 ·intro x i hi hx
  left
  have hap : aF4 40 x [l[i]] = some (x ++ [l[i]]) := ak3 (by simp; omega) (by simp; omega)
  refine ⟨if ai7 l[i].Name then x else x ++ [l[i]], ?_, ?_, ?_⟩
  ·simp only [as9, dlt hi, if_true, aa8 hi, Option.bind_some, bJ5, hap]
   rw [ab1 (by omega)]
   cases ai7 l[i].Name <;> rfl
  ·simp only [List.drop_eq_getElem_cons hi, List.filter_cons]
   cases ai7 l[i].Name <;> simp
  ·split <;> (try simp) <;> omega
 ·intro x hx
  simp [as9]
theorem br6 {n : Int} (h0 : -9223372036854775808 ≤ n) (h1 : n ≤ 9223372036854775807) : ba3 n 10 = some (Go.Lib.itoa n) := by
 unfold ba3 bp8 aB7 a02
 rw [if_pos ⟨rfl, h0, h1⟩]; rfl
end Go.Proofs.YtiliognepodhnaaGreatDoor
