import Derived.Test.YtiliognepodhnaaGreatDoorR
import Derived.Test.YtiliognepodhnaaGreatDoorVmQ
import Derived.Lib.ReplaceLaws
import Derived.Test.YtiliognepodhnaaGreatDoorVmI
import Derived.Lib.ItoaLen
namespace Go.Proofs.YtiliognepodhnaaGreatDoor
open Go.Vm
set_option autoImplicit false
set_option linter.unusedVariables false
set_option linter.unusedSimpArgs false
set_option maxRecDepth 100000
theorem bR8 {α : Type} {o : Option α} : (o.bind fun x => some x) = o := by cases o <;> rfl
theorem ab1 {i : Nat} (h : i ≤ 1000000) : IntKind.wrap .i64 ((i : Int) + 1) = (i : Int) + 1 := af0 (by omega) (by omega)
theorem dlt {i n : Nat} (h : i < n) : decide ((i : Int) < (n : Int)) = true := by simp [h]
theorem dge {n : Nat} : decide ((n : Int) < (n : Int)) = false := by simp
def aw7 (stops : Str) : Str → Nat
 | [] => 0
 | c :: r => if stops.contains c then 0 else aw7 stops r + 1
theorem aZ8 (stops s : Str) : aw7 stops s ≤ s.length := by
 induction s with
 | nil => exact Nat.le_refl _
 | cons c r ih => unfold aw7; split <;> simp <;> omega
theorem bd1 {s stops : Str} (hm : s.length ≤ 1000000) : as2 s stops = some (aw7 stops s : Int) := by
 unfold as2
 refine (ae2 s.length (fun (_ : Unit) i => i) (fun v => aA8 s stops v) (fun i _ => ((i + aw7 stops (s.drop i) : Nat) : Int)) (fun _ _ => True) (s0 := ()) trivial ?_ ?_).trans ?_
 ·intro _ i hi _
  simp only [aA8, dlt hi, if_true, ar5 hi, Option.bind_some, strings_IndexByte, stringslite_IndexByte, a22, b50, cv9, List.drop_eq_getElem_cons hi, aw7]
  by_cases hc : stops.contains s[i] = true
  ·right; rw [if_pos hc, if_pos hc]; rfl
  ·left
   refine ⟨(), ?_, ?_, trivial⟩
   ·rw [if_neg hc, ab1 (by omega)]
   ·rw [if_neg hc]; omega
 ·intro _ _
  simp [aA8, aw7]
 ·simp
theorem aZ9 {s p : Str} : stringslite_HasPrefix s p = some (p.isPrefixOf s) := by
 unfold stringslite_HasPrefix
 by_cases h : p.length ≤ s.length
 ·have h1 : ((List.length p : Int) ≤ (List.length s : Int)) := by omega
  simp only [h1, decide_true, if_true, aQ0 h, Option.bind_some]
  congr 1
  rw [Bool.eq_iff_iff, decide_eq_true_eq, List.isPrefixOf_iff_prefix]
  rw [List.prefix_iff_eq_take]; exact eq_comm
 ·have h1 : ¬ ((List.length p : Int) ≤ (List.length s : Int)) := by omega
  simp only [h1, decide_false, Bool.false_eq_true, if_false, Option.bind_some]
  congr 1
  symm
  rw [Bool.eq_false_iff]
  intro e
  exact h (List.isPrefixOf_iff_prefix.1 e).length_le
theorem bd2 {s p : Str} : strings_HasPrefix s p = some (p.isPrefixOf s) := by
 unfold strings_HasPrefix; rw [aZ9]; rfl
def bs7 (c : UInt8) : Bool := (decide (97 ≤ (c.toNat : Int)) && decide ((c.toNat : Int) ≤ 122)) || ((decide (48 ≤ (c.toNat : Int)) && decide ((c.toNat : Int) ≤ 57)) || (decide ((c.toNat : Int) = 45) || decide ((c.toNat : Int) = 95)))
def b80 (c : UInt8) : Bool := decide (97 ≤ (c.toNat : Int)) && decide ((c.toNat : Int) ≤ 122)
def aj8 (s : Str) : Bool := ([33] : Str).isPrefixOf s
def cp8 (s : Str) : Str := if aj8 s then s.drop 1 else s
def bY9 (s : Str) : Bool := match s with
 | [] => false
 | c :: r => b80 c && r.all bs7 && decide (s.length ≤ 32)
def bR9 (s : Str) : Bool := bY9 (cp8 s)
theorem b51 (c : UInt8) (h : b80 c = true) : bs7 c = true := by
 unfold b80 at h; unfold bs7; rw [h]; rfl
theorem b52 {c : UInt8} {r : Str} : bY9 (c :: r) = (b80 c && (c :: r).all bs7 && decide ((c :: r).length ≤ 32)) := by
 show (b80 c && r.all bs7 && decide _) = _
 cases h : b80 c
 ·rfl
 ·rw [List.all_cons, b51 c h]; rfl
theorem bZ0 (s : Str) : (cp8 s).length ≤ s.length := by
 unfold cp8; split <;> simp
theorem bF6 {s : Str} : strings_TrimPrefix s [33] = some (cp8 s) := by
 unfold strings_TrimPrefix stringslite_TrimPrefix
 rw [aZ9 (s := s) (p := [33])]
 unfold cp8 aj8
 cases hp : ([33] : Str).isPrefixOf s with
 | false => simp
 | true =>
  have hl : 1 ≤ s.length := (List.isPrefixOf_iff_prefix.1 hp).length_le
  have := aA4 (l := s) (a := 1) hl
  simp only [Option.bind_some, if_true]
  rw [show (List.length ([33] : Str) : Int) = ((1 : Nat) : Int) from rfl, this]; rfl
theorem bS0 {s : Str} (hs : s.length ≤ 1000000) : aT2 s = some (bR9 s) := by
 unfold aT2 bR9
 rw [bF6, Option.bind_some]
 have hl := bZ0 s
 generalize cp8 s = x at hl ⊢
 cases x with
 | nil => rfl
 | cons c r =>
  have hat : ah2 (c :: r) 0 = some c := rfl
  simp only [reduceCtorEq, decide_false, Bool.false_eq_true, if_false, hat, Option.bind_some, b52]
  by_cases hlen : (32 : Int) < (List.length (c :: r) : Int)
  ·have : ¬ ((c :: r).length ≤ 32) := by omega
   simp only [hlen, decide_true, if_true, Option.bind_some, this, decide_false, Bool.and_false]
  ·have h32 : (c :: r).length ≤ 32 := by omega
   simp only [hlen, decide_false, Bool.false_eq_true, if_false, h32, decide_true, Bool.and_true]
   have hloop : ab0 (fun s => ap3 (c :: r) s) 0 = some ((c :: r).all bs7) := by
    refine (ae2 (c :: r).length (fun (_ : Unit) i => i) (fun v => ap3 (c :: r) v) (fun i _ => ((c :: r).drop i).all bs7) (fun _ _ => True) (s0 := ()) trivial ?_ ?_).trans rfl
    ·intro _ i hi _
     have key : ∀ c : UInt8, (bif (decide ((c.toNat : Int) < 97)) then (bif (decide ((c.toNat : Int) < 48)) then ((!decide ((c.toNat : Int) = 45)) && (!decide ((c.toNat : Int) = 95))) else ((decide (57 < (c.toNat : Int))) && ((!decide ((c.toNat : Int) = 45)) && (!decide ((c.toNat : Int) = 95))))) else ((decide (122 < (c.toNat : Int))) && (bif (decide ((c.toNat : Int) < 48)) then ((!decide ((c.toNat : Int) = 45)) && (!decide ((c.toNat : Int) = 95))) else ((decide (57 < (c.toNat : Int))) && ((!decide ((c.toNat : Int) = 45)) && (!decide ((c.toNat : Int) = 95))))))) = !bs7 c := bg8 (by decide +kernel)
     simp only [ap3, dlt hi, if_true, ar5 hi, Option.bind_some, List.drop_eq_getElem_cons hi, List.all_cons, key]
     cases hn : bs7 (c :: r)[i]
     ·right; simp
     ·left
      refine ⟨(), ?_, by simp, trivial⟩
      simp only [Bool.not_true, Bool.false_eq_true, if_false]
      rw [ab1 (by omega)]
    ·intro _ _
     simp [ap3]
   rw [hloop]
   have k1 : ∀ c : UInt8, b80 c = (!decide ((c.toNat : Int) < 97) && !decide (122 < (c.toNat : Int))) := bg8 (by decide +kernel)
   rw [k1]
   cases decide ((c.toNat : Int) < 97) <;> cases decide (122 < (c.toNat : Int)) <;> simp
theorem bL5 {s : Str} : aF3 s = some (aj8 s) := by
 unfold aF3 aj8
 cases s with
 | nil => rfl
 | cons c r =>
  have h1 : (0 : Int) < (List.length (c :: r) : Int) := by simp only [List.length_cons]; omega
  have h2 : ah2 (c :: r) 0 = some c := rfl
  have h3 : decide ((c.toNat : Int) = 33) = decide (c = 33) := isC c 33
  simp only [h1, decide_true, if_true, h2, Option.bind_some, h3, List.isPrefixOf]
  have key : ∀ c : UInt8, decide (c = 33) = ((33 == c) && true) := bg8 (by decide +kernel)
  rw [key]
theorem b53 {s : Str} (hs : s.length ≤ 1000000) : aQ1 s = some (bR9 s) := by
 have hk : aQ1 s = aA6 (cp8 s) := by
  unfold aQ1
  rw [bL5, Option.bind_some]
  unfold cp8
  cases hp : aj8 s with
  | false => simp
  | true =>
   have hl : 1 ≤ s.length := (List.isPrefixOf_iff_prefix.1 hp).length_le
   have := aA4 (l := s) (a := 1) hl
   simp only [if_true]
   rw [show (1 : Int) = ((1 : Nat) : Int) from rfl, this]; rfl
 rw [hk]
 unfold bR9
 have hl := bZ0 s
 generalize cp8 s = x at hl ⊢
 unfold aA6
 let tail (i : Nat) (x : Str) : Bool := match i with
  | 0 => bY9 x
  | _ => (x.drop i).all bs7 && (decide (1 ≤ (List.length x : Int)) && decide ((List.length x : Int) ≤ 32))
 refine (ae2 x.length (fun (_ : Unit) i => i) (fun v => ax2 x v) (fun i _ => tail i x) (fun _ _ => True) (s0 := ()) trivial ?_ ?_).trans rfl
 ·intro _ i hi _
  have key : ∀ c : UInt8, ((if (decide (97 ≤ (c.toNat : Int))) then some (decide ((c.toNat : Int) ≤ 122)) else some false) : Option Bool) = some (b80 c) := by
   intro c; unfold b80; cases decide (97 ≤ (c.toNat : Int)) <;> rfl
  have key2 : ∀ c : UInt8, (if (decide (48 ≤ (c.toNat : Int))) then (if (decide ((c.toNat : Int) ≤ 57)) then some false else (if (decide ((c.toNat : Int) = 45)) then some false else some (!(decide ((c.toNat : Int) = 95))))) else (if (decide ((c.toNat : Int) = 45)) then some false else some (!(decide ((c.toNat : Int) = 95)))) : Option Bool) = some (!(decide (48 ≤ (c.toNat : Int)) && decide ((c.toNat : Int) ≤ 57) || (decide ((c.toNat : Int) = 45) || decide ((c.toNat : Int) = 95)))) := bg8 (by decide +kernel)
  have key3 : ∀ c : UInt8, bs7 c = (b80 c || ((decide (48 ≤ (c.toNat : Int)) && decide ((c.toNat : Int) ≤ 57)) || (decide ((c.toNat : Int) = 45) || decide ((c.toNat : Int) = 95)))) := fun c => rfl
  simp only [ax2, dlt hi, if_true, ar5 hi, Option.bind_some, key]
  have hlen1 : (1 : Int) ≤ (List.length x : Int) := by omega
  cases i with
  | zero =>
   cases x with
   | nil => simp at hi
   | cons c r =>
    simp only [List.getElem_cons_zero, tail, bY9]
    cases hlow : b80 c with
    | false => right; simp
    | true =>
     left
     refine ⟨(), ?_, ?_, trivial⟩
     ·simp only [Bool.not_true, Bool.false_eq_true, if_false, Option.bind_some]
      rw [ab1 (by omega)]
     ·simp only [Bool.true_and, List.drop_succ_cons, List.drop_zero, hlen1, decide_true]
      congr 1
      rw [Bool.eq_iff_iff, decide_eq_true_eq, decide_eq_true_eq]; omega
  | succ i =>
   have h0 : decide (((i + 1 : Nat) : Int) = 0) = false := by simp; omega
   simp only [tail, List.drop_eq_getElem_cons hi, List.all_cons, h0, Bool.false_eq_true, if_false, key2]
   rw [key3]
   cases hlow : b80 x[i + 1] with
   | true =>
    left
    refine ⟨(), ?_, by simp, trivial⟩
    simp only [Bool.not_true, Bool.false_eq_true, if_false, Option.bind_some]
    rw [ab1 (by omega)]
   | false =>
    simp only [Bool.not_false, if_true, Option.bind_some, Bool.false_or]
    generalize (decide (48 ≤ (x[i + 1].toNat : Int)) && decide ((x[i + 1].toNat : Int) ≤ 57) || (decide ((x[i + 1].toNat : Int) = 45) || decide ((x[i + 1].toNat : Int) = 95))) = q
    cases q with
    | false => right; simp
    | true =>
     left
     refine ⟨(), ?_, by simp, trivial⟩
     simp only [Bool.not_true, Bool.false_eq_true, if_false]
     rw [ab1 (by omega)]
 ·intro _ _
  simp only [ax2, dge, Bool.false_eq_true, if_false]
  cases x with
  | nil => rfl
  | cons c r => simp [tail]
def bd3 (v : Str) : Bool := v.all fun c => !([0, 10, 13] : Str).contains c
theorem bL6 (stops s : Str) : decide ((aw7 stops s : Int) < (List.length s : Int)) = !(s.all fun c => !stops.contains c) := by
 induction s with
 | nil => rfl
 | cons c r ih =>
  unfold aw7
  by_cases hc : stops.contains c = true
  ·rw [if_pos hc]; simp only [List.all_cons, hc]; simp
  ·have hc' : stops.contains c = false := by simpa using hc
   rw [if_neg hc, List.all_cons, hc', Bool.not_false, Bool.true_and, ← ih]
   congr 1
   simp only [List.length_cons, eq_iff_iff]; omega
theorem bS1 {v : Str} (hv : v.length ≤ 1000000) : aK7 v = some (bd3 v) := by
 unfold aK7
 refine (ae2 v.length (fun (_ : Unit) i => i) (fun s => at8 v s) (fun i _ => bd3 (v.drop i)) (fun _ _ => True) (s0 := ()) trivial ?_ ?_).trans rfl
 ·intro _ i hi _
  have key : ∀ c : UInt8, ((if (decide ((c.toNat : Int) = 0)) then some true else (if (decide ((c.toNat : Int) = 10)) then some true else some (decide ((c.toNat : Int) = 13)))) : Option Bool) = some (([0, 10, 13] : Str).contains c) := bg8 (by decide +kernel)
  simp only [at8, dlt hi, if_true, ar5 hi, Option.bind_some, key, bd3, List.drop_eq_getElem_cons hi, List.all_cons]
  cases ([0, 10, 13] : Str).contains v[i] with
  | true => right; simp
  | false =>
   left
   refine ⟨(), ?_, by simp, trivial⟩
   simp only [Bool.false_eq_true, if_false]
   rw [ab1 (by omega)]
 ·intro _ _
  simp [at8, bd3]
def a00 (l : List aa1) (n : Str) : Bool := l.any fun b => decide (b.Name = n)
def chk (before : List aa1) (a : aa1) : Int :=
 if (32 : Int) ≤ (List.length before : Int) then 22 else if bR9 a.Name = false then 6 else if (a.Query && !decide (a.Value = [])) = true ∨ bd3 a.Value = false then 2 else if (1024 : Int) < (List.length a.Value : Int) then 4 else if a00 before a.Name = true then 7 else 0
def be7 {α : Type} (p : α → Bool) : List α → Int
 | [] => -1
 | a :: r => if p a then 0 else if be7 p r = -1 then -1 else be7 p r + 1
theorem cd9 {α : Type} (p : α → Bool) (l : List α) : -1 ≤ be7 p l := by
 induction l with
 | nil => exact Int.le_refl _
 | cons a r ih => simp only [be7]; split <;> (try split) <;> omega
theorem cp9 {α : Type} (p : α → Bool) (l : List α) : 0 ≤ be7 p l ↔ l.any p = true := by
 induction l with
 | nil => simp [be7]
 | cons a r ih =>
  have := cd9 p r
  rw [List.any_cons, Bool.or_eq_true, ← ih]
  simp only [be7]
  by_cases hp : p a = true
  ·simp [hp]
  ·rw [if_neg hp]
   split
   ·rename_i h; rw [h]; simp [hp]
   ·simp only [hp, false_or]; omega
theorem bF7 {α : Type} (p : α → Bool) (l : List α) : decide (0 ≤ be7 p l) = l.any p := by
 rw [Bool.eq_iff_iff, decide_eq_true_eq, cp9]
theorem bZ1 {α : Type} {p : α → Bool} {a : α} {r : List α} (h : p a = true) : be7 p (a :: r) = 0 := by simp [be7, h]
theorem bs8 {α : Type} {p : α → Bool} {a : α} {r : List α} (h : ¬ p a = true) : be7 p (a :: r) = if be7 p r = -1 then -1 else be7 p r + 1 := by simp [be7, h]
theorem aU8 {α : Type} {p : α → Bool} {l : List α} {body : Int → Option (Step Int Int)} (hl : l.length ≤ 1000000)
  (hb : ∀ i (h : i < l.length), body (i : Int) = if p l[i] then some (.done (i : Int)) else some (.cont (IntKind.wrap .i64 ((i : Int) + 1)))) (he : body (l.length : Int) = some (.done (-1))) : ab0 body 0 = some (be7 p l) := by
 refine (ae2 l.length (fun (_ : Unit) i => i) body (fun i _ => if be7 p (l.drop i) = -1 then -1 else (i : Int) + be7 p (l.drop i)) (fun _ _ => True) (s0 := ()) trivial ?_ ?_).trans ?_
 ·intro _ i hi _
  rw [hb i hi, List.drop_eq_getElem_cons hi]
  have := cd9 p (l.drop (i + 1))
  by_cases hp : p l[i] = true
  ·right; rw [if_pos hp, bZ1 hp]; simp
  ·left
   refine ⟨(), ?_, ?_, trivial⟩
   ·rw [if_neg hp, ab1 (by omega)]
   ·rw [bs8 hp]
    by_cases h : be7 p (l.drop (i + 1)) = -1
    ·simp [h]
    ·rw [if_neg h, if_neg (by omega), if_neg h]; omega
 ·intro _ _
  rw [he]; simp [be7]
 ·simp only [List.drop_zero]
  congr 1
  split
  ·rename_i h; exact h.symm
  ·simp
theorem bZ2 {before : List aa1} {a : aa1} (hb : before.length ≤ 1000000) (hn : a.Name.length ≤ 1000000) (hv : a.Value.length ≤ 1000000) : aJ5 before a = some (chk before a) := by
 unfold aJ5 chk
 have hix : ad7 before a = some (be7 (fun b => decide (b.Name = a.Name)) before) := by
  unfold ad7
  refine aU8 hb ?_ ?_
  ·intro i hi
   simp only [ac0, dlt hi, if_true, aa9 hi, Option.bind_some, aY3]
  ·simp [ac0]
 have hc : ac1 before a = some (a00 before a.Name) := by
  unfold ac1 a00
  rw [hix, Option.bind_some, bF7]
 simp only [bS0 hn, Option.bind_some, bd1 hv, hc, bL6]
 by_cases h1 : (32 : Int) ≤ (List.length before : Int)
 ·simp [h1]
 ·simp only [h1, decide_false, Bool.false_eq_true, if_false]
  cases bR9 a.Name with
  | false => simp
  | true =>
   simp only [Bool.not_true, Bool.false_eq_true, if_false, Bool.true_eq_false]
   cases a.Query && !decide (a.Value = []) with
   | true => simp
   | false =>
    change (if (!bd3 a.Value) = true then _ else _) = _
    cases bd3 a.Value with
    | false => simp
    | true =>
     simp only [Bool.not_true, Bool.false_eq_true, if_false, Bool.true_eq_false, or_self]
     by_cases h4 : (1024 : Int) < (List.length a.Value : Int)
     ·simp [h4]
     ·simp only [h4, decide_false, Bool.false_eq_true, if_false]
      cases a00 before a.Name <;> simp
theorem ce0 {before : List aa1} {a : aa1} (hb : before.length ≤ 1000000) (hn : a.Name.length ≤ 1000000) (hv : a.Value.length ≤ 1000000) : aY2 before a = some (chk before a) := by
 unfold aY2 chk
 have hloop : ab0 (fun s => aw1 before a s) 0 = some (if a00 before a.Name = true then (7 : Int) else 0) := by
  refine (ae2 before.length (fun (_ : Unit) i => i) (fun s => aw1 before a s) (fun i _ => if a00 (before.drop i) a.Name = true then (7 : Int) else 0) (fun _ _ => True) (s0 := ()) trivial ?_ ?_).trans rfl
  ·intro _ i hi _
   simp only [aw1, dlt hi, if_true, aa9 hi, Option.bind_some, a00, List.drop_eq_getElem_cons hi, List.any_cons]
   by_cases h : before[i].Name = a.Name
   ·right; simp [h]
   ·left
    refine ⟨(), ?_, by simp [h], trivial⟩
    simp only [h, decide_false, Bool.false_eq_true, if_false]
    rw [ab1 (by omega)]
  ·intro _ _
   simp [aw1, a00]
 simp only [b53 hn, Option.bind_some, bS1 hv, hloop]
 by_cases h1 : (32 : Int) ≤ (List.length before : Int)
 ·simp [h1]
 ·simp only [h1, decide_false, Bool.false_eq_true, if_false]
  cases bR9 a.Name with
  | false => simp
  | true =>
   simp only [Bool.not_true, Bool.false_eq_true, if_false, Bool.true_eq_false]
   by_cases h4 : (1024 : Int) < (List.length a.Value : Int)
   ·cases a.Query <;> cases hd : decide (a.Value = []) <;> cases bd3 a.Value <;> simp [h4]
   ·cases a.Query <;> cases hd : decide (a.Value = []) <;> cases bd3 a.Value <;> simp [h4]
def okA (a : aa1) : Prop := a.Name.length ≤ 5000 ∧ a.Value.length ≤ 5000
def okL (l : List aa1) : Prop := l.length ≤ 5000 ∧ ∀ a ∈ l, okA a
def bL7 (before : List aa1) : List aa1 → Int
 | [] => 0
 | a :: r => if chk before a = 0 then bL7 (before ++ [a]) r else chk before a
def aW2 (l : List aa1) : Int := bL7 [] l
theorem okL.get {l : List aa1} (h : okL l) {i : Nat} (hi : i < l.length) : okA l[i] := h.2 _ (List.getElem_mem hi)
theorem bn0 {l : List aa1} (h : okL l) : aC9 l = some (aW2 l) := by
 unfold aC9
 refine (ae2 l.length (fun (_ : Unit) i => i) (fun s => aA9 l s) (fun i _ => bL7 (l.take i) (l.drop i)) (fun _ _ => True) (s0 := ()) trivial ?_ ?_).trans ?_
 ·intro _ i hi _
  have ha := h.get hi
  have h1 := h.1
  simp only [aA9, dlt hi, if_true, aa9 hi, Option.bind_some, aQ0 (Nat.le_of_lt hi), bZ2 (before := l.take i) (a := l[i]) (by simp; omega) (by have := ha.1; omega) (by have := ha.2; omega), List.drop_eq_getElem_cons hi, bL7]
  by_cases hz : chk (l.take i) l[i] = 0
  ·left
   refine ⟨(), ?_, ?_, trivial⟩
   ·simp only [hz, decide_true, Bool.not_true, Bool.false_eq_true, if_false]
    rw [ab1 (by omega)]
   ·simp only [hz, if_true]
    rw [List.take_succ_eq_append_getElem hi]
  ·right; simp [hz]
 ·intro _ _
  simp [aA9, bL7]
 ·simp [aW2]
theorem a94 {l : List aa1} (h : okL l) : aC3 l = some (aW2 l) := by
 unfold aC3
 refine (ae2 l.length (fun (_ : Unit) i => i) (fun s => ax3 l s) (fun i _ => bL7 (l.take i) (l.drop i)) (fun _ _ => True) (s0 := ()) trivial ?_ ?_).trans ?_
 ·intro _ i hi _
  have ha := h.get hi
  have h1 := h.1
  simp only [ax3, dlt hi, if_true, aa9 hi, Option.bind_some, aQ0 (Nat.le_of_lt hi), ce0 (before := l.take i) (a := l[i]) (by simp; omega) (by have := ha.1; omega) (by have := ha.2; omega), List.drop_eq_getElem_cons hi, bL7]
  by_cases hz : chk (l.take i) l[i] = 0
  ·left
   refine ⟨(), ?_, ?_, trivial⟩
   ·simp only [hz, decide_true, Bool.not_true, Bool.false_eq_true, if_false]
    rw [ab1 (by omega)]
   ·simp only [hz, if_true]
    rw [List.take_succ_eq_append_getElem hi]
  ·right; simp [hz]
 ·intro _ _
  simp [ax3, bL7]
 ·simp [aW2]
def dbl (s : Str) : Str := s.flatMap fun c => if c = 39 then [39, 39] else [c]
def oddB (s : Str) : Bool := decide (s = []) || s.any fun c => ([32, 9, 39] : Str).contains c
def a01 (s : Str) : Str := if oddB s then [39] ++ dbl s ++ [39] else s
theorem ce1 (s : Str) : (dbl s).length ≤ 2 * s.length := by
 induction s with
 | nil => exact Nat.le_refl _
 | cons c r ih =>
  unfold dbl at ih ⊢
  rw [List.flatMap_cons, List.length_append, List.length_cons]
  split <;> simp only [List.length_cons, List.length_nil] <;> omega
theorem bh3 (s : Str) : (a01 s).length ≤ 2 * s.length + 2 := by
 have := ce1 s
 unfold a01
 split <;> simp <;> omega
theorem bF8 {c : UInt8} (hc : c ≠ 39) (k : Nat) (s : Str) (hk : k ≤ Go.Lib.count s [39]) : Go.Lib.replaceK [39] [39, 39] k (c :: s) = c :: Go.Lib.replaceK [39] [39, 39] k s := by
 cases k with
 | zero => rfl
 | succ k =>
  obtain ⟨i, hi⟩ := Go.Lib.index_of_count (s := s) (old := [39]) (by omega)
  have hi' : Go.Lib.index (c :: s) [39] = ((i + 1 : Nat) : Int) := by
   have hp : ([39] : Str).isPrefixOf (c :: s) = false := by simp [List.isPrefixOf, Ne.symm hc]
   rw [Go.Lib.index, hp, hi]
   have : ((i : Int) == -1) = false := by rw [beq_eq_false_iff_ne]; omega
   simp [this]
  rw [Go.Lib.replaceK_hit _ _ _ _ _ hi, Go.Lib.replaceK_hit _ _ _ _ _ hi']
  simp [Nat.add_right_comm]
theorem bS2 (s : Str) : Go.Lib.replaceK [39] [39, 39] (Go.Lib.count s [39]) s = dbl s := by
 induction s with
 | nil => rw [Go.Lib.count_one]; rfl
 | cons c r ih =>
  by_cases hc : c = 39
  ·subst hc
   have hi : Go.Lib.index (39 :: r) [39] = ((0 : Nat) : Int) := by rw [Go.Lib.index]; simp [List.isPrefixOf]
   rw [Go.Lib.count_cons_eq, Nat.add_comm 1, Go.Lib.replaceK_hit _ _ _ _ _ hi]
   simp only [List.take_zero, List.nil_append, Nat.zero_add, List.length_cons, List.length_nil, List.drop_succ_cons, List.drop_zero, ih]
   unfold dbl
   rw [List.flatMap_cons, if_pos rfl]
  ·rw [Go.Lib.count_cons_ne _ _ _ hc, bF8 hc _ _ (Nat.le_refl _), ih]
   unfold dbl
   rw [List.flatMap_cons, if_neg hc]; rfl
theorem bF9 {s : Str} (hs : s.length ≤ 1000000) : strings_ReplaceAll s [39] [39, 39] = some (dbl s) := by
 have hc : Go.Lib.count s [39] ≤ s.length := by rw [Go.Lib.count_one]; exact List.count_le_length
 unfold strings_ReplaceAll aS9
 rw [if_pos ⟨by omega, by simp, by simp; omega⟩]
 unfold Go.Lib.replaceAll Go.Lib.replace
 rw [if_neg (by decide)]
 have : Go.Lib.replaceNum s [39] (-1) = Go.Lib.count s [39] := by unfold Go.Lib.replaceNum; rw [if_pos (Or.inl (by omega))]
 rw [this, bS2]
theorem cq0 {s : Str} (hs : s.length ≤ 1000000) : a28 s = some (a01 s) := by
 unfold a28
 have hd := ce1 s
 have c1 : aj0 [39] (dbl s) = some ([39] ++ dbl s) := aa8 (by simp; omega)
 have c2 : aj0 ([39] ++ dbl s) [39] = some ([39] ++ dbl s ++ [39]) := aa8 (by simp; omega)
 have hu := aZ8 [32, 9, 39] s
 have ha := bL6 [32, 9, 39] s
 have hany : (s.any fun c => ([32, 9, 39] : Str).contains c) = !(s.all fun c => !([32, 9, 39] : Str).contains c) := by
  rw [List.any_eq_not_all_not]
 have hdd : decide ((aw7 [32, 9, 39] s : Int) = (List.length s : Int)) = (s.all fun c => !([32, 9, 39] : Str).contains c) := by
  cases h : s.all fun c => !([32, 9, 39] : Str).contains c with
  | true => rw [h] at ha; simp only [Bool.not_true, decide_eq_false_iff_not] at ha; simp; omega
  | false => rw [h] at ha; simp only [Bool.not_false, decide_eq_true_eq] at ha; simp; omega
 simp only [bd1 hs, Option.bind_some, bF9 hs, c1, c2, hdd]
 unfold a01 oddB
 rw [hany]
 cases h : s.all fun c => !([32, 9, 39] : Str).contains c <;> cases hn : decide (s = []) <;> simp
theorem bS3 {s : Str} (hs : s.length ≤ 1000000) : aU0 s = some (a01 s) := by
 unfold aU0
 refine (ae2 (τ := Str × Bool × Int) s.length (fun (x : Str × Bool) i => (x.1, x.2, i)) (fun x => av3 s x.1 x.2.1 x.2.2)
  (fun i x => if x.2 || (s.drop i).any (fun c => ([32, 9, 39] : Str).contains c) then [39] ++ (x.1 ++ dbl (s.drop i)) ++ [39] else s) (fun i x => x.1.length ≤ 2 * i) (s0 := ([], decide (s = []))) (by simp) ?_ ?_).trans ?_
 ·rintro ⟨out, odd⟩ i hi hv
  simp only at hv
  left
  have key : ∀ c : UInt8, ((if (decide ((c.toNat : Int) = 32)) then some true else (if (decide ((c.toNat : Int) = 9)) then some true else some (decide (c = 39)))) : Option Bool) = some (([32, 9, 39] : Str).contains c) := bg8 (by decide +kernel)
  have hw : IntKind.wrap .i64 ((i : Int) + 1) = (i : Int) + 1 := ab1 (by omega)
  have c1 : aj0 out [s[i]] = some (out ++ [s[i]]) := aa8 (by simp; omega)
  have c2 : aj0 (out ++ [s[i]]) [39] = some (out ++ [s[i]] ++ [39]) := aa8 (by simp; omega)
  have h39 : decide ((s[i].toNat : Int) = 39) = decide (s[i] = 39) := isC s[i] 39
  have hor : ((if odd = true then some true else some (([32, 9, 39] : Str).contains s[i])) : Option Bool) = some (odd || ([32, 9, 39] : Str).contains s[i]) := by cases odd <;> rfl
  refine ⟨(if s[i] = 39 then out ++ [s[i]] ++ [39] else out ++ [s[i]], odd || ([32, 9, 39] : Str).contains s[i]), ?_, ?_, ?_⟩
  ·simp only [av3, dlt hi, if_true, ar5 hi, Option.bind_some, key, hor, hw, cA9 hi, c1, c2, h39]
   by_cases h : s[i] = 39
   ·simp only [h, decide_true, if_true]
   ·simp only [h, decide_false, Bool.false_eq_true, if_false]
  ·simp only [List.drop_eq_getElem_cons hi, List.any_cons, Bool.or_assoc]
   have : dbl (s[i] :: s.drop (i + 1)) = (if s[i] = 39 then [39, 39] else [s[i]]) ++ dbl (s.drop (i + 1)) := by unfold dbl; rw [List.flatMap_cons]
   rw [this]
   by_cases h : s[i] = 39
   ·simp only [h, if_true]; simp
   ·simp only [h, if_false]; simp
  ·simp only
   split <;> simp <;> omega
 ·rintro ⟨out, odd⟩ hv
  simp only at hv
  have c1 : aj0 [39] out = some ([39] ++ out) := aa8 (by simp; omega)
  have c2 : aj0 ([39] ++ out) [39] = some ([39] ++ out ++ [39]) := aa8 (by simp; omega)
  simp only [av3, dge, Bool.false_eq_true, if_false, aM0, c1, c2, Option.bind_some, List.drop_length]
  cases odd <;> simp [dbl]
 ·simp [a01, oddB]
def be8 (a : aa1) : Str := if a.Query then a.Name ++ [63] else a.Name ++ [61] ++ a01 a.Value
theorem bZ3 {a : aa1} (h : okA a) : (be8 a).length ≤ 15003 := by
 have := bh3 a.Value
 have h1 := h.1
 have h2 := h.2
 unfold be8
 split <;> simp <;> omega
def aM5 (l : List aa1) : Str := Go.Lib.join (l.map be8) [32]
theorem ce2 (xs : List Str) (x sep : Str) : Go.Lib.join (xs ++ [x]) sep = if xs = [] then x else Go.Lib.join xs sep ++ sep ++ x := by
 cases xs with
 | nil => simp [Go.Lib.join_one]
 | cons y r =>
  rw [List.cons_append, Go.Lib.join_cons, Go.Lib.join_cons, if_neg (by simp)]
  simp [Go.Lib.joinTail]
theorem bZ4 {K : Nat} {sep : Str} : ∀ {l : List Str}, (∀ x ∈ l, x.length ≤ K) → (Go.Lib.join l sep).length ≤ l.length * (K + sep.length)
 | [], _ => by simp [Go.Lib.join_nil]
 | x :: r, h => by
  rw [Go.Lib.join_cons, List.length_append]
  have hx := h x (by simp)
  have : ∀ r : List Str, (∀ y ∈ r, y.length ≤ K) → (Go.Lib.joinTail sep r).length ≤ r.length * (K + sep.length) := by
   intro r
   induction r with
   | nil => intro _; simp [Go.Lib.joinTail]
   | cons y r ih =>
    intro h
    have h1 := ih fun z hz => h z (List.mem_cons_of_mem _ hz)
    have h2 := h y (by simp)
    unfold Go.Lib.joinTail at h1 ⊢
    rw [List.map_cons, List.flatten_cons, List.length_append, List.length_append, List.length_cons, Nat.add_mul, Nat.one_mul]
    omega
  have := this r fun z hz => h z (List.mem_cons_of_mem _ hz)
  rw [List.length_cons, Nat.add_mul, Nat.one_mul]
  omega
theorem bL8 {l : List aa1} (h : okL l) (i : Nat) : (Go.Lib.join ((l.take i).map be8) [32]).length ≤ 75020000 := by
 have h1 := bZ4 (K := 15003) (sep := [32]) (l := (l.take i).map be8) (by
  intro x hx
  obtain ⟨a, ha, rfl⟩ := List.mem_map.1 hx
  exact bZ3 (h.2 a (List.mem_of_mem_take ha)))
 have h2 := h.1
 simp only [List.length_map, List.length_take, List.length_cons, List.length_nil] at h1
 have : min i l.length * (15003 + (0 + 1)) ≤ 5000 * 15004 := Nat.mul_le_mul (by omega) (by omega)
 omega
theorem cq1 {l : List aa1} (h : okL l) : a29 l = some (if aW2 l = 0 then (aM5 l, 0) else ([], aW2 l)) := by
 unfold a29
 rw [bn0 h, Option.bind_some]
 by_cases hz : aW2 l = 0
 ·have hl := h.1
  have hmk : mkC 16 ([] : Str) 0 (List.length l : Int) = some [] := by
   unfold mkC
   rw [if_pos ⟨by omega, by omega, by omega, by omega⟩]; rfl
  simp only [hz, decide_true, Bool.not_true, Bool.false_eq_true, if_false, if_true, hmk, Option.bind_some]
  refine (ae2 (τ := Int × List Str) l.length (fun (x : List Str) i => (i, x)) (fun x => ax8 l x.1 x.2) (fun i _ => (aM5 l, 0)) (fun i x => x = (l.take i).map be8) (s0 := []) (by simp) ?_ ?_).trans rfl
  ·rintro x i hi rfl
   left
   have ha := h.get hi
   have h1 := ha.1
   have h2 := ha.2
   have hw : IntKind.wrap .i64 ((i : Int) + 1) = (i : Int) + 1 := ab1 (by omega)
   have hq := bh3 l[i].Value
   have c1 : aj0 l[i].Name [63] = some (l[i].Name ++ [63]) := aa8 (by simp; omega)
   have c2 : aj0 l[i].Name [61] = some (l[i].Name ++ [61]) := aa8 (by simp; omega)
   have c3 : aj0 (l[i].Name ++ [61]) (a01 l[i].Value) = some (l[i].Name ++ [61] ++ a01 l[i].Value) := aa8 (by simp; omega)
   have ap : ∀ y : Str, aH2 16 ((l.take i).map be8) [y] = some ((l.take i).map be8 ++ [y]) := fun y => ak4 (by simp; omega) (by simp; omega)
   refine ⟨(l.take (i + 1)).map be8, ?_, rfl, rfl⟩
   simp only [ax8, dlt hi, if_true, aa9 hi, Option.bind_some, c1, c2, cq0 (s := l[i].Value) (by omega), c3, ap, hw]
   rw [List.take_succ_eq_append_getElem hi, List.map_append, List.map_cons, List.map_nil]
   unfold be8
   cases l[i].Query <;> simp
  ·rintro x rfl
   have hj : strings_Join (l.map be8) [32] = some (aM5 l) := by
    unfold strings_Join aM5
    have := bL8 h l.length
    rw [List.take_length] at this
    exact bR6 (by simp; omega) (by omega)
   simp only [ax8, dge, Bool.false_eq_true, if_false, aO8, List.take_length, hj, Option.bind_some, Option.map_some]
 ·simp [hz]
theorem bS4 {l : List aa1} (h : okL l) : aU1 l = some (if aW2 l = 0 then (aM5 l, 0) else ([], aW2 l)) := by
 unfold aU1
 rw [a94 h, Option.bind_some]
 by_cases hz : aW2 l = 0
 ·have hl := h.1
  simp only [hz, decide_true, Bool.not_true, Bool.false_eq_true, if_false, if_true]
  refine (ae2 (τ := Str × Int) l.length (fun (x : Str) i => (x, i)) (fun x => av5 l x.1 x.2) (fun i _ => (aM5 l, 0)) (fun i x => x = Go.Lib.join ((l.take i).map be8) [32]) (s0 := []) (by simp [Go.Lib.join_nil]) ?_ ?_).trans rfl
  ·rintro x i hi rfl
   left
   have ha := h.get hi
   have h1 := ha.1
   have h2 := ha.2
   have hw : IntKind.wrap .i64 ((i : Int) + 1) = (i : Int) + 1 := ab1 (by omega)
   have hq := bh3 l[i].Value
   have hlen := bL8 h i
   refine ⟨Go.Lib.join ((l.take (i + 1)).map be8) [32], ?_, rfl, rfl⟩
   generalize hp : Go.Lib.join ((l.take i).map be8) [32] = p at hlen
   have hk : ∀ q : Str, q.length ≤ 75020001 → av4 l i q = some (.cont (q ++ be8 l[i], (i : Int) + 1)) := by
    intro q hq2
    have c1 : aj0 q l[i].Name = some (q ++ l[i].Name) := aa8 (by omega)
    have c2 : aj0 (q ++ l[i].Name) [63] = some (q ++ l[i].Name ++ [63]) := aa8 (by simp; omega)
    have c3 : aj0 (q ++ l[i].Name) [61] = some (q ++ l[i].Name ++ [61]) := aa8 (by simp; omega)
    have c4 : aj0 (q ++ l[i].Name ++ [61]) (a01 l[i].Value) = some (q ++ l[i].Name ++ [61] ++ a01 l[i].Value) := aa8 (by simp; omega)
    simp only [av4, aa9 hi, Option.bind_some, c1, c2, c3, bS3 (s := l[i].Value) (by omega), c4, hw]
    unfold be8
    cases l[i].Query <;> simp
   have hsn : Go.Lib.join ((l.take (i + 1)).map be8) [32] = if i = 0 then be8 l[i] else p ++ [32] ++ be8 l[i] := by
    rw [List.take_succ_eq_append_getElem hi, List.map_append, List.map_cons, List.map_nil, ce2, hp]
    by_cases h0 : i = 0
    ·subst h0; simp
    ·rw [if_neg, if_neg h0]
     simp only [List.map_eq_nil_iff, List.take_eq_nil_iff, not_or]
     exact ⟨h0, by intro e; rw [e] at hi; simp at hi⟩
   have c5 : aj0 p [32] = some (p ++ [32]) := aa8 (by simp; omega)
   simp only [av5, dlt hi, if_true]
   rw [hsn]
   by_cases h0 : i = 0
   ·have hp0 : p = [] := by rw [← hp, h0]; simp [Go.Lib.join_nil]
    rw [hk p (by omega), hp0]
    simp [h0]
   ·have : (0 : Int) < (i : Int) := by omega
    simp only [this, decide_true, if_true, c5, Option.bind_some, h0, if_false]
    rw [hk _ (by simp; omega)]
  ·rintro x rfl
   simp only [av5, dge, Bool.false_eq_true, if_false, List.take_length]
   rfl
 ·simp [hz]
def ai0 : Str → Option (Str × Nat)
 | [] => none
 | [c] => if c = 39 then some ([], 1) else none
 | c :: d :: r => if c = 39 then (if d = 39 then (ai0 r).map fun x => (39 :: x.1, x.2 + 2) else some ([], 1)) else (ai0 (d :: r)).map fun x => (c :: x.1, x.2 + 1)
theorem b54 {c : UInt8} {r : Str} (h : c ≠ 39) : ai0 (c :: r) = (ai0 r).map fun x => (c :: x.1, x.2 + 1) := by
 cases r with
 | nil => simp [ai0, h]
 | cons d r => rw [ai0, if_neg h]
theorem bL9 {r : Str} (h : r.head? ≠ some 39) : ai0 (39 :: r) = some ([], 1) := by
 cases r with
 | nil => rfl
 | cons d r =>
  have : d ≠ 39 := by simpa using h
  rw [ai0, if_pos rfl, if_neg this]
theorem bS5 {r : Str} : ai0 (39 :: 39 :: r) = (ai0 r).map fun x => (39 :: x.1, x.2 + 2) := by
 rw [ai0, if_pos rfl, if_pos rfl]
theorem is39 (c : UInt8) : decide ((c.toNat : Int) = 39) = decide (c = 39) := isC c 39
theorem bS6 (s : Str) (i : Nat) (hi : i ≤ s.length) : i = s.length ∨ ∃ h : i < s.length, (s[i] ≠ 39 ∧ ai0 (s.drop i) = (ai0 (s.drop (i + 1))).map fun x => (s[i] :: x.1, x.2 + 1)) ∨
  (s[i] = 39 ∧ (i + 1 = s.length ∨ ∃ h2 : i + 1 < s.length, s[i + 1] ≠ 39) ∧ ai0 (s.drop i) = some ([], 1)) ∨
  (s[i] = 39 ∧ (∃ h2 : i + 1 < s.length, s[i + 1] = 39) ∧ ai0 (s.drop i) = (ai0 (s.drop (i + 2))).map fun x => (39 :: x.1, x.2 + 2)) := by
 rcases Nat.lt_or_ge i s.length with h | h
 ·right
  refine ⟨h, ?_⟩
  rw [List.drop_eq_getElem_cons h]
  by_cases hc : s[i] = 39
  ·right
   rcases Nat.lt_or_ge (i + 1) s.length with h2 | h2
   ·by_cases hd : s[i + 1] = 39
    ·right
     refine ⟨hc, ⟨h2, hd⟩, ?_⟩
     rw [hc, List.drop_eq_getElem_cons h2, hd, bS5]
    ·left
     refine ⟨hc, Or.inr ⟨h2, hd⟩, ?_⟩
     rw [hc, List.drop_eq_getElem_cons h2]
     exact bL9 fun e => hd (Option.some.inj e)
   ·left
    refine ⟨hc, Or.inl (by omega), ?_⟩
    rw [hc, List.drop_of_length_le h2]; rfl
  ·left
   exact ⟨hc, b54 hc⟩
 ·left; omega
theorem ce3 {s : Str} (hs : s.length ≤ 1000000) : aT1 s = some (match ai0 s with | some x => (x.1, (x.2 : Int), true) | none => ([], 0, false)) := by
 unfold aT1
 refine (a25 (σ := Nat × Str) (fun x => ak8 s x.1 x.2) (fun x => ((x.1 : Int), x.2)) (fun x => match ai0 (s.drop x.1) with | some y => (x.2 ++ y.1, ((x.1 + y.2 : Nat) : Int), true) | none => ([], 0, false)) (fun x => s.length - x.1)
  (fun x => x.1 ≤ s.length ∧ x.2.length ≤ x.1) ?_ (s0 := (0, [])) ⟨by simp, by simp⟩).trans ?_
 ·rintro ⟨i, acc⟩ ⟨h1, h2⟩
  simp only at h1 h2
  rcases bS6 s i h1 with he | ⟨h, hcase⟩
  ·right
   subst he
   simp [ak8, ai0]
  ·have hw : IntKind.wrap .i64 ((i : Int) + 1) = (i : Int) + 1 := ab1 (by omega)
   have hw2 : IntKind.wrap .i64 ((i : Int) + 1 + 1) = ((i + 2 : Nat) : Int) := by rw [af0 (by omega) (by omega)]; omega
   have b1 : ∀ c : UInt8, bAdd acc [c] = some (acc ++ [c]) := fun c => aJ4 (by simp; omega)
   rcases hcase with ⟨hc, hq⟩ | ⟨hc, hn, hq⟩ | ⟨hc, ⟨h3, hd⟩, hq⟩
   ·left
    refine ⟨(i + 1, acc ++ [s[i]]), ?_, ?_, ⟨by simp only; omega, by simp; omega⟩, by simp only; omega⟩
    ·simp only [ak8, dlt h, if_true, ar5 h, Option.bind_some, is39, hc, decide_false, Bool.not_false, b1, hw]
     rfl
    ·simp only [hq]
     cases ai0 (s.drop (i + 1)) with
     | none => rfl
     | some y => simp; omega
   ·right
    simp only [ak8, dlt h, if_true, ar5 h, Option.bind_some, is39, hc, decide_true, Bool.not_true, Bool.false_eq_true, if_false, hw, hq]
    rcases hn with h3 | ⟨h3, hd⟩
    ·have : (i : Int) + 1 = (List.length s : Int) := by omega
     simp [this]
    ·have h4 : ¬ ((i : Int) + 1 = (List.length s : Int)) := by omega
     have h5 : ah2 s ((i : Int) + 1) = some s[i + 1] := by
      have := ar5 h3
      rwa [show ((i + 1 : Nat) : Int) = (i : Int) + 1 by omega] at this
     simp [h4, h5, is39, hd]
   ·left
    have h4 : ¬ ((i : Int) + 1 = (List.length s : Int)) := by omega
    have h5 : ah2 s ((i : Int) + 1) = some s[i + 1] := by
     have := ar5 h3
     rwa [show ((i + 1 : Nat) : Int) = (i : Int) + 1 by omega] at this
    refine ⟨(i + 2, acc ++ [39]), ?_, ?_, ⟨by simp only; omega, by simp; omega⟩, by simp only; omega⟩
    ·simp only [ak8, dlt h, if_true, ar5 h, Option.bind_some, is39, hc, decide_true, Bool.not_true, Bool.false_eq_true, if_false, hw, h4, decide_false, h5, hd, b1, hw2]
    ·simp only [hq]
     cases ai0 (s.drop (i + 2)) with
     | none => rfl
     | some y => simp; omega
 ·simp only [List.drop_zero]
  cases ai0 s <;> simp
def bs9 (c : UInt8) : Bool := decide ((c.toNat : Int) = 32) || decide ((c.toNat : Int) = 9)
def cB0 (s : Str) : Bool := match s with
 | [] => true
 | c :: _ => bs9 c
def bad (e : Int) : aa1 × Nat × Int := (⟨[], [], false⟩, 0, e)
def fin (s : Str) (a : aa1) (n : Nat) : aa1 × Nat × Int := if cB0 (s.drop n) then (a, n, 0) else bad 2
def valS (s nm : Str) (n : Nat) (r : Str) : aa1 × Nat × Int := if (r.take (aw7 [32, 9] r)).contains 39 then bad 2 else fin s ⟨nm, r.take (aw7 [32, 9] r), false⟩ (n + (1 + aw7 [32, 9] r))
def cJ0 (s nm : Str) (n : Nat) : Str → aa1 × Nat × Int
 | [] => bad 2
 | c :: r => if c = 63 then fin s ⟨nm, [], true⟩ (n + 1) else if c = 61 then
  (if ([39] : Str).isPrefixOf r then (match ai0 (r.drop 1) with | none => bad 48 | some x => fin s ⟨nm, x.1, false⟩ (n + (2 + x.2))) else valS s nm n r) else bad 2
def bk6 : Str := [32, 9, 61, 63, 39]
def bx4 (s : Str) : aa1 × Nat × Int := cJ0 s (s.take (aw7 bk6 s)) (aw7 bk6 s) (s.drop (aw7 bk6 s))
theorem bG0 {s nm v : Str} {n : Nat} {q : Bool} (hn : n ≤ s.length) : aC7 s nm (n : Int) v q = some ((fin s ⟨nm, v, q⟩ n).1, ((fin s ⟨nm, v, q⟩ n).2.1 : Int), (fin s ⟨nm, v, q⟩ n).2.2) := by
 unfold aC7 fin
 rcases Nat.lt_or_ge n s.length with h | h
 ·simp only [dlt h, if_true, ar5 h, Option.bind_some, aQ2, List.drop_eq_getElem_cons h, cB0]
  change (if (!bs9 s[n]) = true then _ else _) = _
  cases bs9 s[n] <;> rfl
 ·have : n = s.length := by omega
  subst this
  simp [cB0]
theorem aU9 : ∀ (s : Str) (x : Str × Nat), ai0 s = some x → x.1.length ≤ x.2 ∧ 1 ≤ x.2 ∧ x.2 ≤ s.length
 | [], x, h => by simp [ai0] at h
 | [c], x, h => by
  unfold ai0 at h
  split at h
  ·cases h; simp
  ·cases h
 | c :: d :: r, x, h => by
  rw [ai0] at h
  split at h
  ·split at h
   ·obtain ⟨y, hy, rfl⟩ := Option.map_eq_some_iff.1 h
    have := aU9 r y hy
    simp; omega
   ·cases h; simp
  ·obtain ⟨y, hy, rfl⟩ := Option.map_eq_some_iff.1 h
   have := aU9 (d :: r) y hy
   simp at this ⊢; omega
theorem cJ1 {s : Str} (hs : s.length ≤ 1000000) : bm8 s = some ((bx4 s).1, ((bx4 s).2.1 : Int), (bx4 s).2.2) := by
 unfold bm8 bx4
 have hn := aZ8 bk6 s
 have hu : as2 s [32, 9, 61, 63, 39] = some (aw7 bk6 s : Int) := bd1 hs
 rw [hu, Option.bind_some]
 generalize aw7 bk6 s = n at hn ⊢
 rw [aQ0 hn, Option.bind_some, aA4 hn, Option.bind_some]
 generalize hr : s.drop n = rest
 have hlen : rest.length = s.length - n := by rw [← hr, List.length_drop]
 simp only [bd2, Option.bind_some]
 cases rest with
 | nil => simp [List.isPrefixOf, cJ0, bad]
 | cons c r =>
  simp only [List.length_cons] at hlen
  unfold cJ0
  by_cases h63 : c = 63
  ·subst h63
   have hw : IntKind.wrap .i64 ((n : Int) + 1) = ((n + 1 : Nat) : Int) := by rw [af0 (by omega) (by omega)]; omega
   simp only [List.isPrefixOf, BEq.rfl, Bool.and_true, if_true, hw]
   exact bG0 (by omega)
  ·have e63 : ((63 : UInt8) == c) = false := by simpa using Ne.symm h63
   simp only [List.isPrefixOf, e63, Bool.false_and, Bool.false_eq_true, if_false, h63]
   by_cases h61 : c = 61
   ·subst h61
    simp only [BEq.rfl, Bool.true_and, if_true]
    cases r with
    | nil =>
     have hu2 : as2 [61] [32, 9] = some (1 : Int) := bd1 (by simp)
     have hcut : cut ([61] : Str) 1 1 = some [] := rfl
     have hcon : strings_Contains [] [39] = some false := rfl
     have hw : IntKind.wrap .i64 ((n : Int) + 1) = ((n + 1 : Nat) : Int) := by rw [af0 (by omega) (by omega)]; omega
     simp only [List.isPrefixOf, Bool.false_eq_true, if_false, hu2, Option.bind_some, hcut, hcon, hw]
     exact bG0 (by simp at hlen; omega)
    | cons d r2 =>
     simp only [List.isPrefixOf, Bool.and_true]
     by_cases h39 : d = 39
     ·subst h39
      have hcut : cut (61 :: 39 :: r2) 2 (List.length (61 :: 39 :: r2) : Int) = some r2 := by
       have := aA4 (l := (61 :: 39 :: r2 : Str)) (a := 2) (by simp)
       simpa using this
      simp only [List.length_cons] at hlen
      have hcut' : cut (61 :: 39 :: r2) 2 (List.length (61 :: 39 :: r2) : Int) = some r2 := hcut
      simp only [BEq.rfl, if_true, hcut', Option.bind_some, ce3 (s := r2) (by omega), List.drop_succ_cons, List.drop_zero]
      cases hq : ai0 r2 with
      | none => simp [bad]
      | some x =>
       have hx := aU9 r2 x hq
       have hw1 : IntKind.wrap .i64 (2 + (x.2 : Int)) = 2 + (x.2 : Int) := af0 (by omega) (by omega)
       have hw2 : IntKind.wrap .i64 ((n : Int) + (2 + (x.2 : Int))) = ((n + (2 + x.2) : Nat) : Int) := by rw [af0 (by omega) (by omega)]; omega
       simp only [Bool.not_true, Bool.false_eq_true, if_false, hw1, hw2]
       exact bG0 (by omega)
     ·have e39 : ((39 : UInt8) == d) = false := by simpa using Ne.symm h39
      simp only [List.length_cons] at hlen
      have hu2 : as2 (61 :: d :: r2) [32, 9] = some ((aw7 [32, 9] (d :: r2) + 1 : Nat) : Int) := by
       rw [bd1 (by simp; omega), aw7]; rfl
      have hle := aZ8 [32, 9] (d :: r2)
      simp only [List.length_cons] at hle
      simp only [e39, Bool.false_eq_true, if_false, hu2, Option.bind_some]
      unfold valS
      generalize aw7 [32, 9] (d :: r2) = k at hle ⊢
      have hcut : cut (61 :: d :: r2) 1 ((k + 1 : Nat) : Int) = some ((d :: r2).take k) := by
       have := bF1 (l := (61 :: d :: r2 : Str)) (a := 1) (b := k + 1) (by omega) (by simp; omega)
       simpa using this
      have hcon : strings_Contains ((d :: r2).take k) [39] = some (((d :: r2).take k).contains 39) := by
       unfold strings_Contains strings_Index bK6
       rw [Option.bind_some, cv9]
      have hw : IntKind.wrap .i64 ((n : Int) + ((k + 1 : Nat) : Int)) = ((n + (1 + k) : Nat) : Int) := by rw [af0 (by omega) (by omega)]; omega
      simp only [hcut, Option.bind_some, hcon, hw]
      cases hc : ((d :: r2).take k).contains 39 with
      | true => simp [bad]
      | false =>
       simp only [Bool.false_eq_true, if_false]
       exact bG0 (by omega)
   ·have e61 : ((61 : UInt8) == c) = false := by simpa using Ne.symm h61
    simp [e61, h61, bad]
def agree (x : aa1 × Int × Int) (at_ : Nat) (o : aa1 × Nat × Int) : Prop := x.2.2 = o.2.2 ∧ (o.2.2 = 0 → x.1 = o.1 ∧ x.2.1 = ((at_ + o.2.1 : Nat) : Int))
def bx5 (out : List aa1) (o : aa1 × Nat × Int) : Int := if o.2.2 = 0 then chk out o.1 else o.2.2
def aw9 : Nat → List aa1 → Nat → Str → List aa1 × Int × Int
 | 0, out, _, _ => (out, 0, 0)
 | _ + 1, out, _, [] => (out, 0, 0)
 | f + 1, out, i, c :: r => if bs9 c then aw9 f out (i + 1) r else if bx5 out (bx4 (c :: r)) = 0 then aw9 f (out ++ [(bx4 (c :: r)).1]) (i + (bx4 (c :: r)).2.1) ((c :: r).drop (bx4 (c :: r)).2.1) else ([], (i : Int), bx5 out (bx4 (c :: r)))
def ao6 (s : Str) : List aa1 × Int × Int := aw9 (s.length + 1) [] 0 s
theorem bt0 {s : Str} {a : aa1} {n : Nat} (h : (fin s a n).2.2 = 0) : fin s a n = (a, n, 0) := by
 unfold fin at h ⊢
 split
 ·rfl
 ·rename_i hc; rw [if_neg hc] at h; simp [bad] at h
theorem bM0 {s : Str} (h : (bx4 s).2.2 = 0) : 1 ≤ (bx4 s).2.1 ∧ (bx4 s).2.1 ≤ s.length ∧ (bx4 s).1.Name.length ≤ s.length ∧ (bx4 s).1.Value.length ≤ s.length := by
 unfold bx4 at h ⊢
 have hn := aZ8 bk6 s
 generalize aw7 bk6 s = n at hn h ⊢
 generalize hr : s.drop n = rest at h ⊢
 have hlen : rest.length = s.length - n := by rw [← hr, List.length_drop]
 cases rest with
 | nil => simp [cJ0, bad] at h
 | cons c r =>
  simp only [List.length_cons] at hlen
  simp only [cJ0] at h ⊢
  split at h
  ·rename_i hc
   rw [if_pos hc, bt0 h]; simp; omega
  ·rename_i hc
   rw [if_neg hc]
   split at h
   ·rename_i h61
    rw [if_pos h61]
    split at h
    ·rename_i hp
     rw [if_pos hp]
     cases hq : ai0 (r.drop 1) with
     | none => rw [hq] at h; simp [bad] at h
     | some x =>
      rw [hq] at h
      simp only at h ⊢
      have hx := aU9 _ x hq
      rw [List.length_drop] at hx
      rw [bt0 h]; simp; omega
    ·rename_i hp
     rw [if_neg hp]
     unfold valS at h ⊢
     have hu := aZ8 [32, 9] r
     split at h
     ·simp [bad] at h
     ·rename_i hq
      rw [if_neg hq, bt0 h]; simp; omega
   ·simp [bad] at h
theorem b55 {f i : Nat} {out : List aa1} {s : Str} (h : i < s.length) : aw9 (f + 1) out i (s.drop i) = if bs9 s[i] then aw9 f out (i + 1) (s.drop (i + 1)) else
  if bx5 out (bx4 (s.drop i)) = 0 then aw9 f (out ++ [(bx4 (s.drop i)).1]) (i + (bx4 (s.drop i)).2.1) (s.drop (i + (bx4 (s.drop i)).2.1)) else ([], (i : Int), bx5 out (bx4 (s.drop i))) := by
 conv => lhs; rw [List.drop_eq_getElem_cons h, aw9]
 rw [← List.drop_eq_getElem_cons h, List.drop_drop]
theorem b56 {out : List aa1} {o : aa1 × Nat × Int} (h : bx5 out o = 0) : o.2.2 = 0 := by
 unfold bx5 at h
 split at h
 ·rename_i h1; exact h1
 ·rename_i h1; exact absurd h h1
theorem bG1 {s : Str} (hs : s.length ≤ 1000000) : aC8 s = some (ao6 s) := by
 unfold aC8
 refine (a25 (σ := Nat × Nat × List aa1) (fun x => ax6 s x.1 x.2) (fun x => ((x.2.1 : Int), x.2.2)) (fun x => aw9 x.1 x.2.2 x.2.1 (s.drop x.2.1)) (fun x => x.1)
  (fun x => x.2.1 ≤ s.length ∧ s.length - x.2.1 < x.1 ∧ x.2.2.length ≤ x.2.1) ?_ (s0 := (s.length + 1, 0, [])) ⟨by simp, by simp, by simp⟩).trans ?_
 ·rintro ⟨f, i, out⟩ ⟨h1, h2, h3⟩
  simp only at h1 h2 h3
  obtain ⟨f, rfl⟩ : ∃ g, f = g + 1 := ⟨f - 1, by omega⟩
  have hb : ∀ c : UInt8, aQ2 (c.toNat : Int) = some (bs9 c) := fun c => rfl
  rcases Nat.lt_or_ge i s.length with h | h
  ·have hw : IntKind.wrap .i64 ((i : Int) + 1) = ((i + 1 : Nat) : Int) := by rw [af0 (by omega) (by omega)]; omega
   have hso : (s.drop i).length ≤ 1000000 := by rw [List.length_drop]; omega
   simp only [ax6, dlt h, if_true, ar5 h, Option.bind_some, hb, aA4 h1, cJ1 hso, b55 h]
   cases hbl : bs9 s[i] with
   | true =>
    left
    refine ⟨(f, i + 1, out), ?_, rfl, ⟨by simp only; omega, by simp only; omega, by simp only; omega⟩, by simp⟩
    simp only [if_true, hw]
   | false =>
    simp only [Bool.false_eq_true, if_false]
    generalize ho : bx4 (s.drop i) = o
    have hof : o.2.2 = 0 → 1 ≤ o.2.1 ∧ o.2.1 ≤ (s.drop i).length ∧ o.1.Name.length ≤ (s.drop i).length ∧ o.1.Value.length ≤ (s.drop i).length := by
     intro hz; rw [← ho] at hz ⊢; exact bM0 hz
    rw [List.length_drop] at hof
    by_cases hz : o.2.2 = 0
    ·obtain ⟨g1, g2, g3, g4⟩ := hof hz
     have hck : aJ5 out o.1 = some (chk out o.1) := bZ2 (by omega) (by omega) (by omega)
     have hst : bx5 out o = chk out o.1 := by unfold bx5; rw [if_pos hz]
     have hw2 : IntKind.wrap .i64 ((i : Int) + (o.2.1 : Int)) = ((i + o.2.1 : Nat) : Int) := by rw [af0 (by omega) (by omega)]; omega
     have hap : aH2 40 out [o.1] = some (out ++ [o.1]) := ak4 (by simp; omega) (by simp; omega)
     simp only [hz, decide_true, if_true, hck, Option.bind_some, ax5, hst, hap, hw2]
     by_cases hc : chk out o.1 = 0
     ·left
      refine ⟨(f, i + o.2.1, out ++ [o.1]), ?_, ?_, ⟨by simp only; omega, by simp only; omega, by simp; omega⟩, by simp⟩
      ·simp only [hc, decide_true, Bool.not_true, Bool.false_eq_true, if_false]
      ·simp only [hc, if_true]
     ·right
      simp only [hc, decide_false, Bool.not_false, if_true, if_false]
    ·right
     have hst : bx5 out o = o.2.2 := by unfold bx5; rw [if_neg hz]
     simp only [hz, decide_false, Bool.false_eq_true, if_false, ax5, Bool.not_false, if_true, hst]
  ·right
   have : i = s.length := by omega
   subst this
   simp only [ax6, dge, Bool.false_eq_true, if_false, List.drop_length, aw9]
 ·rfl
def bl2 (name : Str) (a : aa1) : Bool := !a.Query && decide (a.Name = name)
def am5 (name : Str) : List aa1 → Str × Bool
 | [] => ([], false)
 | a :: r => if bl2 name a then (a.Value, true) else am5 name r
theorem bd4 {α : Type} (p : α → Bool) (l : List α) : (be7 p l = -1 ∧ ∀ a ∈ l, p a = false) ∨ ∃ i, ∃ h : i < l.length, be7 p l = (i : Int) ∧ p l[i] = true ∧ ∀ a ∈ l.take i, p a = false := by
 induction l with
 | nil => left; exact ⟨rfl, by simp⟩
 | cons a r ih =>
  by_cases hp : p a = true
  ·right; exact ⟨0, by simp, bZ1 hp, hp, by simp⟩
  ·have hp' := Bool.eq_false_iff.2 hp
   rcases ih with ⟨h1, h2⟩ | ⟨i, h, h1, h2, h3⟩
   ·left
    refine ⟨by rw [bs8 hp, if_pos h1], ?_⟩
    intro x hx
    rcases List.mem_cons.1 hx with rfl | hx
    ·exact hp'
    ·exact h2 x hx
   ·right
    refine ⟨i + 1, by simpa using h, ?_, by simpa using h2, ?_⟩
    ·rw [bs8 hp, h1, if_neg (by omega)]; omega
    ·intro x hx
     rw [List.take_succ_cons] at hx
     rcases List.mem_cons.1 hx with rfl | hx
     ·exact hp'
     ·exact h3 x hx
theorem bM1 {name : Str} {a : aa1} {r : List aa1} (h : bl2 name a = true) : am5 name (a :: r) = (a.Value, true) := by simp [am5, h]
theorem bB1 {name : Str} {a : aa1} {r : List aa1} (h : ¬ bl2 name a = true) : am5 name (a :: r) = am5 name r := by simp [am5, h]
theorem b57 {name : Str} {l : List aa1} (h : ∀ a ∈ l, bl2 name a = false) : am5 name l = ([], false) := by
 induction l with
 | nil => rfl
 | cons a r ih => rw [am5, h a (by simp), if_neg (by simp)]; exact ih fun x hx => h x (List.mem_cons_of_mem _ hx)
theorem bZ5 {name : Str} : ∀ {l : List aa1} {i : Nat} (h : i < l.length), bl2 name l[i] = true → (∀ a ∈ l.take i, bl2 name a = false) → am5 name l = (l[i].Value, true)
 | [], _, h, _, _ => by simp at h
 | a :: r, 0, _, h1, _ => by
  simp only [List.getElem_cons_zero] at h1 ⊢
  rw [am5, if_pos h1]
 | a :: r, i + 1, h, h1, h2 => by
  rw [am5, h2 a (by simp), if_neg (by simp)]
  exact bZ5 (i := i) (by simpa using h) (by simpa using h1) fun x hx => h2 x (by rw [List.take_succ_cons]; exact List.mem_cons_of_mem _ hx)
theorem cq2 {l : List aa1} {name : Str} (hl : l.length ≤ 1000000) : a26 l name = some (be7 (bl2 name) l) := by
 unfold a26
 rw [bR8]
 unfold ag5
 refine aU8 hl ?_ ?_
 ·intro i hi
  simp only [ac4, dlt hi, if_true, aa9 hi, Option.bind_some, aY4]
  rfl
 ·simp [ac4]
theorem bh4 {l : List aa1} {name : Str} (hl : l.length ≤ 1000000) : au8 l name = some (am5 name l) := by
 unfold au8
 rw [cq2 hl, Option.bind_some]
 rcases bd4 (bl2 name) l with ⟨h1, h2⟩ | ⟨i, h, h1, h2, h3⟩
 ·rw [h1, b57 h2]; rfl
 ·have : ¬ ((i : Int) < 0) := by omega
  rw [h1, bZ5 h h2 h3]
  simp only [this, decide_false, Bool.false_eq_true, if_false, aa9 h, Option.bind_some]
theorem bh5 {l : List aa1} {name : Str} (hl : l.length ≤ 1000000) : ay8 l name = some (am5 name l) := by
 unfold ay8
 refine (ae2 l.length (fun (_ : Unit) i => i) (fun s => aw2 l name s) (fun i _ => am5 name (l.drop i)) (fun _ _ => True) (s0 := ()) trivial ?_ ?_).trans rfl
 ·intro _ i hi _
  have hbody : aw2 l name (i : Int) = if bl2 name l[i] then some (.done (l[i].Value, true)) else some (.cont ((i : Int) + 1)) := by
   simp only [aw2, dlt hi, if_true, aa9 hi, Option.bind_some]
   rw [ab1 (by omega), show bl2 name l[i] = (!l[i].Query && decide (l[i].Name = name)) from rfl]
   by_cases h : l[i].Name = name <;> cases hq : l[i].Query <;> simp [h]
  rw [hbody, List.drop_eq_getElem_cons hi]
  by_cases hf : bl2 name l[i] = true
  ·right; rw [if_pos hf, bM1 hf]
  ·left; rw [if_neg hf, bB1 hf]; exact ⟨(), rfl, rfl, trivial⟩
 ·intro _ _
  simp [aw2, am5]
def bd5 (l : List aa1) (a : aa1) : Bool := (am5 a.Name l).2 && (a.Query || decide ((am5 a.Name l).1 = a.Value))
theorem bh6 {l pattern : List aa1} (hl : l.length ≤ 1000000) (hp : pattern.length ≤ 1000000) : ay9 l pattern = some (pattern.all (bd5 l)) := by
 unfold ay9
 refine (ae2 pattern.length (fun (_ : Unit) i => i) (fun s => au9 l pattern s) (fun i _ => (pattern.drop i).all (bd5 l)) (fun _ _ => True) (s0 := ()) trivial ?_ ?_).trans rfl
 ·intro _ i hi _
  simp only [au9, dlt hi, if_true, aa9 hi, Option.bind_some, bh4 hl, List.drop_eq_getElem_cons hi, List.all_cons, bd5]
  generalize am5 pattern[i].Name l = x
  cases x.2 <;> cases pattern[i].Query <;> cases decide (x.1 = pattern[i].Value) <;> simp <;> (try rw [ab1 (by omega)])
 ·intro _ _
  simp [au9]
theorem aJ0 {l : List aa1} (hl : l.length ≤ 1000000) : aa5 l = some l := by
 unfold aa5
 rw [ak4 (by simp; omega) (by simp; omega)]; rfl
theorem bZ6 {α : Type} {p : α → Bool} {l : List α} {body : Int × Int × List α → Option (Step (Int × Int × List α) (List α))} (hl : l.length ≤ 1000000)
  (hb : ∀ (i j : Nat) (s : List α) (hi : i < s.length) (hj : j < s.length), body ((i : Int), (j : Int), s) = if !p s[j] then some (.cont (IntKind.wrap .i64 ((i : Int) + 1), IntKind.wrap .i64 ((j : Int) + 1), s.set i s[j])) else some (.cont ((i : Int), IntKind.wrap .i64 ((j : Int) + 1), s)))
  (he : ∀ (i : Nat) (s : List α), i ≤ s.length → body ((i : Int), (s.length : Int), s) = some (.done (s.take i))) {i0 : Nat} (h0 : i0 < l.length) (hp0 : p l[i0] = true) (hbef : ∀ a ∈ l.take i0, p a = false) :
  ab0 body ((i0 : Int), IntKind.wrap .i64 ((i0 : Int) + 1), l) = some (l.filter fun a => !p a) := by
 have hw0 : IntKind.wrap .i64 ((i0 : Int) + 1) = ((i0 + 1 : Nat) : Int) := by rw [af0 (by omega) (by omega)]; omega
 rw [hw0]
 have hf0 : (l.take (i0 + 1)).filter (fun a => !p a) = l.take i0 := by
  rw [List.take_succ_eq_append_getElem h0, List.filter_append, List.filter_eq_self.2 (fun a ha => by simp [hbef a ha])]
  simp [hp0]
 refine (a25 (σ := Nat × Nat × List α) body (fun x => ((x.1 : Int), (x.2.1 : Int), x.2.2)) (fun _ => l.filter fun a => !p a) (fun x => l.length - x.2.1)
  (fun x => x.1 < x.2.1 ∧ x.2.1 ≤ l.length ∧ x.2.2.length = l.length ∧ x.2.2.take x.1 = (l.take x.2.1).filter (fun a => !p a) ∧ x.2.2.drop x.2.1 = l.drop x.2.1) ?_ (s0 := (i0, i0 + 1, l)) ⟨by simp, by simp only; omega, rfl, by simp only; exact hf0.symm, rfl⟩).trans rfl
 rintro ⟨i, j, s⟩ ⟨h1, h2, h3, h4, h5⟩
 simp only at h1 h2 h3 h4 h5
 rcases Nat.lt_or_ge j l.length with hj | hj
 ·left
  have hjs : j < s.length := by omega
  have hwi : IntKind.wrap .i64 ((i : Int) + 1) = ((i + 1 : Nat) : Int) := by rw [af0 (by omega) (by omega)]; omega
  have hwj : IntKind.wrap .i64 ((j : Int) + 1) = ((j + 1 : Nat) : Int) := by rw [af0 (by omega) (by omega)]; omega
  have hsj : s[j] = l[j] := by
   rw [List.drop_eq_getElem_cons hjs, List.drop_eq_getElem_cons hj] at h5
   exact (List.cons.inj h5).1
  have h5' : s.drop (j + 1) = l.drop (j + 1) := by
   rw [List.drop_eq_getElem_cons hjs, List.drop_eq_getElem_cons hj] at h5
   exact (List.cons.inj h5).2
  simp only
  rw [hb i j s (by omega) hjs]
  cases hp : p s[j] with
  | true =>
   refine ⟨(i, j + 1, s), ?_, by trivial, ⟨by simp only; omega, by simp only; omega, h3, ?_, h5'⟩, by simp only; omega⟩
   ·simp only [Bool.not_true, Bool.false_eq_true, if_false, hwj]
   ·simp only
    rw [h4, List.take_succ_eq_append_getElem hj, List.filter_append]
    simp [← hsj, hp]
  | false =>
   refine ⟨(i + 1, j + 1, s.set i s[j]), ?_, by trivial, ⟨by simp only; omega, by simp only; omega, by simp [h3], ?_, ?_⟩, by simp only; omega⟩
   ·simp only [Bool.not_false, if_true, hwi, hwj]
   ·simp only
    rw [List.take_succ_eq_append_getElem (by simp; omega), List.getElem_set_self, List.take_set_of_le (Nat.le_refl _), h4, List.take_succ_eq_append_getElem hj, List.filter_append]
    simp [← hsj, hp]
   ·simp only
    rw [List.drop_set_of_lt (by omega)]; exact h5'
 ·right
  have : j = s.length := by omega
  subst this
  simp only
  rw [he i s (by omega), h4, List.take_of_length_le hj]
theorem bt1 {l : List aa1} (hl : l.length ≤ 1000000) : aD0 l = some (l.filter fun a => !aj8 a.Name) := by
 unfold aD0
 rw [aJ0 hl, Option.bind_some, bR8]
 unfold af6
 have hp1 : ∀ a, aB0 a = some (aj8 a.Name) := by
  intro a; unfold aB0; rw [bd2]; rfl
 have hix : ad9 l = some (be7 (fun a => aj8 a.Name) l) := by
  unfold ad9
  refine aU8 hl ?_ ?_
  ·intro i hi
   simp only [ac5, dlt hi, if_true, aa9 hi, Option.bind_some, hp1]
  ·simp [ac5]
 rw [hix, Option.bind_some]
 rcases bd4 (fun a => aj8 a.Name) l with ⟨h1, h2⟩ | ⟨i, h, h1, h2, h3⟩
 ·rw [h1, List.filter_eq_self.2 (fun a ha => by simp [h2 a ha])]; rfl
 ·have : ¬ ((i : Int) = -1) := by omega
  rw [h1]
  simp only [this, decide_false, Bool.false_eq_true, if_false]
  refine bZ6 (p := fun a => aj8 a.Name) hl ?_ ?_ h h2 h3
  ·intro i j s hi hj
   simp only [ab6, dlt hj, if_true, aa9 hj, aa9 hi, Option.bind_some, hp1, Int.toNat_natCast]
  ·intro i s hi
   simp only [ab6, dge, Bool.false_eq_true, if_false, ae4, aQ0 hi, Option.bind_some, Option.map_some]
theorem bB2 {l : List aa1} {name : Str} (hl : l.length ≤ 1000000) : aF5 l name = some (l.filter fun a => !decide (a.Name = name)) := by
 unfold aF5
 rw [aJ0 hl, Option.bind_some, bR8]
 unfold af7
 have hp1 : ∀ a, aE5 a name = some (decide (a.Name = name)) := fun a => rfl
 have hix : ae0 l name = some (be7 (fun a => decide (a.Name = name)) l) := by
  unfold ae0
  refine aU8 hl ?_ ?_
  ·intro i hi
   simp only [ac6, dlt hi, if_true, aa9 hi, Option.bind_some, hp1]
  ·simp [ac6]
 rw [hix, Option.bind_some]
 rcases bd4 (fun (a : aa1) => decide (a.Name = name)) l with ⟨h1, h2⟩ | ⟨i, h, h1, h2, h3⟩
 ·rw [h1, List.filter_eq_self.2 (fun a ha => by simp only [h2 a ha, Bool.not_false])]; rfl
 ·have : ¬ ((i : Int) = -1) := by omega
  rw [h1]
  simp only [this, decide_false, Bool.false_eq_true, if_false]
  refine bZ6 (p := fun a => decide (a.Name = name)) hl ?_ ?_ h h2 h3
  ·intro i j s hi hj
   simp only [ab7, dlt hj, if_true, aa9 hj, aa9 hi, Option.bind_some, hp1, Int.toNat_natCast]
  ·intro i s hi
   simp only [ab7, dge, Bool.false_eq_true, if_false, ae8, aQ0 hi, Option.bind_some, Option.map_some]
theorem a02 {l : List aa1} (hl : l.length ≤ 1000000) : au0 l = some (l.filter fun a => !aj8 a.Name) := by
 unfold au0
 refine (ae2 (τ := Int × List aa1) l.length (fun (x : List aa1) i => (i, x)) (fun s => at9 l s.1 s.2) (fun i x => x ++ (l.drop i).filter fun a => !aj8 a.Name) (fun i x => x.length ≤ i) (s0 := []) (by simp) ?_ ?_).trans (by simp)
 ·intro x i hi hx
  left
  have hap : aH2 40 x [l[i]] = some (x ++ [l[i]]) := ak4 (by simp; omega) (by simp; omega)
  refine ⟨if aj8 l[i].Name then x else x ++ [l[i]], ?_, ?_, ?_⟩
  ·simp only [at9, dlt hi, if_true, aa9 hi, Option.bind_some, bL5, hap]
   rw [ab1 (by omega)]
   cases aj8 l[i].Name <;> rfl
  ·simp only [List.drop_eq_getElem_cons hi, List.filter_cons]
   cases aj8 l[i].Name <;> simp
  ·split <;> (try simp) <;> omega
 ·intro x hx
  simp [at9]
theorem bS7 {n : Int} (h0 : -9223372036854775808 ≤ n) (h1 : n ≤ 9223372036854775807) : bc5 n 10 = some (Go.Lib.itoa n) := by
 unfold bc5 br9 aD3 a23
 rw [if_pos ⟨rfl, h0, h1⟩]; rfl
end Go.Proofs.YtiliognepodhnaaGreatDoor
