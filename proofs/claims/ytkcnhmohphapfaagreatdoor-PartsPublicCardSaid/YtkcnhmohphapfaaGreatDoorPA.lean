import Derived.Test.YtkcnhmohphapfaaGreatDoorR
import Derived.Test.YtkcnhmohphapfaaGreatDoorVmQ
import Derived.Lib.ReplaceLaws
import Derived.KernelRfl
namespace Go.Proofs.YtkcnhmohphapfaaGreatDoor
open Go.Vm
set_option autoImplicit false
set_option linter.unusedVariables false
set_option linter.unusedSimpArgs false
set_option maxRecDepth 100000
theorem bQ2 {α : Type} {o : Option α} : (o.bind fun x => some x) = o := by cases o <;> rfl
theorem ac5 {i : Nat} (h : i < 9223372036854775807) : IntKind.wrap .i64 ((i : Int) + 1) = (i : Int) + 1 := an8 (by omega) (by omega)
theorem dlt {i n : Nat} (h : i < n) : decide ((i : Int) < (n : Int)) = true := by simp [h]
theorem dge {n : Nat} : decide ((n : Int) < (n : Int)) = false := by simp
def ag7 (stops : Str) : Str → Nat
 | [] => 0
 | c :: r => if stops.contains c then 0 else ag7 stops r + 1
theorem aC0 (stops s : Str) : ag7 stops s ≤ s.length := by
 induction s with
 | nil => exact Nat.le_refl _
 | cons c r ih => unfold ag7; split <;> simp <;> omega
theorem aI3 {s stops : Str} (hm : s.length ≤ 1000000) : ai7 s stops = some (ag7 stops s : Int) := by
 unfold ai7
 refine (af8 s.length (fun (_ : Unit) i => i) (fun v => an5 s stops v) (fun i _ => ((i + ag7 stops (s.drop i) : Nat) : Int)) (fun _ _ => True) (s0 := ()) trivial ?_ ?_).trans ?_
 ·intro _ i hi _
  simp only [an5, dlt hi, if_true, ag5 hi, Option.bind_some, strings_IndexByte, stringslite_IndexByte, aD0, br0, bM9, List.drop_eq_getElem_cons hi, ag7]
  by_cases hc : stops.contains s[i] = true
  ·right; rw [if_pos hc, if_pos hc]; rfl
  ·left
   refine ⟨(), ?_, ?_, trivial⟩
   ·rw [if_neg hc, ac5 (by omega)]
   ·rw [if_neg hc]; omega
 ·intro _ _
  simp [an5, ag7]
 ·simp
theorem aN3 {s p : Str} : stringslite_HasPrefix s p = some (p.isPrefixOf s) := by
 unfold stringslite_HasPrefix
 by_cases h : p.length ≤ s.length
 ·have h1 : ((List.length p : Int) ≤ (List.length s : Int)) := by omega
  simp only [h1, decide_true, if_true, aT9 h, Option.bind_some]
  congr 1
  rw [Bool.eq_iff_iff, decide_eq_true_eq, List.isPrefixOf_iff_prefix]
  rw [List.prefix_iff_eq_take]; exact eq_comm
 ·have h1 : ¬ ((List.length p : Int) ≤ (List.length s : Int)) := by omega
  simp only [h1, decide_false, Bool.false_eq_true, if_false, Option.bind_some]
  congr 1
  symm
  rw [Bool.eq_false_iff]
  intro e
  exact h (List.isPrefixOf_iff_prefix.1 e).length_le
theorem aI4 {s p : Str} : strings_HasPrefix s p = some (p.isPrefixOf s) := by
 unfold strings_HasPrefix; rw [aN3]; rfl
def aK9 (c : UInt8) : Bool := (decide (97 ≤ (c.toNat : Int)) && decide ((c.toNat : Int) ≤ 122)) || ((decide (48 ≤ (c.toNat : Int)) && decide ((c.toNat : Int) ≤ 57)) || (decide ((c.toNat : Int) = 45) || decide ((c.toNat : Int) = 95)))
def bs3 (c : UInt8) : Bool := decide (97 ≤ (c.toNat : Int)) && decide ((c.toNat : Int) ≤ 122)
def af1 (s : Str) : Bool := ([33] : Str).isPrefixOf s
def bs4 (s : Str) : Str := if af1 s then s.drop 1 else s
def aI5 (s : Str) : Bool := match s with
 | [] => false
 | c :: r => bs3 c && r.all aK9 && decide (s.length ≤ 32)
def at7 (s : Str) : Bool := aI5 (bs4 s)
theorem br2 (c : UInt8) (h : bs3 c = true) : aK9 c = true := by
 unfold bs3 at h; unfold aK9; rw [h]; rfl
theorem aD6 {c : UInt8} {r : Str} : aI5 (c :: r) = (bs3 c && (c :: r).all aK9 && decide ((c :: r).length ≤ 32)) := by
 show (bs3 c && r.all aK9 && decide _) = _
 cases h : bs3 c
 ·rfl
 ·rw [List.all_cons, br2 c h]; rfl
theorem bk9 (s : Str) : (bs4 s).length ≤ s.length := by
 unfold bs4; split <;> simp
theorem a40 {s : Str} : strings_TrimPrefix s [33] = some (bs4 s) := by
 unfold strings_TrimPrefix stringslite_TrimPrefix
 rw [aN3 (s := s) (p := [33])]
 unfold bs4 af1
 cases hp : ([33] : Str).isPrefixOf s with
 | false => simp
 | true =>
  have hl : 1 ≤ s.length := (List.isPrefixOf_iff_prefix.1 hp).length_le
  have := ay4 (l := s) (a := 1) hl
  simp only [Option.bind_some, if_true]
  rw [show (List.length ([33] : Str) : Int) = ((1 : Nat) : Int) from rfl, this]; rfl
theorem bf3 {s : Str} (hs : s.length ≤ 1000000) : ay9 s = some (at7 s) := by
 unfold ay9 at7
 rw [a40, Option.bind_some]
 have hl := bk9 s
 generalize bs4 s = x at hl ⊢
 cases x with
 | nil => rfl
 | cons c r =>
  have hat : aj4 (c :: r) 0 = some c := rfl
  simp only [reduceCtorEq, decide_false, Bool.false_eq_true, if_false, hat, Option.bind_some, aD6]
  by_cases hlen : (32 : Int) < (List.length (c :: r) : Int)
  ·have : ¬ ((c :: r).length ≤ 32) := by omega
   simp only [hlen, decide_true, if_true, Option.bind_some, this, decide_false, Bool.and_false]
  ·have h32 : (c :: r).length ≤ 32 := by omega
   simp only [hlen, decide_false, Bool.false_eq_true, if_false, h32, decide_true, Bool.and_true]
   have hloop : ad8 (fun s => ah9 (c :: r) s) 0 = some ((c :: r).all aK9) := by
    refine (af8 (c :: r).length (fun (_ : Unit) i => i) (fun v => ah9 (c :: r) v) (fun i _ => ((c :: r).drop i).all aK9) (fun _ _ => True) (s0 := ()) trivial ?_ ?_).trans rfl
    ·intro _ i hi _
     have key : ∀ c : UInt8, (bif (decide ((c.toNat : Int) < 97)) then (bif (decide ((c.toNat : Int) < 48)) then ((!decide ((c.toNat : Int) = 45)) && (!decide ((c.toNat : Int) = 95))) else ((decide (57 < (c.toNat : Int))) && ((!decide ((c.toNat : Int) = 45)) && (!decide ((c.toNat : Int) = 95))))) else ((decide (122 < (c.toNat : Int))) && (bif (decide ((c.toNat : Int) < 48)) then ((!decide ((c.toNat : Int) = 45)) && (!decide ((c.toNat : Int) = 95))) else ((decide (57 < (c.toNat : Int))) && ((!decide ((c.toNat : Int) = 45)) && (!decide ((c.toNat : Int) = 95))))))) = !aK9 c := ay3 (by decide +kernel)
     simp only [ah9, dlt hi, if_true, ag5 hi, Option.bind_some, List.drop_eq_getElem_cons hi, List.all_cons, key]
     cases hn : aK9 (c :: r)[i]
     ·right; simp
     ·left
      refine ⟨(), ?_, by simp, trivial⟩
      simp only [Bool.not_true, Bool.false_eq_true, if_false]
      rw [ac5 (by omega)]
    ·intro _ _
     simp [ah9]
   rw [hloop]
   have k1 : ∀ c : UInt8, bs3 c = (!decide ((c.toNat : Int) < 97) && !decide (122 < (c.toNat : Int))) := ay3 (by decide +kernel)
   rw [k1]
   cases decide ((c.toNat : Int) < 97) <;> cases decide (122 < (c.toNat : Int)) <;> simp
theorem ba1 {s : Str} : am1 s = some (af1 s) := by
 unfold am1 af1
 cases s with
 | nil => rfl
 | cons c r =>
  have h1 : (0 : Int) < (List.length (c :: r) : Int) := by simp only [List.length_cons]; omega
  have h2 : aj4 (c :: r) 0 = some c := rfl
  have h3 : decide ((c.toNat : Int) = 33) = decide (c = 33) := isC c 33
  simp only [h1, decide_true, if_true, h2, Option.bind_some, h3, List.isPrefixOf]
  have key : ∀ c : UInt8, decide (c = 33) = ((33 == c) && true) := ay3 (by decide +kernel)
  rw [key]
theorem br3 {s : Str} (hs : s.length ≤ 9223372036854775807) : aw3 s = some (at7 s) := by
 have hk : aw3 s = an1 (bs4 s) := by
  unfold aw3
  rw [ba1, Option.bind_some]
  unfold bs4
  cases hp : af1 s with
  | false => simp
  | true =>
   have hl : 1 ≤ s.length := (List.isPrefixOf_iff_prefix.1 hp).length_le
   have := ay4 (l := s) (a := 1) hl
   simp only [if_true]
   rw [show (1 : Int) = ((1 : Nat) : Int) from rfl, this]; rfl
 rw [hk]
 unfold at7
 have hl := bk9 s
 generalize bs4 s = x at hl ⊢
 unfold an1
 let tail (i : Nat) (x : Str) : Bool := match i with
  | 0 => aI5 x
  | _ => (x.drop i).all aK9 && (decide (1 ≤ (List.length x : Int)) && decide ((List.length x : Int) ≤ 32))
 refine (af8 x.length (fun (_ : Unit) i => i) (fun v => ak9 x v) (fun i _ => tail i x) (fun _ _ => True) (s0 := ()) trivial ?_ ?_).trans rfl
 ·intro _ i hi _
  have key : ∀ c : UInt8, ((if (decide (97 ≤ (c.toNat : Int))) then some (decide ((c.toNat : Int) ≤ 122)) else some false) : Option Bool) = some (bs3 c) := by
   intro c; unfold bs3; cases decide (97 ≤ (c.toNat : Int)) <;> rfl
  have key2 : ∀ c : UInt8, (if (decide (48 ≤ (c.toNat : Int))) then (if (decide ((c.toNat : Int) ≤ 57)) then some false else (if (decide ((c.toNat : Int) = 45)) then some false else some (!(decide ((c.toNat : Int) = 95))))) else (if (decide ((c.toNat : Int) = 45)) then some false else some (!(decide ((c.toNat : Int) = 95)))) : Option Bool) = some (!(decide (48 ≤ (c.toNat : Int)) && decide ((c.toNat : Int) ≤ 57) || (decide ((c.toNat : Int) = 45) || decide ((c.toNat : Int) = 95)))) := ay3 (by decide +kernel)
  have key3 : ∀ c : UInt8, aK9 c = (bs3 c || ((decide (48 ≤ (c.toNat : Int)) && decide ((c.toNat : Int) ≤ 57)) || (decide ((c.toNat : Int) = 45) || decide ((c.toNat : Int) = 95)))) := fun c => rfl
  simp only [ak9, dlt hi, if_true, ag5 hi, Option.bind_some, key]
  have hlen1 : (1 : Int) ≤ (List.length x : Int) := by omega
  cases i with
  | zero =>
   cases x with
   | nil => simp at hi
   | cons c r =>
    simp only [List.getElem_cons_zero, tail, aI5]
    cases hlow : bs3 c with
    | false => right; simp
    | true =>
     left
     refine ⟨(), ?_, ?_, trivial⟩
     ·simp only [Bool.not_true, Bool.false_eq_true, if_false, Option.bind_some]
      rw [ac5 (by omega)]
     ·simp only [Bool.true_and, List.drop_succ_cons, List.drop_zero, hlen1, decide_true]
      congr 1
      rw [Bool.eq_iff_iff, decide_eq_true_eq, decide_eq_true_eq]; omega
  | succ i =>
   have h0 : decide (((i + 1 : Nat) : Int) = 0) = false := by simp; omega
   simp only [tail, List.drop_eq_getElem_cons hi, List.all_cons, h0, Bool.false_eq_true, if_false, key2]
   rw [key3]
   cases hlow : bs3 x[i + 1] with
   | true =>
    left
    refine ⟨(), ?_, by simp, trivial⟩
    simp only [Bool.not_true, Bool.false_eq_true, if_false, Option.bind_some]
    rw [ac5 (by omega)]
   | false =>
    simp only [Bool.not_false, if_true, Option.bind_some, Bool.false_or]
    generalize (decide (48 ≤ (x[i + 1].toNat : Int)) && decide ((x[i + 1].toNat : Int) ≤ 57) || (decide ((x[i + 1].toNat : Int) = 45) || decide ((x[i + 1].toNat : Int) = 95))) = q
    cases q with
    | false => right; simp
    | true =>
     left
     refine ⟨(), ?_, by simp, trivial⟩
     simp only [Bool.not_true, Bool.false_eq_true, if_false]
     rw [ac5 (by omega)]
 ·intro _ _
  simp only [ak9, dge, Bool.false_eq_true, if_false]
  cases x with
  | nil => rfl
  | cons c r => simp [tail]
def aw7 (v : Str) : Bool := v.all fun c => !([0, 10, 13] : Str).contains c
theorem ba2 (stops s : Str) : decide ((ag7 stops s : Int) < (List.length s : Int)) = !(s.all fun c => !stops.contains c) := by
 induction s with
 | nil => rfl
 | cons c r ih =>
  unfold ag7
  by_cases hc : stops.contains c = true
  ·rw [if_pos hc]; simp only [List.all_cons, hc]; simp
  ·have hc' : stops.contains c = false := by simpa using hc
   rw [if_neg hc, List.all_cons, hc', Bool.not_false, Bool.true_and, ← ih]
   congr 1
   simp only [List.length_cons, eq_iff_iff]; omega
theorem bf4 {v : Str} (hv : v.length ≤ 9223372036854775807) : at1 v = some (aw7 v) := by
 unfold at1
 refine (af8 v.length (fun (_ : Unit) i => i) (fun s => aj5 v s) (fun i _ => aw7 (v.drop i)) (fun _ _ => True) (s0 := ()) trivial ?_ ?_).trans rfl
 ·intro _ i hi _
  have key : ∀ c : UInt8, ((if (decide ((c.toNat : Int) = 0)) then some true else (if (decide ((c.toNat : Int) = 10)) then some true else some (decide ((c.toNat : Int) = 13)))) : Option Bool) = some (([0, 10, 13] : Str).contains c) := ay3 (by decide +kernel)
  simp only [aj5, dlt hi, if_true, ag5 hi, Option.bind_some, key, aw7, List.drop_eq_getElem_cons hi, List.all_cons]
  cases ([0, 10, 13] : Str).contains v[i] with
  | true => right; simp
  | false =>
   left
   refine ⟨(), ?_, by simp, trivial⟩
   simp only [Bool.false_eq_true, if_false]
   rw [ac5 (by omega)]
 ·intro _ _
  simp [aj5, aw7]
def aq8 (l : List aa0) (n : Str) : Bool := l.any fun b => decide (b.Name = n)
def chk (before : List aa0) (a : aa0) : Int :=
 if (32 : Int) ≤ (List.length before : Int) then 22 else if at7 a.Name = false then 6 else if (a.Query && !decide (a.Value = [])) = true ∨ aw7 a.Value = false then 2 else if (1024 : Int) < (List.length a.Value : Int) then 4 else if aq8 before a.Name = true then 7 else 0
def aU4 {α : Type} (p : α → Bool) : List α → Int
 | [] => -1
 | a :: r => if p a then 0 else if aU4 p r = -1 then -1 else aU4 p r + 1
theorem bA0 {α : Type} (p : α → Bool) (l : List α) : -1 ≤ aU4 p l := by
 induction l with
 | nil => exact Int.le_refl _
 | cons a r ih => simp only [aU4]; split <;> (try split) <;> omega
theorem bI7 {α : Type} (p : α → Bool) (l : List α) : 0 ≤ aU4 p l ↔ l.any p = true := by
 induction l with
 | nil => simp [aU4]
 | cons a r ih =>
  have := bA0 p r
  rw [List.any_cons, Bool.or_eq_true, ← ih]
  simp only [aU4]
  by_cases hp : p a = true
  ·simp [hp]
  ·rw [if_neg hp]
   split
   ·rename_i h; rw [h]; simp [hp]
   ·simp only [hp, false_or]; omega
theorem bI8 {α : Type} (p : α → Bool) (l : List α) : decide (0 ≤ aU4 p l) = l.any p := by
 rw [Bool.eq_iff_iff, decide_eq_true_eq, bI7]
theorem bl0 {α : Type} {p : α → Bool} {a : α} {r : List α} (h : p a = true) : aU4 p (a :: r) = 0 := by simp [aU4, h]
theorem aU5 {α : Type} {p : α → Bool} {a : α} {r : List α} (h : ¬ p a = true) : aU4 p (a :: r) = if aU4 p r = -1 then -1 else aU4 p r + 1 := by simp [aU4, h]
theorem bl1 {α : Type} {p : α → Bool} {l : List α} {body : Int → Option (Step Int Int)} (hl : l.length ≤ 9223372036854775807)
  (hb : ∀ i (h : i < l.length), body (i : Int) = if p l[i] then some (.done (i : Int)) else some (.cont (IntKind.wrap .i64 ((i : Int) + 1)))) (he : body (l.length : Int) = some (.done (-1))) : ad8 body 0 = some (aU4 p l) := by
 refine (af8 l.length (fun (_ : Unit) i => i) body (fun i _ => if aU4 p (l.drop i) = -1 then -1 else (i : Int) + aU4 p (l.drop i)) (fun _ _ => True) (s0 := ()) trivial ?_ ?_).trans ?_
 ·intro _ i hi _
  rw [hb i hi, List.drop_eq_getElem_cons hi]
  have := bA0 p (l.drop (i + 1))
  by_cases hp : p l[i] = true
  ·right; rw [if_pos hp, bl0 hp]; simp
  ·left
   refine ⟨(), ?_, ?_, trivial⟩
   ·rw [if_neg hp, ac5 (by omega)]
   ·rw [aU5 hp]
    by_cases h : aU4 p (l.drop (i + 1)) = -1
    ·simp [h]
    ·rw [if_neg h, if_neg (by omega), if_neg h]; omega
 ·intro _ _
  rw [he]; simp [aU4]
 ·simp only [List.drop_zero]
  congr 1
  split
  ·rename_i h; exact h.symm
  ·simp
theorem bl2 {before : List aa0} {a : aa0} (hb : before.length ≤ 1000000) (hn : a.Name.length ≤ 1000000) (hv : a.Value.length ≤ 1000000) : ap0 before a = some (chk before a) := by
 unfold ap0 chk
 have hix : ac0 before a = some (aU4 (fun b => decide (b.Name = a.Name)) before) := by
  unfold ac0
  refine bl1 (by omega) ?_ ?_
  ·intro i hi
   simp only [ab6, dlt hi, if_true, ac8 hi, Option.bind_some, aB9]
  ·simp [ab6]
 have hc : ab7 before a = some (aq8 before a.Name) := by
  unfold ab7 aq8
  rw [hix, Option.bind_some, bI8]
 simp only [bf3 hn, Option.bind_some, aI3 hv, hc, ba2]
 by_cases h1 : (32 : Int) ≤ (List.length before : Int)
 ·simp [h1]
 ·simp only [h1, decide_false, Bool.false_eq_true, if_false]
  cases at7 a.Name with
  | false => simp
  | true =>
   simp only [Bool.not_true, Bool.false_eq_true, if_false, Bool.true_eq_false]
   cases a.Query && !decide (a.Value = []) with
   | true => simp
   | false =>
    change (if (!aw7 a.Value) = true then _ else _) = _
    cases aw7 a.Value with
    | false => simp
    | true =>
     simp only [Bool.not_true, Bool.false_eq_true, if_false, Bool.true_eq_false, or_self]
     by_cases h4 : (1024 : Int) < (List.length a.Value : Int)
     ·simp [h4]
     ·simp only [h4, decide_false, Bool.false_eq_true, if_false]
      cases aq8 before a.Name <;> simp
theorem bA1 {before : List aa0} {a : aa0} (hb : before.length ≤ 9223372036854775807) (hn : a.Name.length ≤ 9223372036854775807) (hv : a.Value.length ≤ 9223372036854775807) : aI2 before a = some (chk before a) := by
 unfold aI2 chk
 have hloop : ad8 (fun s => ak2 before a s) 0 = some (if aq8 before a.Name = true then (7 : Int) else 0) := by
  refine (af8 before.length (fun (_ : Unit) i => i) (fun s => ak2 before a s) (fun i _ => if aq8 (before.drop i) a.Name = true then (7 : Int) else 0) (fun _ _ => True) (s0 := ()) trivial ?_ ?_).trans rfl
  ·intro _ i hi _
   simp only [ak2, dlt hi, if_true, ac8 hi, Option.bind_some, aq8, List.drop_eq_getElem_cons hi, List.any_cons]
   by_cases h : before[i].Name = a.Name
   ·right; simp [h]
   ·left
    refine ⟨(), ?_, by simp [h], trivial⟩
    simp only [h, decide_false, Bool.false_eq_true, if_false]
    rw [ac5 (by omega)]
  ·intro _ _
   simp [ak2, aq8]
 simp only [br3 hn, Option.bind_some, bf4 hv, hloop]
 by_cases h1 : (32 : Int) ≤ (List.length before : Int)
 ·simp [h1]
 ·simp only [h1, decide_false, Bool.false_eq_true, if_false]
  cases at7 a.Name with
  | false => simp
  | true =>
   simp only [Bool.not_true, Bool.false_eq_true, if_false, Bool.true_eq_false]
   by_cases h4 : (1024 : Int) < (List.length a.Value : Int)
   ·cases a.Query <;> cases hd : decide (a.Value = []) <;> cases aw7 a.Value <;> simp [h4]
   ·cases a.Query <;> cases hd : decide (a.Value = []) <;> cases aw7 a.Value <;> simp [h4]
def okA (a : aa0) : Prop := a.Name.length ≤ 70000 ∧ a.Value.length ≤ 70000
def bgL (l : List aa0) : Prop := l.length ≤ 9223372036854775807 ∧ ∀ a ∈ l, a.Name.length ≤ 9223372036854775807 ∧ a.Value.length ≤ 9223372036854775807
theorem bgL.get {l : List aa0} (h : bgL l) {i : Nat} (hi : i < l.length) : (l[i]).Name.length ≤ 9223372036854775807 ∧ (l[i]).Value.length ≤ 9223372036854775807 := h.2 _ (List.getElem_mem hi)
def okL (l : List aa0) : Prop := l.length ≤ 5000 ∧ ∀ a ∈ l, okA a
def aw8 (before : List aa0) : List aa0 → Int
 | [] => 0
 | a :: r => if chk before a = 0 then aw8 (before ++ [a]) r else chk before a
def aL0 (l : List aa0) : Int := aw8 [] l
theorem okL.get {l : List aa0} (h : okL l) {i : Nat} (hi : i < l.length) : okA l[i] := h.2 _ (List.getElem_mem hi)
theorem bI9 {l : List aa0} (h : okL l) : aD3 l = some (aL0 l) := by
 unfold aD3
 refine (af8 l.length (fun (_ : Unit) i => i) (fun s => an6 l s) (fun i _ => aw8 (l.take i) (l.drop i)) (fun _ _ => True) (s0 := ()) trivial ?_ ?_).trans ?_
 ·intro _ i hi _
  have ha := h.get hi
  have h1 := h.1
  simp only [an6, dlt hi, if_true, ac8 hi, Option.bind_some, aT9 (Nat.le_of_lt hi), bl2 (before := l.take i) (a := l[i]) (by simp; omega) (by have := ha.1; omega) (by have := ha.2; omega), List.drop_eq_getElem_cons hi, aw8]
  by_cases hz : chk (l.take i) l[i] = 0
  ·left
   refine ⟨(), ?_, ?_, trivial⟩
   ·simp only [hz, decide_true, Bool.not_true, Bool.false_eq_true, if_false]
    rw [ac5 (by omega)]
   ·simp only [hz, if_true]
    rw [List.take_succ_eq_append_getElem hi]
  ·right; simp [hz]
 ·intro _ _
  simp [an6, aw8]
 ·simp [aL0]
theorem aU6 {l : List aa0} (h : bgL l) : at2 l = some (aL0 l) := by
 unfold at2
 refine (af8 l.length (fun (_ : Unit) i => i) (fun s => al0 l s) (fun i _ => aw8 (l.take i) (l.drop i)) (fun _ _ => True) (s0 := ()) trivial ?_ ?_).trans ?_
 ·intro _ i hi _
  have ha := h.get hi
  have h1 := h.1
  simp only [al0, dlt hi, if_true, ac8 hi, Option.bind_some, aT9 (Nat.le_of_lt hi), bA1 (before := l.take i) (a := l[i]) (by simp; omega) (by have := ha.1; omega) (by have := ha.2; omega), List.drop_eq_getElem_cons hi, aw8]
  by_cases hz : chk (l.take i) l[i] = 0
  ·left
   refine ⟨(), ?_, ?_, trivial⟩
   ·simp only [hz, decide_true, Bool.not_true, Bool.false_eq_true, if_false]
    rw [ac5 (by omega)]
   ·simp only [hz, if_true]
    rw [List.take_succ_eq_append_getElem hi]
  ·right; simp [hz]
 ·intro _ _
  simp [al0, aw8]
 ·simp [aL0]
def dbl (s : Str) : Str := s.flatMap fun c => if c = 39 then [39, 39] else [c]
def oddB (s : Str) : Bool := decide (s = []) || s.any fun c => ([32, 9, 39] : Str).contains c
def an9 (s : Str) : Str := if oddB s then [39] ++ dbl s ++ [39] else s
theorem bA2 (s : Str) : (dbl s).length ≤ 2 * s.length := by
 induction s with
 | nil => exact Nat.le_refl _
 | cons c r ih =>
  unfold dbl at ih ⊢
  rw [List.flatMap_cons, List.length_append, List.length_cons]
  split <;> simp only [List.length_cons, List.length_nil] <;> omega
theorem aL1 (s : Str) : (an9 s).length ≤ 2 * s.length + 2 := by
 have := bA2 s
 unfold an9
 split <;> simp <;> omega
theorem a41 {c : UInt8} (hc : c ≠ 39) (k : Nat) (s : Str) (hk : k ≤ Go.Lib.count s [39]) : Go.Lib.replaceK [39] [39, 39] k (c :: s) = c :: Go.Lib.replaceK [39] [39, 39] k s := by
 cases k with
 | zero => rfl
 | succ k =>
  obtain ⟨i, hi⟩ := Go.Lib.index_of_count (s := s) (old := [39]) (by omega)
  have hi' : Go.Lib.index (c :: s) [39] = ((i + 1 : Nat) : Int) := by
   have hp : ([39] : Str).isPrefixOf (c :: s) = false := by simp [List.isPrefixOf, Ne.symm hc]
   rw [Go.Lib.index, hp, hi]
   have : ((i : Int) == -1) = false := by rw [beq_eq_false_iff_ne]; omega
   simp [this]
  rw [Go.Lib.replaceK_hit _ _ _ _ _ hi, Go.Lib.replaceK_hit _ _ _ _ _ hi']
  simp [Nat.add_right_comm]
theorem bf5 (s : Str) : Go.Lib.replaceK [39] [39, 39] (Go.Lib.count s [39]) s = dbl s := by
 induction s with
 | nil => rw [Go.Lib.count_one]; rfl
 | cons c r ih =>
  by_cases hc : c = 39
  ·subst hc
   have hi : Go.Lib.index (39 :: r) [39] = ((0 : Nat) : Int) := by rw [Go.Lib.index]; simp [List.isPrefixOf]
   rw [Go.Lib.count_cons_eq, Nat.add_comm 1, Go.Lib.replaceK_hit _ _ _ _ _ hi]
   simp only [List.take_zero, List.nil_append, Nat.zero_add, List.length_cons, List.length_nil, List.drop_succ_cons, List.drop_zero, ih]
   unfold dbl
   rw [List.flatMap_cons, if_pos rfl]
  ·rw [Go.Lib.count_cons_ne _ _ _ hc, a41 hc _ _ (Nat.le_refl _), ih]
   unfold dbl
   rw [List.flatMap_cons, if_neg hc]; rfl
theorem a42 {s : Str} (hs : s.length ≤ 1000000) : strings_ReplaceAll s [39] [39, 39] = some (dbl s) := by
 have hc : Go.Lib.count s [39] ≤ s.length := by rw [Go.Lib.count_one]; exact List.count_le_length
 unfold strings_ReplaceAll ay2
 rw [if_pos ⟨by omega, by simp, by simp; omega⟩]
 unfold Go.Lib.replaceAll Go.Lib.replace
 rw [if_neg (by decide)]
 have : Go.Lib.replaceNum s [39] (-1) = Go.Lib.count s [39] := by unfold Go.Lib.replaceNum; rw [if_pos (Or.inl (by omega))]
 rw [this, bf5]
theorem bJ0 {s : Str} (hs : s.length ≤ 1000000) : aD4 s = some (an9 s) := by
 unfold aD4
 have hd := bA2 s
 have c1 : aM7 [39] (dbl s) = some ([39] ++ dbl s) := ar7 (by simp; omega)
 have c2 : aM7 ([39] ++ dbl s) [39] = some ([39] ++ dbl s ++ [39]) := ar7 (by simp; omega)
 have hu := aC0 [32, 9, 39] s
 have ha := ba2 [32, 9, 39] s
 have hany : (s.any fun c => ([32, 9, 39] : Str).contains c) = !(s.all fun c => !([32, 9, 39] : Str).contains c) := by
  rw [List.any_eq_not_all_not]
 have hdd : decide ((ag7 [32, 9, 39] s : Int) = (List.length s : Int)) = (s.all fun c => !([32, 9, 39] : Str).contains c) := by
  cases h : s.all fun c => !([32, 9, 39] : Str).contains c with
  | true => rw [h] at ha; simp only [Bool.not_true, decide_eq_false_iff_not] at ha; simp; omega
  | false => rw [h] at ha; simp only [Bool.not_false, decide_eq_true_eq] at ha; simp; omega
 simp only [aI3 hs, Option.bind_some, a42 hs, c1, c2, hdd]
 unfold an9 oddB
 rw [hany]
 cases h : s.all fun c => !([32, 9, 39] : Str).contains c <;> cases hn : decide (s = []) <;> simp
def aw9 (a : aa0) : Str := if a.Query then a.Name ++ [63] else a.Name ++ [61] ++ an9 a.Value
theorem bl3 {a : aa0} (h : okA a) : (aw9 a).length ≤ 210003 := by
 have := aL1 a.Value
 have h1 := h.1
 have h2 := h.2
 unfold aw9
 split <;> simp <;> omega
def ak5 (l : List aa0) : Str := Go.Lib.join (l.map aw9) [32]
theorem bl4 {K : Nat} {sep : Str} : ∀ {l : List Str}, (∀ x ∈ l, x.length ≤ K) → (Go.Lib.join l sep).length ≤ l.length * (K + sep.length)
 | [], _ => by simp [Go.Lib.join_nil]
 | x :: r, h => by
  rw [Go.Lib.join_cons, List.length_append]
  have hx := h x (by simp)
  have : ∀ r : List Str, (∀ y ∈ r, y.length ≤ K) → (Go.Lib.joinTail sep r).length ≤ r.length * (K + sep.length) := by
   intro r
   induction r with
   | nil => intro _; simp [Go.Lib.joinTail]
   | cons y r ih =>
    intro h
    have h1 := ih fun z hz => h z (List.mem_cons_of_mem _ hz)
    have h2 := h y (by simp)
    unfold Go.Lib.joinTail at h1 ⊢
    rw [List.map_cons, List.flatten_cons, List.length_append, List.length_append, List.length_cons, Nat.add_mul, Nat.one_mul]
    omega
  have := this r fun z hz => h z (List.mem_cons_of_mem _ hz)
  rw [List.length_cons, Nat.add_mul, Nat.one_mul]
  omega
theorem bA3 {l : List aa0} (h : okL l) (i : Nat) : (Go.Lib.join ((l.take i).map aw9) [32]).length ≤ 1050020000 := by
 have h1 := bl4 (K := 210003) (sep := [32]) (l := (l.take i).map aw9) (by
  intro x hx
  obtain ⟨a, ha, rfl⟩ := List.mem_map.1 hx
  exact bl3 (h.2 a (List.mem_of_mem_take ha)))
 have h2 := h.1
 simp only [List.length_map, List.length_take, List.length_cons, List.length_nil] at h1
 have : min i l.length * (210003 + (0 + 1)) ≤ 5000 * 210004 := Nat.mul_le_mul (by omega) (by omega)
 omega
theorem bJ1 {l : List aa0} (h : okL l) : aD5 l = some (if aL0 l = 0 then (ak5 l, 0) else ([], aL0 l)) := by
 unfold aD5
 rw [bI9 h, Option.bind_some]
 by_cases hz : aL0 l = 0
 ·have hl := h.1
  have hmk : mkC 16 ([] : Str) 0 (List.length l : Int) = some [] := by
   unfold mkC
   rw [if_pos ⟨by omega, by omega, by omega, by omega⟩]; rfl
  simp only [hz, decide_true, Bool.not_true, Bool.false_eq_true, if_false, if_true, hmk, Option.bind_some]
  refine (af8 (τ := Int × List Str) l.length (fun (x : List Str) i => (i, x)) (fun x => al2 l x.1 x.2) (fun i _ => (ak5 l, 0)) (fun i x => x = (l.take i).map aw9) (s0 := []) (by simp) ?_ ?_).trans rfl
  ·rintro x i hi rfl
   left
   have ha := h.get hi
   have h1 := ha.1
   have h2 := ha.2
   have hw : IntKind.wrap .i64 ((i : Int) + 1) = (i : Int) + 1 := ac5 (by omega)
   have hq := aL1 l[i].Value
   have c1 : aM7 l[i].Name [63] = some (l[i].Name ++ [63]) := ar7 (by simp; omega)
   have c2 : aM7 l[i].Name [61] = some (l[i].Name ++ [61]) := ar7 (by simp; omega)
   have c3 : aM7 (l[i].Name ++ [61]) (an9 l[i].Value) = some (l[i].Name ++ [61] ++ an9 l[i].Value) := ar7 (by simp; omega)
   have ap : ∀ y : Str, aM8 16 ((l.take i).map aw9) [y] = some ((l.take i).map aw9 ++ [y]) := fun y => ar4 (by simp; omega) (by simp; omega)
   refine ⟨(l.take (i + 1)).map aw9, ?_, rfl, rfl⟩
   simp only [al2, dlt hi, if_true, ac8 hi, Option.bind_some, c1, c2, bJ0 (s := l[i].Value) (by omega), c3, ap, hw]
   rw [List.take_succ_eq_append_getElem hi, List.map_append, List.map_cons, List.map_nil]
   unfold aw9
   cases l[i].Query <;> simp
  ·rintro x rfl
   have hj : strings_Join (l.map aw9) [32] = some (ak5 l) := by
    unfold strings_Join ak5
    have := bA3 h l.length
    rw [List.take_length] at this
    exact bf1 (by simp; omega) (by omega)
   simp only [al2, dge, Bool.false_eq_true, if_false, av2, List.take_length, hj, Option.bind_some, Option.map_some]
 ·simp [hz]
def ad7 : Str → Option (Str × Nat)
 | [] => none
 | [c] => if c = 39 then some ([], 1) else none
 | c :: d :: r => if c = 39 then (if d = 39 then (ad7 r).map fun x => (39 :: x.1, x.2 + 2) else some ([], 1)) else (ad7 (d :: r)).map fun x => (c :: x.1, x.2 + 1)
theorem a03 {c : UInt8} {r : Str} (h : c ≠ 39) : ad7 (c :: r) = (ad7 r).map fun x => (c :: x.1, x.2 + 1) := by
 cases r with
 | nil => simp [ad7, h]
 | cons d r => rw [ad7, if_neg h]
theorem aN4 {r : Str} (h : r.head? ≠ some 39) : ad7 (39 :: r) = some ([], 1) := by
 cases r with
 | nil => rfl
 | cons d r =>
  have : d ≠ 39 := by simpa using h
  rw [ad7, if_pos rfl, if_neg this]
theorem aU7 {r : Str} : ad7 (39 :: 39 :: r) = (ad7 r).map fun x => (39 :: x.1, x.2 + 2) := by
 rw [ad7, if_pos rfl, if_pos rfl]
theorem is39 (c : UInt8) : decide ((c.toNat : Int) = 39) = decide (c = 39) := isC c 39
theorem bf6 (s : Str) (i : Nat) (hi : i ≤ s.length) : i = s.length ∨ ∃ h : i < s.length, (s[i] ≠ 39 ∧ ad7 (s.drop i) = (ad7 (s.drop (i + 1))).map fun x => (s[i] :: x.1, x.2 + 1)) ∨
  (s[i] = 39 ∧ (i + 1 = s.length ∨ ∃ h2 : i + 1 < s.length, s[i + 1] ≠ 39) ∧ ad7 (s.drop i) = some ([], 1)) ∨
  (s[i] = 39 ∧ (∃ h2 : i + 1 < s.length, s[i + 1] = 39) ∧ ad7 (s.drop i) = (ad7 (s.drop (i + 2))).map fun x => (39 :: x.1, x.2 + 2)) := by
 rcases Nat.lt_or_ge i s.length with h | h
 ·right
  refine ⟨h, ?_⟩
  rw [List.drop_eq_getElem_cons h]
  by_cases hc : s[i] = 39
  ·right
   rcases Nat.lt_or_ge (i + 1) s.length with h2 | h2
   ·by_cases hd : s[i + 1] = 39
    ·right
     refine ⟨hc, ⟨h2, hd⟩, ?_⟩
     rw [hc, List.drop_eq_getElem_cons h2, hd, aU7]
    ·left
     refine ⟨hc, Or.inr ⟨h2, hd⟩, ?_⟩
     rw [hc, List.drop_eq_getElem_cons h2]
     exact aN4 fun e => hd (Option.some.inj e)
   ·left
    refine ⟨hc, Or.inl (by omega), ?_⟩
    rw [hc, List.drop_of_length_le h2]; rfl
  ·left
   exact ⟨hc, a03 hc⟩
 ·left; omega
theorem bA4 {s : Str} (hs : s.length ≤ 1000000) : az0 s = some (match ad7 s with | some x => (x.1, (x.2 : Int), true) | none => ([], 0, false)) := by
 unfold az0
 refine (aK8 (σ := Nat × Str) (fun x => af9 s x.1 x.2) (fun x => ((x.1 : Int), x.2)) (fun x => match ad7 (s.drop x.1) with | some y => (x.2 ++ y.1, ((x.1 + y.2 : Nat) : Int), true) | none => ([], 0, false)) (fun x => s.length - x.1)
  (fun x => x.1 ≤ s.length ∧ x.2.length ≤ x.1) ?_ (s0 := (0, [])) ⟨by simp, by simp⟩).trans ?_
 ·rintro ⟨i, acc⟩ ⟨h1, h2⟩
  simp only at h1 h2
  rcases bf6 s i h1 with he | ⟨h, hcase⟩
  ·right
   subst he
   simp [af9, ad7]
  ·have hw : IntKind.wrap .i64 ((i : Int) + 1) = (i : Int) + 1 := ac5 (by omega)
   have hw2 : IntKind.wrap .i64 ((i : Int) + 1 + 1) = ((i + 2 : Nat) : Int) := by rw [an8 (by omega) (by omega)]; omega
   have b1 : ∀ c : UInt8, bAdd acc [c] = some (acc ++ [c]) := fun c => br1 (by simp; omega)
   rcases hcase with ⟨hc, hq⟩ | ⟨hc, hn, hq⟩ | ⟨hc, ⟨h3, hd⟩, hq⟩
   ·left
    refine ⟨(i + 1, acc ++ [s[i]]), ?_, ?_, ⟨by simp only; omega, by simp; omega⟩, by simp only; omega⟩
    ·simp only [af9, dlt h, if_true, ag5 h, Option.bind_some, is39, hc, decide_false, Bool.not_false, b1, hw]
     rfl
    ·simp only [hq]
     cases ad7 (s.drop (i + 1)) with
     | none => rfl
     | some y => simp; omega
   ·right
    simp only [af9, dlt h, if_true, ag5 h, Option.bind_some, is39, hc, decide_true, Bool.not_true, Bool.false_eq_true, if_false, hw, hq]
    rcases hn with h3 | ⟨h3, hd⟩
    ·have : (i : Int) + 1 = (List.length s : Int) := by omega
     simp [this]
    ·have h4 : ¬ ((i : Int) + 1 = (List.length s : Int)) := by omega
     have h5 : aj4 s ((i : Int) + 1) = some s[i + 1] := by
      have := ag5 h3
      rwa [show ((i + 1 : Nat) : Int) = (i : Int) + 1 by omega] at this
     simp [h4, h5, is39, hd]
   ·left
    have h4 : ¬ ((i : Int) + 1 = (List.length s : Int)) := by omega
    have h5 : aj4 s ((i : Int) + 1) = some s[i + 1] := by
     have := ag5 h3
     rwa [show ((i + 1 : Nat) : Int) = (i : Int) + 1 by omega] at this
    refine ⟨(i + 2, acc ++ [39]), ?_, ?_, ⟨by simp only; omega, by simp; omega⟩, by simp only; omega⟩
    ·simp only [af9, dlt h, if_true, ag5 h, Option.bind_some, is39, hc, decide_true, Bool.not_true, Bool.false_eq_true, if_false, hw, h4, decide_false, h5, hd, b1, hw2]
    ·simp only [hq]
     cases ad7 (s.drop (i + 2)) with
     | none => rfl
     | some y => simp; omega
 ·simp only [List.drop_zero]
  cases ad7 s <;> simp
def aA0 (c : UInt8) : Bool := decide ((c.toNat : Int) = 32) || decide ((c.toNat : Int) = 9)
def bf7 (s : Str) : Bool := match s with
 | [] => true
 | c :: _ => aA0 c
def bad (e : Int) : aa0 × Nat × Int := (⟨[], [], false⟩, 0, e)
def fin (s : Str) (a : aa0) (n : Nat) : aa0 × Nat × Int := if bf7 (s.drop n) then (a, n, 0) else bad 2
def valS (s nm : Str) (n : Nat) (r : Str) : aa0 × Nat × Int := if (r.take (ag7 [32, 9] r)).contains 39 then bad 2 else fin s ⟨nm, r.take (ag7 [32, 9] r), false⟩ (n + (1 + ag7 [32, 9] r))
def bQ3 (s nm : Str) (n : Nat) : Str → aa0 × Nat × Int
 | [] => bad 2
 | c :: r => if c = 63 then fin s ⟨nm, [], true⟩ (n + 1) else if c = 61 then
  (if ([39] : Str).isPrefixOf r then (match ad7 (r.drop 1) with | none => bad 48 | some x => fin s ⟨nm, x.1, false⟩ (n + (2 + x.2))) else valS s nm n r) else bad 2
def aA1 : Str := [32, 9, 61, 63, 39]
def aU8 (s : Str) : aa0 × Nat × Int := bQ3 s (s.take (ag7 aA1 s)) (ag7 aA1 s) (s.drop (ag7 aA1 s))
theorem a43 {s nm v : Str} {n : Nat} {q : Bool} (hn : n ≤ s.length) : ap1 s nm (n : Int) v q = some ((fin s ⟨nm, v, q⟩ n).1, ((fin s ⟨nm, v, q⟩ n).2.1 : Int), (fin s ⟨nm, v, q⟩ n).2.2) := by
 unfold ap1 fin
 rcases Nat.lt_or_ge n s.length with h | h
 ·simp only [dlt h, if_true, ag5 h, Option.bind_some, aw5, List.drop_eq_getElem_cons h, bf7]
  change (if (!aA0 s[n]) = true then _ else _) = _
  cases aA0 s[n] <;> rfl
 ·have : n = s.length := by omega
  subst this
  simp [bf7]
theorem az2 : ∀ (s : Str) (x : Str × Nat), ad7 s = some x → x.1.length ≤ x.2 ∧ 1 ≤ x.2 ∧ x.2 ≤ s.length
 | [], x, h => by simp [ad7] at h
 | [c], x, h => by
  unfold ad7 at h
  split at h
  ·cases h; simp
  ·cases h
 | c :: d :: r, x, h => by
  rw [ad7] at h
  split at h
  ·split at h
   ·obtain ⟨y, hy, rfl⟩ := Option.map_eq_some_iff.1 h
    have := az2 r y hy
    simp; omega
   ·cases h; simp
  ·obtain ⟨y, hy, rfl⟩ := Option.map_eq_some_iff.1 h
   have := az2 (d :: r) y hy
   simp at this ⊢; omega
theorem bU6 {s : Str} (hs : s.length ≤ 1000000) : aO9 s = some ((aU8 s).1, ((aU8 s).2.1 : Int), (aU8 s).2.2) := by
 unfold aO9 aU8
 have hn := aC0 aA1 s
 have hu : ai7 s [32, 9, 61, 63, 39] = some (ag7 aA1 s : Int) := aI3 hs
 rw [hu, Option.bind_some]
 generalize ag7 aA1 s = n at hn ⊢
 rw [aT9 hn, Option.bind_some, ay4 hn, Option.bind_some]
 generalize hr : s.drop n = rest
 have hlen : rest.length = s.length - n := by rw [← hr, List.length_drop]
 simp only [aI4, Option.bind_some]
 cases rest with
 | nil => simp [List.isPrefixOf, bQ3, bad]
 | cons c r =>
  simp only [List.length_cons] at hlen
  unfold bQ3
  by_cases h63 : c = 63
  ·subst h63
   have hw : IntKind.wrap .i64 ((n : Int) + 1) = ((n + 1 : Nat) : Int) := by rw [an8 (by omega) (by omega)]; omega
   simp only [List.isPrefixOf, BEq.rfl, Bool.and_true, if_true, hw]
   exact a43 (by omega)
  ·have e63 : ((63 : UInt8) == c) = false := by simpa using Ne.symm h63
   simp only [List.isPrefixOf, e63, Bool.false_and, Bool.false_eq_true, if_false, h63]
   by_cases h61 : c = 61
   ·subst h61
    simp only [BEq.rfl, Bool.true_and, if_true]
    cases r with
    | nil =>
     have hu2 : ai7 [61] [32, 9] = some (1 : Int) := aI3 (by simp)
     have hcut : cut ([61] : Str) 1 1 = some [] := rfl
     have hcon : strings_Contains [] [39] = some false := rfl
     have hw : IntKind.wrap .i64 ((n : Int) + 1) = ((n + 1 : Nat) : Int) := by rw [an8 (by omega) (by omega)]; omega
     simp only [List.isPrefixOf, Bool.false_eq_true, if_false, hu2, Option.bind_some, hcut, hcon, hw]
     exact a43 (by simp at hlen; omega)
    | cons d r2 =>
     simp only [List.isPrefixOf, Bool.and_true]
     by_cases h39 : d = 39
     ·subst h39
      have hcut : cut (61 :: 39 :: r2) 2 (List.length (61 :: 39 :: r2) : Int) = some r2 := by
       have := ay4 (l := (61 :: 39 :: r2 : Str)) (a := 2) (by simp)
       simpa using this
      simp only [List.length_cons] at hlen
      have hcut' : cut (61 :: 39 :: r2) 2 (List.length (61 :: 39 :: r2) : Int) = some r2 := hcut
      simp only [BEq.rfl, if_true, hcut', Option.bind_some, bA4 (s := r2) (by omega), List.drop_succ_cons, List.drop_zero]
      cases hq : ad7 r2 with
      | none => simp [bad]
      | some x =>
       have hx := az2 r2 x hq
       have hw1 : IntKind.wrap .i64 (2 + (x.2 : Int)) = 2 + (x.2 : Int) := an8 (by omega) (by omega)
       have hw2 : IntKind.wrap .i64 ((n : Int) + (2 + (x.2 : Int))) = ((n + (2 + x.2) : Nat) : Int) := by rw [an8 (by omega) (by omega)]; omega
       simp only [Bool.not_true, Bool.false_eq_true, if_false, hw1, hw2]
       exact a43 (by omega)
     ·have e39 : ((39 : UInt8) == d) = false := by simpa using Ne.symm h39
      simp only [List.length_cons] at hlen
      have hu2 : ai7 (61 :: d :: r2) [32, 9] = some ((ag7 [32, 9] (d :: r2) + 1 : Nat) : Int) := by
       rw [aI3 (by simp; omega), ag7]; rfl
      have hle := aC0 [32, 9] (d :: r2)
      simp only [List.length_cons] at hle
      simp only [e39, Bool.false_eq_true, if_false, hu2, Option.bind_some]
      unfold valS
      generalize ag7 [32, 9] (d :: r2) = k at hle ⊢
      have hcut : cut (61 :: d :: r2) 1 ((k + 1 : Nat) : Int) = some ((d :: r2).take k) := by
       have := a36 (l := (61 :: d :: r2 : Str)) (a := 1) (b := k + 1) (by omega) (by simp; omega)
       simpa using this
      have hcon : strings_Contains ((d :: r2).take k) [39] = some (((d :: r2).take k).contains 39) := by
       unfold strings_Contains strings_Index bj8
       rw [Option.bind_some, bM9]
      have hw : IntKind.wrap .i64 ((n : Int) + ((k + 1 : Nat) : Int)) = ((n + (1 + k) : Nat) : Int) := by rw [an8 (by omega) (by omega)]; omega
      simp only [hcut, Option.bind_some, hcon, hw]
      cases hc : ((d :: r2).take k).contains 39 with
      | true => simp [bad]
      | false =>
       simp only [Bool.false_eq_true, if_false]
       exact a43 (by omega)
   ·have e61 : ((61 : UInt8) == c) = false := by simpa using Ne.symm h61
    simp [e61, h61, bad]
theorem bA5 (c : UInt8) : aA0 c = ([32, 9] : Str).contains c := by
 revert c; exact fun c => ay3 (f := aA0) (g := fun c => ([32, 9] : Str).contains c) (by decide +kernel) c
def agree (x : aa0 × Int × Int) (at_ : Nat) (o : aa0 × Nat × Int) : Prop := x.2.2 = o.2.2 ∧ (o.2.2 = 0 → x.1 = o.1 ∧ x.2.1 = ((at_ + o.2.1 : Nat) : Int))
def aX6 (out : List aa0) (o : aa0 × Nat × Int) : Int := if o.2.2 = 0 then chk out o.1 else o.2.2
def al9 : Nat → List aa0 → Nat → Str → List aa0 × Int × Int
 | 0, out, _, _ => (out, 0, 0)
 | _ + 1, out, _, [] => (out, 0, 0)
 | f + 1, out, i, c :: r => if aA0 c then al9 f out (i + 1) r else if aX6 out (aU8 (c :: r)) = 0 then al9 f (out ++ [(aU8 (c :: r)).1]) (i + (aU8 (c :: r)).2.1) ((c :: r).drop (aU8 (c :: r)).2.1) else ([], (i : Int), aX6 out (aU8 (c :: r)))
def bl5 (s : Str) : List aa0 × Int × Int := al9 (s.length + 1) [] 0 s
theorem aU9 {s : Str} {a : aa0} {n : Nat} (h : (fin s a n).2.2 = 0) : fin s a n = (a, n, 0) := by
 unfold fin at h ⊢
 split
 ·rfl
 ·rename_i hc; rw [if_neg hc] at h; simp [bad] at h
theorem bA6 {s : Str} (h : (aU8 s).2.2 = 0) : 1 ≤ (aU8 s).2.1 ∧ (aU8 s).2.1 ≤ s.length ∧ (aU8 s).1.Name.length ≤ s.length ∧ (aU8 s).1.Value.length ≤ s.length := by
 unfold aU8 at h ⊢
 have hn := aC0 aA1 s
 generalize ag7 aA1 s = n at hn h ⊢
 generalize hr : s.drop n = rest at h ⊢
 have hlen : rest.length = s.length - n := by rw [← hr, List.length_drop]
 cases rest with
 | nil => simp [bQ3, bad] at h
 | cons c r =>
  simp only [List.length_cons] at hlen
  simp only [bQ3] at h ⊢
  split at h
  ·rename_i hc
   rw [if_pos hc, aU9 h]; simp; omega
  ·rename_i hc
   rw [if_neg hc]
   split at h
   ·rename_i h61
    rw [if_pos h61]
    split at h
    ·rename_i hp
     rw [if_pos hp]
     cases hq : ad7 (r.drop 1) with
     | none => rw [hq] at h; simp [bad] at h
     | some x =>
      rw [hq] at h
      simp only at h ⊢
      have hx := az2 _ x hq
      rw [List.length_drop] at hx
      rw [aU9 h]; simp; omega
    ·rename_i hp
     rw [if_neg hp]
     unfold valS at h ⊢
     have hu := aC0 [32, 9] r
     split at h
     ·simp [bad] at h
     ·rename_i hq
      rw [if_neg hq, aU9 h]; simp; omega
   ·simp [bad] at h
theorem br4 {f i : Nat} {out : List aa0} {s : Str} (h : i < s.length) : al9 (f + 1) out i (s.drop i) = if aA0 s[i] then al9 f out (i + 1) (s.drop (i + 1)) else
  if aX6 out (aU8 (s.drop i)) = 0 then al9 f (out ++ [(aU8 (s.drop i)).1]) (i + (aU8 (s.drop i)).2.1) (s.drop (i + (aU8 (s.drop i)).2.1)) else ([], (i : Int), aX6 out (aU8 (s.drop i))) := by
 conv => lhs; rw [List.drop_eq_getElem_cons h, al9]
 rw [← List.drop_eq_getElem_cons h, List.drop_drop]
theorem bJ2 {s : Str} (hs : s.length ≤ 1000000) : aw6 s = some (bl5 s) := by
 unfold aw6
 refine (aK8 (σ := Nat × Nat × List aa0) (fun x => al5 s x.1 x.2) (fun x => ((x.2.1 : Int), x.2.2)) (fun x => al9 x.1 x.2.2 x.2.1 (s.drop x.2.1)) (fun x => x.1)
  (fun x => x.2.1 ≤ s.length ∧ s.length - x.2.1 < x.1 ∧ x.2.2.length ≤ x.2.1) ?_ (s0 := (s.length + 1, 0, [])) ⟨by simp, by simp, by simp⟩).trans ?_
 ·rintro ⟨f, i, out⟩ ⟨h1, h2, h3⟩
  simp only at h1 h2 h3
  obtain ⟨f, rfl⟩ : ∃ g, f = g + 1 := ⟨f - 1, by omega⟩
  have hb : ∀ c : UInt8, aw5 (c.toNat : Int) = some (aA0 c) := fun c => rfl
  rcases Nat.lt_or_ge i s.length with h | h
  ·have hw : IntKind.wrap .i64 ((i : Int) + 1) = ((i + 1 : Nat) : Int) := by rw [an8 (by omega) (by omega)]; omega
   have hso : (s.drop i).length ≤ 1000000 := by rw [List.length_drop]; omega
   simp only [al5, dlt h, if_true, ag5 h, Option.bind_some, hb, ay4 h1, bU6 hso, br4 h]
   cases hbl : aA0 s[i] with
   | true =>
    left
    refine ⟨(f, i + 1, out), ?_, rfl, ⟨by simp only; omega, by simp only; omega, by simp only; omega⟩, by simp⟩
    simp only [if_true, hw]
   | false =>
    simp only [Bool.false_eq_true, if_false]
    generalize ho : aU8 (s.drop i) = o
    have hof : o.2.2 = 0 → 1 ≤ o.2.1 ∧ o.2.1 ≤ (s.drop i).length ∧ o.1.Name.length ≤ (s.drop i).length ∧ o.1.Value.length ≤ (s.drop i).length := by
     intro hz; rw [← ho] at hz ⊢; exact bA6 hz
    rw [List.length_drop] at hof
    by_cases hz : o.2.2 = 0
    ·obtain ⟨g1, g2, g3, g4⟩ := hof hz
     have hck : ap0 out o.1 = some (chk out o.1) := bl2 (by omega) (by omega) (by omega)
     have hst : aX6 out o = chk out o.1 := by unfold aX6; rw [if_pos hz]
     have hw2 : IntKind.wrap .i64 ((i : Int) + (o.2.1 : Int)) = ((i + o.2.1 : Nat) : Int) := by rw [an8 (by omega) (by omega)]; omega
     have hap : aM8 40 out [o.1] = some (out ++ [o.1]) := ar4 (by simp; omega) (by simp; omega)
     simp only [hz, decide_true, if_true, hck, Option.bind_some, al4, hst, hap, hw2]
     by_cases hc : chk out o.1 = 0
     ·left
      refine ⟨(f, i + o.2.1, out ++ [o.1]), ?_, ?_, ⟨by simp only; omega, by simp only; omega, by simp; omega⟩, by simp⟩
      ·simp only [hc, decide_true, Bool.not_true, Bool.false_eq_true, if_false]
      ·simp only [hc, if_true]
     ·right
      simp only [hc, decide_false, Bool.not_false, if_true, if_false]
    ·right
     have hst : aX6 out o = o.2.2 := by unfold aX6; rw [if_neg hz]
     simp only [hz, decide_false, Bool.false_eq_true, if_false, al4, Bool.not_false, if_true, hst]
  ·right
   have : i = s.length := by omega
   subst this
   simp only [al5, dge, Bool.false_eq_true, if_false, List.drop_length, al9]
 ·rfl
def br5 (name : Str) (a : aa0) : Bool := !a.Query && decide (a.Name = name)
def aV0 (name : Str) : List aa0 → Str × Bool
 | [] => ([], false)
 | a :: r => if br5 name a then (a.Value, true) else aV0 name r
theorem bA7 {α : Type} (p : α → Bool) (l : List α) : (aU4 p l = -1 ∧ ∀ a ∈ l, p a = false) ∨ ∃ i, ∃ h : i < l.length, aU4 p l = (i : Int) ∧ p l[i] = true ∧ ∀ a ∈ l.take i, p a = false := by
 induction l with
 | nil => left; exact ⟨rfl, by simp⟩
 | cons a r ih =>
  by_cases hp : p a = true
  ·right; exact ⟨0, by simp, bl0 hp, hp, by simp⟩
  ·have hp' := Bool.eq_false_iff.2 hp
   rcases ih with ⟨h1, h2⟩ | ⟨i, h, h1, h2, h3⟩
   ·left
    refine ⟨by rw [aU5 hp, if_pos h1], ?_⟩
    intro x hx
    rcases List.mem_cons.1 hx with rfl | hx
    ·exact hp'
    ·exact h2 x hx
   ·right
    refine ⟨i + 1, by simpa using h, ?_, by simpa using h2, ?_⟩
    ·rw [aU5 hp, h1, if_neg (by omega)]; omega
    ·intro x hx
     rw [List.take_succ_cons] at hx
     rcases List.mem_cons.1 hx with rfl | hx
     ·exact hp'
     ·exact h3 x hx
theorem bA8 {name : Str} {a : aa0} {r : List aa0} (h : br5 name a = true) : aV0 name (a :: r) = (a.Value, true) := by simp [aV0, h]
theorem br6 {name : Str} {a : aa0} {r : List aa0} (h : ¬ br5 name a = true) : aV0 name (a :: r) = aV0 name r := by simp [aV0, h]
theorem aL2 {l : List aa0} {name : Str} (hl : l.length ≤ 9223372036854775807) : ar8 l name = some (aV0 name l) := by
 unfold ar8
 refine (af8 l.length (fun (_ : Unit) i => i) (fun s => ak3 l name s) (fun i _ => aV0 name (l.drop i)) (fun _ _ => True) (s0 := ()) trivial ?_ ?_).trans rfl
 ·intro _ i hi _
  have hbody : ak3 l name (i : Int) = if br5 name l[i] then some (.done (l[i].Value, true)) else some (.cont ((i : Int) + 1)) := by
   simp only [ak3, dlt hi, if_true, ac8 hi, Option.bind_some]
   rw [ac5 (by omega), show br5 name l[i] = (!l[i].Query && decide (l[i].Name = name)) from rfl]
   by_cases h : l[i].Name = name <;> cases hq : l[i].Query <;> simp [h]
  rw [hbody, List.drop_eq_getElem_cons hi]
  by_cases hf : br5 name l[i] = true
  ·right; rw [if_pos hf, bA8 hf]
  ·left; rw [if_neg hf, br6 hf]; exact ⟨(), rfl, rfl, trivial⟩
 ·intro _ _
  simp [ak3, aV0]
theorem a44 {l : List aa0} (hl : l.length ≤ 1000000) : aa6 l = some l := by
 unfold aa6
 rw [ar4 (by simp; omega) (by simp; omega)]; rfl
theorem bJ3 {α : Type} {p : α → Bool} {l : List α} {body : Int × Int × List α → Option (Step (Int × Int × List α) (List α))} (hl : l.length ≤ 1000000)
  (hb : ∀ (i j : Nat) (s : List α) (hi : i < s.length) (hj : j < s.length), body ((i : Int), (j : Int), s) = if !p s[j] then some (.cont (IntKind.wrap .i64 ((i : Int) + 1), IntKind.wrap .i64 ((j : Int) + 1), s.set i s[j])) else some (.cont ((i : Int), IntKind.wrap .i64 ((j : Int) + 1), s)))
  (he : ∀ (i : Nat) (s : List α), i ≤ s.length → body ((i : Int), (s.length : Int), s) = some (.done (s.take i))) {i0 : Nat} (h0 : i0 < l.length) (hp0 : p l[i0] = true) (hbef : ∀ a ∈ l.take i0, p a = false) :
  ad8 body ((i0 : Int), IntKind.wrap .i64 ((i0 : Int) + 1), l) = some (l.filter fun a => !p a) := by
 have hw0 : IntKind.wrap .i64 ((i0 : Int) + 1) = ((i0 + 1 : Nat) : Int) := by rw [an8 (by omega) (by omega)]; omega
 rw [hw0]
 have hf0 : (l.take (i0 + 1)).filter (fun a => !p a) = l.take i0 := by
  rw [List.take_succ_eq_append_getElem h0, List.filter_append, List.filter_eq_self.2 (fun a ha => by simp [hbef a ha])]
  simp [hp0]
 refine (aK8 (σ := Nat × Nat × List α) body (fun x => ((x.1 : Int), (x.2.1 : Int), x.2.2)) (fun _ => l.filter fun a => !p a) (fun x => l.length - x.2.1)
  (fun x => x.1 < x.2.1 ∧ x.2.1 ≤ l.length ∧ x.2.2.length = l.length ∧ x.2.2.take x.1 = (l.take x.2.1).filter (fun a => !p a) ∧ x.2.2.drop x.2.1 = l.drop x.2.1) ?_ (s0 := (i0, i0 + 1, l)) ⟨by simp, by simp only; omega, rfl, by simp only; exact hf0.symm, rfl⟩).trans rfl
 rintro ⟨i, j, s⟩ ⟨h1, h2, h3, h4, h5⟩
 simp only at h1 h2 h3 h4 h5
 rcases Nat.lt_or_ge j l.length with hj | hj
 ·left
  have hjs : j < s.length := by omega
  have hwi : IntKind.wrap .i64 ((i : Int) + 1) = ((i + 1 : Nat) : Int) := by rw [an8 (by omega) (by omega)]; omega
  have hwj : IntKind.wrap .i64 ((j : Int) + 1) = ((j + 1 : Nat) : Int) := by rw [an8 (by omega) (by omega)]; omega
  have hsj : s[j] = l[j] := by
   rw [List.drop_eq_getElem_cons hjs, List.drop_eq_getElem_cons hj] at h5
   exact (List.cons.inj h5).1
  have h5' : s.drop (j + 1) = l.drop (j + 1) := by
   rw [List.drop_eq_getElem_cons hjs, List.drop_eq_getElem_cons hj] at h5
   exact (List.cons.inj h5).2
  simp only
  rw [hb i j s (by omega) hjs]
  cases hp : p s[j] with
  | true =>
   refine ⟨(i, j + 1, s), ?_, by trivial, ⟨by simp only; omega, by simp only; omega, h3, ?_, h5'⟩, by simp only; omega⟩
   ·simp only [Bool.not_true, Bool.false_eq_true, if_false, hwj]
   ·simp only
    rw [h4, List.take_succ_eq_append_getElem hj, List.filter_append]
    simp [← hsj, hp]
  | false =>
   refine ⟨(i + 1, j + 1, s.set i s[j]), ?_, by trivial, ⟨by simp only; omega, by simp only; omega, by simp [h3], ?_, ?_⟩, by simp only; omega⟩
   ·simp only [Bool.not_false, if_true, hwi, hwj]
   ·simp only
    rw [List.take_succ_eq_append_getElem (by simp; omega), List.getElem_set_self, List.take_set_of_le (Nat.le_refl _), h4, List.take_succ_eq_append_getElem hj, List.filter_append]
    simp [← hsj, hp]
   ·simp only
    rw [List.drop_set_of_lt (by omega)]; exact h5'
 ·right
  have : j = s.length := by omega
  subst this
  simp only
  rw [he i s (by omega), h4, List.take_of_length_le hj]
theorem ba3 {l : List aa0} (hl : l.length ≤ 1000000) : ao9 l = some (l.filter fun a => !af1 a.Name) := by
 unfold ao9
 rw [a44 hl, Option.bind_some, bQ2]
 unfold ac4
 have hp1 : ∀ a, an4 a = some (af1 a.Name) := by
  intro a; unfold an4; rw [aI4]; rfl
 have hix : ab9 l = some (aU4 (fun a => af1 a.Name) l) := by
  unfold ab9
  refine bl1 (by omega) ?_ ?_
  ·intro i hi
   simp only [ab5, dlt hi, if_true, ac8 hi, Option.bind_some, hp1]
  ·simp [ab5]
 rw [hix, Option.bind_some]
 rcases bA7 (fun a => af1 a.Name) l with ⟨h1, h2⟩ | ⟨i, h, h1, h2, h3⟩
 ·rw [h1, List.filter_eq_self.2 (fun a ha => by simp [h2 a ha])]; rfl
 ·have : ¬ ((i : Int) = -1) := by omega
  rw [h1]
  simp only [this, decide_false, Bool.false_eq_true, if_false]
  refine bJ3 (p := fun a => af1 a.Name) hl ?_ ?_ h h2 h3
  ·intro i j s hi hj
   simp only [ab1, dlt hj, if_true, ac8 hj, ac8 hi, Option.bind_some, hp1, Int.toNat_natCast]
  ·intro i s hi
   simp only [ab1, dge, Bool.false_eq_true, if_false, ac2, aT9 hi, Option.bind_some, Option.map_some]
theorem aN5 {l : List aa0} (hl : l.length ≤ 1000000) : aq0 l = some (l.filter fun a => !af1 a.Name) := by
 unfold aq0
 refine (af8 (τ := Int × List aa0) l.length (fun (x : List aa0) i => (i, x)) (fun s => aj6 l s.1 s.2) (fun i x => x ++ (l.drop i).filter fun a => !af1 a.Name) (fun i x => x.length ≤ i) (s0 := []) (by simp) ?_ ?_).trans (by simp)
 ·intro x i hi hx
  left
  have hap : aM8 40 x [l[i]] = some (x ++ [l[i]]) := ar4 (by simp; omega) (by simp; omega)
  refine ⟨if af1 l[i].Name then x else x ++ [l[i]], ?_, ?_, ?_⟩
  ·simp only [aj6, dlt hi, if_true, ac8 hi, Option.bind_some, ba1, hap]
   rw [ac5 (by omega)]
   cases af1 l[i].Name <;> rfl
  ·simp only [List.drop_eq_getElem_cons hi, List.filter_cons]
   cases af1 l[i].Name <;> simp
  ·split <;> (try simp) <;> omega
 ·intro x hx
  simp [aj6]
theorem aD7 {before : List aa0} {a : aa0} (h : chk before a = 0) : at7 a.Name = true ∧ (a.Query && !decide (a.Value = [])) = false ∧ aw7 a.Value = true ∧ a.Value.length ≤ 1024 ∧ aq8 before a.Name = false := by
 unfold chk at h
 split at h
 ·cases h
 ·split at h
  ·cases h
  ·rename_i h2
   split at h
   ·cases h
   ·rename_i h3
    rw [not_or] at h3
    split at h
    ·cases h
    ·split at h
     ·cases h
     ·rename_i h4 h5
      exact ⟨by simpa using h2, by simpa using h3.1, by simpa using h3.2, by omega, by simpa using h5⟩
theorem aL3 {stops a b : Str} (h : ∀ c ∈ a, stops.contains c = false) : ag7 stops (a ++ b) = a.length + ag7 stops b := by
 induction a with
 | nil => simp
 | cons c r ih =>
  rw [List.cons_append, ag7, if_neg (by rw [h c (by simp)]; simp), ih fun x hx => h x (List.mem_cons_of_mem _ hx), List.length_cons]
  omega
theorem aL4 {stops b : Str} {c : UInt8} (h : stops.contains c = true) : ag7 stops (c :: b) = 0 := by rw [ag7, if_pos h]
theorem aL5 {s : Str} (h : at7 s = true) : s ≠ [] ∧ ∀ c ∈ s, aA1.contains c = false := by
 have k1 : ∀ c : UInt8, (aK9 c && aA1.contains c) = false := ay3 (by decide +kernel)
 have key : ∀ t : Str, aI5 t = true → t ≠ [] ∧ ∀ c ∈ t, aA1.contains c = false := by
  intro t ht
  cases t with
  | nil => cases ht
  | cons c r =>
   rw [aD6, Bool.and_eq_true, Bool.and_eq_true] at ht
   refine ⟨by simp, fun x hx => ?_⟩
   have h1 := List.all_eq_true.1 ht.1.2 x hx
   have h2 := k1 x
   rw [h1, Bool.true_and] at h2
   exact h2
 unfold at7 bs4 at h
 by_cases hp : af1 s = true
 ·rw [if_pos hp] at h
  obtain ⟨h1, h2⟩ := key _ h
  cases s with
  | nil => cases hp
  | cons c r =>
   refine ⟨by simp, fun x hx => ?_⟩
   rcases List.mem_cons.1 hx with rfl | hx
   ·have : x = 33 := by
     unfold af1 at hp
     simp only [List.isPrefixOf, Bool.and_true, beq_iff_eq] at hp
     exact hp.symm
    rw [this]; rfl
   ·exact h2 x (by simpa using hx)
 ·rw [if_neg hp] at h
  exact key _ h
theorem br7 (v : Str) {t : Str} (ht : t.head? ≠ some 39) : ad7 (dbl v ++ 39 :: t) = some (v, (dbl v).length + 1) := by
 induction v with
 | nil => exact aN4 ht
 | cons c r ih =>
  have hd : dbl (c :: r) = (if c = 39 then [39, 39] else [c]) ++ dbl r := by unfold dbl; rw [List.flatMap_cons]
  rw [hd]
  by_cases hc : c = 39
  ·subst hc
   simp only [if_true, List.cons_append, List.nil_append, aU7, ih, Option.map_some, List.length_cons]
  ·simp only [if_neg hc, List.cons_append, List.nil_append, a03 hc, ih, Option.map_some, List.length_cons]
theorem br8 {t : Str} (h : bf7 t = true) : t.head? ≠ some 39 := by
 cases t with
 | nil => simp
 | cons c r =>
  intro e
  have : c = 39 := by simpa using e
  subst this
  cases h
theorem bA9 {s : Str} {a : aa0} {n : Nat} (h : bf7 (s.drop n) = true) : fin s a n = (a, n, 0) := by unfold fin; rw [if_pos h]
theorem bJ4 {a : aa0} {t : Str} (h : at7 a.Name = true) (hq : (a.Query && !decide (a.Value = [])) = false) (ht : bf7 t = true) : aU8 (aw9 a ++ t) = (a, (aw9 a).length, 0) := by
 obtain ⟨name, value, query⟩ := a
 simp only at h hq
 obtain ⟨h1, h2⟩ := aL5 h
 unfold aU8
 have hdrop : ∀ x : Str, (name ++ x).drop name.length = x := fun x => List.drop_left' rfl
 have htake : ∀ x : Str, (name ++ x).take name.length = name := fun x => List.take_left' rfl
 cases query with
 | true =>
  have hv : value = [] := by simpa using hq
  subst hv
  have hw : aw9 ⟨name, [], true⟩ ++ t = name ++ 63 :: t := by simp [aw9]
  have hl : (aw9 ⟨name, [], true⟩).length = name.length + 1 := by simp [aw9]
  rw [hw, hl, aL3 h2, aL4 (by decide), Nat.add_zero, hdrop, htake]
  simp only [bQ3, if_true]
  apply bA9
  rw [← List.drop_drop, hdrop]; exact ht
 | false =>
  have hw : aw9 ⟨name, value, false⟩ ++ t = name ++ 61 :: (an9 value ++ t) := by simp [aw9]
  have hl : (aw9 ⟨name, value, false⟩).length = name.length + (1 + (an9 value).length) := by simp [aw9]; omega
  rw [hw, hl, aL3 h2, aL4 (by decide), Nat.add_zero, hdrop, htake]
  have h63 : ¬ ((61 : UInt8) = 63) := by decide
  simp only [bQ3, h63, if_false, if_true]
  by_cases ho : oddB value = true
  ·have hqs : an9 value ++ t = 39 :: (dbl value ++ 39 :: t) := by unfold an9; rw [if_pos ho]; simp
   have hql : (an9 value).length = (dbl value).length + 2 := by unfold an9; rw [if_pos ho]; simp
   rw [hqs, hql]
   have hp : ([39] : Str).isPrefixOf (39 :: (dbl value ++ 39 :: t)) = true := rfl
   simp only [hp, if_true, List.drop_succ_cons, List.drop_zero, br7 value (br8 ht)]
   rw [show name.length + (2 + ((dbl value).length + 1)) = name.length + (1 + ((dbl value).length + 2)) by omega]
   apply bA9
   rw [← List.drop_drop, hdrop, Nat.add_comm 1, List.drop_succ_cons, List.drop_succ_cons, ← List.drop_drop, List.drop_left' rfl]
   exact ht
  ·have hqs : an9 value = value := by unfold an9; rw [if_neg ho]
   rw [hqs]
   unfold oddB at ho
   rw [Bool.or_eq_true, not_or, decide_eq_true_eq] at ho
   obtain ⟨hne, hno⟩ := ho
   have hno2 : ∀ c ∈ value, ([32, 9, 39] : Str).contains c = false := by
    intro c hc
    have : ¬ (([32, 9, 39] : Str).contains c = true) := fun e => hno (List.any_eq_true.2 ⟨c, hc, e⟩)
    simpa using this
   have hm : ∀ c : UInt8, ([32, 9, 39] : Str).contains c = (([32, 9] : Str).contains c || decide (c = 39)) := ay3 (by decide +kernel)
   have hb2 : ∀ c ∈ value, ([32, 9] : Str).contains c = false ∧ c ≠ 39 := by
    intro c hc
    have := hno2 c hc
    rw [hm, Bool.or_eq_false_iff, decide_eq_false_iff_not] at this
    exact this
   obtain ⟨c, r, hcr⟩ : ∃ c r, value = c :: r := by
    cases value with
    | nil => exact absurd rfl hne
    | cons c r => exact ⟨c, r, rfl⟩
   have hp : ([39] : Str).isPrefixOf (value ++ t) = false := by
    rw [hcr]
    have : ((39 : UInt8) == c) = false := by
     have := (hb2 c (by rw [hcr]; simp)).2
     simpa using Ne.symm this
    simp [List.isPrefixOf, this]
   simp only [hp, Bool.false_eq_true, if_false]
   unfold valS
   have hu : ag7 [32, 9] (value ++ t) = value.length := by
    rw [aL3 fun c hc => (hb2 c hc).1]
    have : ag7 [32, 9] t = 0 := by
     cases t with
     | nil => rfl
     | cons d u =>
      apply aL4
      rw [← bA5]; exact ht
    omega
   rw [hu, List.take_left' rfl]
   have hc39 : value.contains 39 = false := by
    rw [Bool.eq_false_iff]
    intro e
    have := List.contains_iff_mem.1 e
    exact (hb2 39 this).2 rfl
   rw [if_neg (by rw [hc39]; simp)]
   apply bA9
   rw [← List.drop_drop, hdrop, Nat.add_comm 1, List.drop_succ_cons, List.drop_left' rfl]
   exact ht
theorem bB0 {a : aa0} (h : at7 a.Name = true) : ∃ c r, aw9 a = c :: r ∧ aA0 c = false := by
 obtain ⟨h1, h2⟩ := aL5 h
 have k : ∀ c : UInt8, (aA0 c && !aA1.contains c) = false := ay3 (by decide +kernel)
 cases hn : a.Name with
 | nil => exact absurd hn h1
 | cons c r =>
  have hc := h2 c (by rw [hn]; simp)
  have hb : aA0 c = false := by have := k c; rw [hc] at this; simpa using this
  unfold aw9
  rw [hn]
  cases a.Query with
  | true => exact ⟨c, r ++ [63], by simp, hb⟩
  | false => exact ⟨c, r ++ [61] ++ an9 a.Value, by simp, hb⟩
theorem aV1 : ∀ (l out : List aa0) (f i : Nat), aw8 out l = 0 → 2 * l.length < f → al9 f out i (Go.Lib.join (l.map aw9) [32]) = (out ++ l, 0, 0)
 | [], out, f, i, _, hf => by
  obtain ⟨f, rfl⟩ : ∃ g, f = g + 1 := ⟨f - 1, by omega⟩
  simp [Go.Lib.join_nil, al9]
 | a :: r, out, f, i, h, hf => by
  unfold aw8 at h
  split at h
  ·rename_i h0
   obtain ⟨n1, n2, n3, n4, n5⟩ := aD7 h0
   simp only [List.length_cons] at hf
   obtain ⟨f, rfl⟩ : ∃ g, f = g + 1 := ⟨f - 1, by omega⟩
   obtain ⟨c, w, hw, hb⟩ := bB0 n1
   have ht : ∃ t, Go.Lib.join ((a :: r).map aw9) [32] = aw9 a ++ t ∧ bf7 t = true ∧ ∀ j, al9 f (out ++ [a]) j t = (out ++ (a :: r), 0, 0) := by
    cases r with
    | nil =>
     refine ⟨[], by simp [Go.Lib.join_one], rfl, fun j => ?_⟩
     obtain ⟨f, rfl⟩ : ∃ g, f = g + 1 := ⟨f - 1, by omega⟩
     simp [al9]
    | cons b r2 =>
     refine ⟨32 :: Go.Lib.join ((b :: r2).map aw9) [32], ?_, rfl, fun j => ?_⟩
     ·rw [List.map_cons, Go.Lib.join_cons, List.map_cons, Go.Lib.join_cons]
      simp [Go.Lib.joinTail]
     ·simp only [List.length_cons] at hf
      obtain ⟨f, rfl⟩ : ∃ g, f = g + 1 := ⟨f - 1, by omega⟩
      rw [al9, if_pos (by decide), aV1 (b :: r2) (out ++ [a]) f (j + 1) h (by simp; omega)]
      simp
   obtain ⟨t, h1, h2, h3⟩ := ht
   have hone := bJ4 n1 n2 h2
   rw [h1]
   have e : aw9 a ++ t = c :: (w ++ t) := by rw [hw]; rfl
   rw [e] at hone ⊢
   rw [al9, if_neg (by rw [hb]; simp), hone]
   have hst : aX6 out (a, (aw9 a).length, 0) = 0 := by unfold aX6; rw [if_pos rfl]; exact h0
   rw [if_pos hst, ← e, List.drop_left' rfl]
   exact h3 _
  ·rename_i h0; exact absurd h h0
theorem bJ5 (l : List aa0) (h : ∀ a ∈ l, at7 a.Name = true) : 2 * l.length ≤ (Go.Lib.join (l.map aw9) [32]).length := by
 cases l with
 | nil => simp
 | cons a r =>
  have h1 : ∀ a, at7 a.Name = true → 2 ≤ (aw9 a).length := by
   intro a ha
   have h3 := (aL5 ha).1
   have : 1 ≤ a.Name.length := by
    cases hn : a.Name with
    | nil => exact absurd hn h3
    | cons _ _ => simp
   unfold aw9
   split <;> simp <;> omega
  have h2 : ∀ r : List aa0, (∀ a ∈ r, at7 a.Name = true) → 2 * r.length ≤ (Go.Lib.joinTail [32] (r.map aw9)).length := by
   intro r
   induction r with
   | nil => intro _; simp
   | cons b r ih =>
    intro hr
    have h4 := ih fun x hx => hr x (List.mem_cons_of_mem _ hx)
    have hb := h1 b (hr b (by simp))
    unfold Go.Lib.joinTail at h4 ⊢
    rw [List.map_cons, List.map_cons, List.flatten_cons, List.length_append, List.length_append, List.length_cons]
    omega
  rw [List.map_cons, Go.Lib.join_cons, List.length_append]
  have h5 := h2 r fun x hx => h x (List.mem_cons_of_mem _ hx)
  have h6 := h1 a (h a (by simp))
  simp only [List.length_cons]; omega
theorem aV2 : ∀ {l before : List aa0}, aw8 before l = 0 → ∀ a ∈ l, at7 a.Name = true
 | [], _, _, a, ha => by simp at ha
 | x :: r, before, h, a, ha => by
  unfold aw8 at h
  split at h
  ·rename_i h0
   rcases List.mem_cons.1 ha with rfl | ha
   ·exact (aD7 h0).1
   ·exact aV2 h a ha
  ·rename_i h0; exact absurd h h0
theorem ba4 {l : List aa0} (h : aL0 l = 0) : bl5 (ak5 l) = (l, 0, 0) := by
 unfold bl5 ak5
 have h1 := bJ5 l (aV2 h)
 have h2 := aV1 l [] ((Go.Lib.join (l.map aw9) [32]).length + 1) 0 h (by omega)
 simpa using h2
end Go.Proofs.YtkcnhmohphapfaaGreatDoor
