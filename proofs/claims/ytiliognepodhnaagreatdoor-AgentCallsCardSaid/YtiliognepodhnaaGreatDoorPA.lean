import Derived.Test.YtiliognepodhnaaGreatDoorR
import Derived.Test.YtiliognepodhnaaGreatDoorVmQ
import Derived.Lib.ReplaceLaws
import Derived.Lib.ItoaLen
open Bool (eq_false_iff false_eq_true true_eq_false)
open Go.IntKind (wrap)
open List (all_cons any_cons drop_drop drop_eq_getElem_cons drop_length drop_succ_cons drop_zero filter_append flatMap_cons getElem_drop length_append length_cons length_drop length_nil map_cons map_nil mem_cons mem_cons_of_mem take_length take_succ_cons take_succ_eq_append_getElem)
open Nat (add_assoc le_refl lt_or_ge zero_le)
open Option (map_some)
namespace Go.Proofs.YtiliognepodhnaaGreatDoor
open Go.Vm
set_option linter.unusedVariables false
set_option linter.unusedSimpArgs false
set_option maxRecDepth 100000
theorem bV7 {α : Type} {o : Option α} : (o.bind fun x => some x) = o := by cases o <;> rfl
theorem ab0 {i : Nat} (h : i ≤ 1000000) : wrap .i64 ((i : Int) + 1) = (i : Int) + 1 := ab3 (by omega) (by omega)
theorem dlt {i n : Nat} (h : i < n) : decide ((i : Int) < (n : Int)) = true := by simp [h]
theorem dge {n : Nat} : decide ((n : Int) < (n : Int)) = false := by simp
def af5 (stops : Str) : Str → Nat
 | [] => 0
 | c :: r => if stops.contains c then 0 else af5 stops r + 1
theorem aQ6 (stops s : Str) : af5 stops s ≤ s.length := by
 induction s with
 | nil => exact le_refl _
 | cons c r ih => unfold af5; split <;> simp <;> omega
theorem bg9 {s stops : Str} (hm : s.length ≤ 1000000) : au1 s stops = some (af5 stops s : Int) := by
 unfold au1
 refine (ad1 s.length (fun (_ : Unit) i => i) (fun v => aD2 s stops v) (fun i _ => ((i + af5 stops (s.drop i) : Nat) : Int)) (fun _ _ => True) (s0 := ()) trivial ?_ ?_).trans ?_
 ·intro _ i hi _
  simp only [aD2, dlt hi, if_true, af7 hi, Option.bind_some, strings_IndexByte, stringslite_IndexByte, a68, ca5, cA5, drop_eq_getElem_cons hi, af5]
  by_cases hc : stops.contains s[i] = true
  ·right; rw [if_pos hc, if_pos hc]; rfl
  ·left
   refine ⟨(), ?_, ?_, trivial⟩
   ·rw [if_neg hc, ab0 (by omega)]
   ·rw [if_neg hc]; omega
 ·intro _ _
  simp [aD2, af5]
 ·simp
theorem a41 {s p : Str} : stringslite_HasPrefix s p = some (p.isPrefixOf s) := by
 unfold stringslite_HasPrefix
 by_cases h : p.length ≤ s.length
 ·have h1 : ((List.length p : Int) ≤ (List.length s : Int)) := by omega
  simp only [h1, decide_true, if_true, aO5 h, Option.bind_some]
  congr 1
  rw [Bool.eq_iff_iff, decide_eq_true_eq, List.isPrefixOf_iff_prefix]
  rw [List.prefix_iff_eq_take]; exact eq_comm
 ·have h1 : ¬ ((List.length p : Int) ≤ (List.length s : Int)) := by omega
  simp only [h1, decide_false, false_eq_true, if_false, Option.bind_some]
  congr 1
  symm
  rw [eq_false_iff]
  intro e
  exact h (List.isPrefixOf_iff_prefix.1 e).length_le
theorem bh0 {s p : Str} : strings_HasPrefix s p = some (p.isPrefixOf s) := by
 unfold strings_HasPrefix; rw [a41]; rfl
def bw9 (c : UInt8) : Bool := (decide (97 ≤ (c.toNat : Int)) && decide ((c.toNat : Int) ≤ 122)) || ((decide (48 ≤ (c.toNat : Int)) && decide ((c.toNat : Int) ≤ 57)) || (decide ((c.toNat : Int) = 45) || decide ((c.toNat : Int) = 95)))
def cd2 (c : UInt8) : Bool := decide (97 ≤ (c.toNat : Int)) && decide ((c.toNat : Int) ≤ 122)
def ak4 (s : Str) : Bool := ([33] : Str).isPrefixOf s
def cu8 (s : Str) : Str := if ak4 s then s.drop 1 else s
def b36 (s : Str) : Bool := match s with
 | [] => false
 | c :: r => cd2 c && r.all bw9 && decide (s.length ≤ 32)
def bV8 (s : Str) : Bool := b36 (cu8 s)
theorem ca6 (c : UInt8) (h : cd2 c = true) : bw9 c = true := by
 unfold cd2 at h; unfold bw9; rw [h]; rfl
theorem ca7 {c : UInt8} {r : Str} : b36 (c :: r) = (cd2 c && (c :: r).all bw9 && decide ((c :: r).length ≤ 32)) := by
 show (cd2 c && r.all bw9 && decide _) = _
 cases h : cd2 c
 ·rfl
 ·rw [all_cons, ca6 c h]; rfl
theorem b37 (s : Str) : (cu8 s).length ≤ s.length := by
 unfold cu8; split <;> simp
theorem bI9 {s : Str} : strings_TrimPrefix s [33] = some (cu8 s) := by
 unfold strings_TrimPrefix stringslite_TrimPrefix
 rw [a41 (s := s) (p := [33])]
 unfold cu8 ak4
 cases hp : ([33] : Str).isPrefixOf s with
 | false => simp
 | true =>
  have hl : 1 ≤ s.length := (List.isPrefixOf_iff_prefix.1 hp).length_le
  have := ay2 (l := s) (a := 1) hl
  simp only [Option.bind_some, if_true]
  rw [show (List.length ([33] : Str) : Int) = ((1 : Nat) : Int) from rfl, this]; rfl
theorem bV9 {s : Str} (hs : s.length ≤ 1000000) : aX9 s = some (bV8 s) := by
 unfold aX9 bV8
 rw [bI9, Option.bind_some]
 have hl := b37 s
 generalize cu8 s = x at hl ⊢
 cases x with
 | nil => rfl
 | cons c r =>
  have hat : ah4 (c :: r) 0 = some c := rfl
  simp only [reduceCtorEq, decide_false, false_eq_true, if_false, hat, Option.bind_some, ca7]
  by_cases hlen : (32 : Int) < (List.length (c :: r) : Int)
  ·have : ¬ ((c :: r).length ≤ 32) := by omega
   simp only [hlen, decide_true, if_true, Option.bind_some, this, decide_false, Bool.and_false]
  ·have h32 : (c :: r).length ≤ 32 := by omega
   simp only [hlen, decide_false, false_eq_true, if_false, h32, decide_true, Bool.and_true]
   have hloop : ab1 (fun s => aq4 (c :: r) s) 0 = some ((c :: r).all bw9) := by
    refine (ad1 (c :: r).length (fun (_ : Unit) i => i) (fun v => aq4 (c :: r) v) (fun i _ => ((c :: r).drop i).all bw9) (fun _ _ => True) (s0 := ()) trivial ?_ ?_).trans rfl
    ·intro _ i hi _
     have key : ∀ c : UInt8, (bif (decide ((c.toNat : Int) < 97)) then (bif (decide ((c.toNat : Int) < 48)) then ((!decide ((c.toNat : Int) = 45)) && (!decide ((c.toNat : Int) = 95))) else ((decide (57 < (c.toNat : Int))) && ((!decide ((c.toNat : Int) = 45)) && (!decide ((c.toNat : Int) = 95))))) else ((decide (122 < (c.toNat : Int))) && (bif (decide ((c.toNat : Int) < 48)) then ((!decide ((c.toNat : Int) = 45)) && (!decide ((c.toNat : Int) = 95))) else ((decide (57 < (c.toNat : Int))) && ((!decide ((c.toNat : Int) = 45)) && (!decide ((c.toNat : Int) = 95))))))) = !bw9 c := aT2 (by decide +kernel)
     simp only [aq4, dlt hi, if_true, af7 hi, Option.bind_some, drop_eq_getElem_cons hi, all_cons, key]
     cases hn : bw9 (c :: r)[i]
     ·right; simp
     ·left
      refine ⟨(), ?_, by simp, trivial⟩
      simp only [Bool.not_true, false_eq_true, if_false]
      rw [ab0 (by omega)]
    ·intro _ _
     simp [aq4]
   rw [hloop]
   have k1 : ∀ c : UInt8, cd2 c = (!decide ((c.toNat : Int) < 97) && !decide (122 < (c.toNat : Int))) := aT2 (by decide +kernel)
   rw [k1]
   cases decide ((c.toNat : Int) < 97) <;> cases decide (122 < (c.toNat : Int)) <;> simp
theorem bP0 {s : Str} : aI5 s = some (ak4 s) := by
 unfold aI5 ak4
 cases s with
 | nil => rfl
 | cons c r =>
  have h1 : (0 : Int) < (List.length (c :: r) : Int) := by simp only [length_cons]; omega
  have h2 : ah4 (c :: r) 0 = some c := rfl
  have h3 : decide ((c.toNat : Int) = 33) = decide (c = 33) := isC c 33
  simp only [h1, decide_true, if_true, h2, Option.bind_some, h3, List.isPrefixOf]
  have key : ∀ c : UInt8, decide (c = 33) = ((33 == c) && true) := aT2 (by decide +kernel)
  rw [key]
theorem ca8 {s : Str} (hs : s.length ≤ 1000000) : aU3 s = some (bV8 s) := by
 have hk : aU3 s = aD0 (cu8 s) := by
  unfold aU3
  rw [bP0, Option.bind_some]
  unfold cu8
  cases hp : ak4 s with
  | false => simp
  | true =>
   have hl : 1 ≤ s.length := (List.isPrefixOf_iff_prefix.1 hp).length_le
   have := ay2 (l := s) (a := 1) hl
   simp only [if_true]
   rw [show (1 : Int) = ((1 : Nat) : Int) from rfl, this]; rfl
 rw [hk]
 unfold bV8
 have hl := b37 s
 generalize cu8 s = x at hl ⊢
 unfold aD0
 let tail (i : Nat) (x : Str) : Bool := match i with
  | 0 => b36 x
  | _ => (x.drop i).all bw9 && (decide (1 ≤ (List.length x : Int)) && decide ((List.length x : Int) ≤ 32))
 refine (ad1 x.length (fun (_ : Unit) i => i) (fun v => az2 x v) (fun i _ => tail i x) (fun _ _ => True) (s0 := ()) trivial ?_ ?_).trans rfl
 ·intro _ i hi _
  have key : ∀ c : UInt8, ((if (decide (97 ≤ (c.toNat : Int))) then some (decide ((c.toNat : Int) ≤ 122)) else some false) : Option Bool) = some (cd2 c) := by
   intro c; unfold cd2; cases decide (97 ≤ (c.toNat : Int)) <;> rfl
  have key2 : ∀ c : UInt8, (if (decide (48 ≤ (c.toNat : Int))) then (if (decide ((c.toNat : Int) ≤ 57)) then some false else (if (decide ((c.toNat : Int) = 45)) then some false else some (!(decide ((c.toNat : Int) = 95))))) else (if (decide ((c.toNat : Int) = 45)) then some false else some (!(decide ((c.toNat : Int) = 95)))) : Option Bool) = some (!(decide (48 ≤ (c.toNat : Int)) && decide ((c.toNat : Int) ≤ 57) || (decide ((c.toNat : Int) = 45) || decide ((c.toNat : Int) = 95)))) := aT2 (by decide +kernel)
  have key3 : ∀ c : UInt8, bw9 c = (cd2 c || ((decide (48 ≤ (c.toNat : Int)) && decide ((c.toNat : Int) ≤ 57)) || (decide ((c.toNat : Int) = 45) || decide ((c.toNat : Int) = 95)))) := fun c => rfl
  simp only [az2, dlt hi, if_true, af7 hi, Option.bind_some, key]
  have hlen1 : (1 : Int) ≤ (List.length x : Int) := by omega
  cases i with
  | zero =>
   cases x with
   | nil => simp at hi
   | cons c r =>
    simp only [List.getElem_cons_zero, tail, b36]
    cases hlow : cd2 c with
    | false => right; simp
    | true =>
     left
     refine ⟨(), ?_, ?_, trivial⟩
     ·simp only [Bool.not_true, false_eq_true, if_false, Option.bind_some]
      rw [ab0 (by omega)]
     ·simp only [Bool.true_and, drop_succ_cons, drop_zero, hlen1, decide_true]
      congr 1
      rw [Bool.eq_iff_iff, decide_eq_true_eq, decide_eq_true_eq]; omega
  | succ i =>
   have h0 : decide (((i + 1 : Nat) : Int) = 0) = false := by simp; omega
   simp only [tail, drop_eq_getElem_cons hi, all_cons, h0, false_eq_true, if_false, key2]
   rw [key3]
   cases hlow : cd2 x[i + 1] with
   | true =>
    left
    refine ⟨(), ?_, by simp, trivial⟩
    simp only [Bool.not_true, false_eq_true, if_false, Option.bind_some]
    rw [ab0 (by omega)]
   | false =>
    simp only [Bool.not_false, if_true, Option.bind_some, Bool.false_or]
    generalize (decide (48 ≤ (x[i + 1].toNat : Int)) && decide ((x[i + 1].toNat : Int) ≤ 57) || (decide ((x[i + 1].toNat : Int) = 45) || decide ((x[i + 1].toNat : Int) = 95))) = q
    cases q with
    | false => right; simp
    | true =>
     left
     refine ⟨(), ?_, by simp, trivial⟩
     simp only [Bool.not_true, false_eq_true, if_false]
     rw [ab0 (by omega)]
 ·intro _ _
  simp only [az2, dge, false_eq_true, if_false]
  cases x with
  | nil => rfl
  | cons c r => simp [tail]
def bh1 (v : Str) : Bool := v.all fun c => !([0, 10, 13] : Str).contains c
theorem bP1 (stops s : Str) : decide ((af5 stops s : Int) < (List.length s : Int)) = !(s.all fun c => !stops.contains c) := by
 induction s with
 | nil => rfl
 | cons c r ih =>
  unfold af5
  by_cases hc : stops.contains c = true
  ·rw [if_pos hc]; simp only [all_cons, hc]; simp
  ·have hc' : stops.contains c = false := by simpa using hc
   rw [if_neg hc, all_cons, hc', Bool.not_false, Bool.true_and, ← ih]
   congr 1
   simp only [length_cons, eq_iff_iff]; omega
theorem bW0 {v : Str} (hv : v.length ≤ 1000000) : aO7 v = some (bh1 v) := by
 unfold aO7
 refine (ad1 v.length (fun (_ : Unit) i => i) (fun s => av7 v s) (fun i _ => bh1 (v.drop i)) (fun _ _ => True) (s0 := ()) trivial ?_ ?_).trans rfl
 ·intro _ i hi _
  have key : ∀ c : UInt8, ((if (decide ((c.toNat : Int) = 0)) then some true else (if (decide ((c.toNat : Int) = 10)) then some true else some (decide ((c.toNat : Int) = 13)))) : Option Bool) = some (([0, 10, 13] : Str).contains c) := aT2 (by decide +kernel)
  simp only [av7, dlt hi, if_true, af7 hi, Option.bind_some, key, bh1, drop_eq_getElem_cons hi, all_cons]
  cases ([0, 10, 13] : Str).contains v[i] with
  | true => right; simp
  | false =>
   left
   refine ⟨(), ?_, by simp, trivial⟩
   simp only [false_eq_true, if_false]
   rw [ab0 (by omega)]
 ·intro _ _
  simp [av7, bh1]
def a42 (l : List aa1) (n : Str) : Bool := l.any fun b => decide (b.Mz = n)
def chk (before : List aa1) (a : aa1) : Int :=
 if (32 : Int) ≤ (List.length before : Int) then 22 else if bV8 a.Mz = false then 6 else if (a.Qz && !decide (a.Value = [])) = true ∨ bh1 a.Value = false then 2 else if (1024 : Int) < (List.length a.Value : Int) then 4 else if a42 before a.Mz = true then 7 else 0
def bj0 {α : Type} (p : α → Bool) : List α → Int
 | [] => -1
 | a :: r => if p a then 0 else if bj0 p r = -1 then -1 else bj0 p r + 1
theorem cj0 {α : Type} (p : α → Bool) (l : List α) : -1 ≤ bj0 p l := by
 induction l with
 | nil => exact Int.le_refl _
 | cons a r ih => simp only [bj0]; split <;> (try split) <;> omega
theorem cu9 {α : Type} (p : α → Bool) (l : List α) : 0 ≤ bj0 p l ↔ l.any p = true := by
 induction l with
 | nil => simp [bj0]
 | cons a r ih =>
  have := cj0 p r
  rw [any_cons, Bool.or_eq_true, ← ih]
  simp only [bj0]
  by_cases hp : p a = true
  ·simp [hp]
  ·rw [if_neg hp]
   split
   ·rename_i h; rw [h]; simp [hp]
   ·simp only [hp, false_or]; omega
theorem bJ0 {α : Type} (p : α → Bool) (l : List α) : decide (0 ≤ bj0 p l) = l.any p := by
 rw [Bool.eq_iff_iff, decide_eq_true_eq, cu9]
theorem b38 {α : Type} {p : α → Bool} {a : α} {r : List α} (h : p a = true) : bj0 p (a :: r) = 0 := by simp [bj0, h]
theorem bx0 {α : Type} {p : α → Bool} {a : α} {r : List α} (h : ¬ p a = true) : bj0 p (a :: r) = if bj0 p r = -1 then -1 else bj0 p r + 1 := by simp [bj0, h]
theorem aZ4 {α : Type} {p : α → Bool} {l : List α} {body : Int → Option (Step Int Int)} (hl : l.length ≤ 1000000)
  (hb : ∀ i (h : i < l.length), body (i : Int) = if p l[i] then some (.done (i : Int)) else some (.cont (wrap .i64 ((i : Int) + 1)))) (he : body (l.length : Int) = some (.done (-1))) : ab1 body 0 = some (bj0 p l) := by
 refine (ad1 l.length (fun (_ : Unit) i => i) body (fun i _ => if bj0 p (l.drop i) = -1 then -1 else (i : Int) + bj0 p (l.drop i)) (fun _ _ => True) (s0 := ()) trivial ?_ ?_).trans ?_
 ·intro _ i hi _
  rw [hb i hi, drop_eq_getElem_cons hi]
  have := cj0 p (l.drop (i + 1))
  by_cases hp : p l[i] = true
  ·right; rw [if_pos hp, b38 hp]; simp
  ·left
   refine ⟨(), ?_, ?_, trivial⟩
   ·rw [if_neg hp, ab0 (by omega)]
   ·rw [bx0 hp]
    by_cases h : bj0 p (l.drop (i + 1)) = -1
    ·simp [h]
    ·rw [if_neg h, if_neg (by omega), if_neg h]; omega
 ·intro _ _
  rw [he]; simp [bj0]
 ·simp only [drop_zero]
  congr 1
  split
  ·rename_i h; exact h.symm
  ·simp
theorem b39 {before : List aa1} {a : aa1} (hb : before.length ≤ 1000000) (hn : a.Mz.length ≤ 1000000) (hv : a.Value.length ≤ 1000000) : aM9 before a = some (chk before a) := by
 unfold aM9 chk
 have hix : ad8 before a = some (bj0 (fun b => decide (b.Mz = a.Mz)) before) := by
  unfold ad8
  refine aZ4 hb ?_ ?_
  ·intro i hi
   simp only [ac1, dlt hi, if_true, aa6 hi, Option.bind_some, a29]
  ·simp [ac1]
 have hc : ac2 before a = some (a42 before a.Mz) := by
  unfold ac2 a42
  rw [hix, Option.bind_some, bJ0]
 simp only [bV9 hn, Option.bind_some, bg9 hv, hc, bP1]
 by_cases h1 : (32 : Int) ≤ (List.length before : Int)
 ·simp [h1]
 ·simp only [h1, decide_false, false_eq_true, if_false]
  cases bV8 a.Mz with
  | false => simp
  | true =>
   simp only [Bool.not_true, false_eq_true, if_false, true_eq_false]
   cases a.Qz && !decide (a.Value = []) with
   | true => simp
   | false =>
    change (if (!bh1 a.Value) = true then _ else _) = _
    cases bh1 a.Value with
    | false => simp
    | true =>
     simp only [Bool.not_true, false_eq_true, if_false, true_eq_false, or_self]
     by_cases h4 : (1024 : Int) < (List.length a.Value : Int)
     ·simp [h4]
     ·simp only [h4, decide_false, false_eq_true, if_false]
      cases a42 before a.Mz <;> simp
theorem bP2 {before : List aa1} {a : aa1} (hb : before.length ≤ 1000000) (hn : a.Mz.length ≤ 1000000) (hv : a.Value.length ≤ 1000000) : aU4 before a = some (chk before a) := by
 unfold aU4 chk
 have hloop : ab1 (fun s => ay4 before a s) 0 = some (if a42 before a.Mz = true then (7 : Int) else 0) := by
  refine (ad1 before.length (fun (_ : Unit) i => i) (fun s => ay4 before a s) (fun i _ => if a42 (before.drop i) a.Mz = true then (7 : Int) else 0) (fun _ _ => True) (s0 := ()) trivial ?_ ?_).trans rfl
  ·intro _ i hi _
   simp only [ay4, dlt hi, if_true, aa6 hi, Option.bind_some, a42, drop_eq_getElem_cons hi, any_cons]
   by_cases h : before[i].Mz = a.Mz
   ·right; simp [h]
   ·left
    refine ⟨(), ?_, by simp [h], trivial⟩
    simp only [h, decide_false, false_eq_true, if_false]
    rw [ab0 (by omega)]
  ·intro _ _
   simp [ay4, a42]
 simp only [ca8 hn, Option.bind_some, bW0 hv, hloop]
 by_cases h1 : (32 : Int) ≤ (List.length before : Int)
 ·simp [h1]
 ·simp only [h1, decide_false, false_eq_true, if_false]
  cases bV8 a.Mz with
  | false => simp
  | true =>
   simp only [Bool.not_true, false_eq_true, if_false, true_eq_false]
   by_cases h4 : (1024 : Int) < (List.length a.Value : Int)
   ·cases a.Qz <;> cases hd : decide (a.Value = []) <;> cases bh1 a.Value <;> simp [h4]
   ·cases a.Qz <;> cases hd : decide (a.Value = []) <;> cases bh1 a.Value <;> simp [h4]
def okA (a : aa1) : Prop := a.Mz.length ≤ 5000 ∧ a.Value.length ≤ 5000
def okL (l : List aa1) : Prop := l.length ≤ 5000 ∧ ∀ a ∈ l, okA a
def bP3 (before : List aa1) : List aa1 → Int
 | [] => 0
 | a :: r => if chk before a = 0 then bP3 (before ++ [a]) r else chk before a
def aW5 (l : List aa1) : Int := bP3 [] l
theorem okL.get {l : List aa1} (h : okL l) {i : Nat} (hi : i < l.length) : okA l[i] := h.2 _ (List.getElem_mem hi)
theorem br6 {l : List aa1} (h : okL l) : aF6 l = some (aW5 l) := by
 unfold aF6
 refine (ad1 l.length (fun (_ : Unit) i => i) (fun s => aD3 l s) (fun i _ => bP3 (l.take i) (l.drop i)) (fun _ _ => True) (s0 := ()) trivial ?_ ?_).trans ?_
 ·intro _ i hi _
  have ha := h.get hi
  have h1 := h.1
  simp only [aD3, dlt hi, if_true, aa6 hi, Option.bind_some, aO5 (Nat.le_of_lt hi), b39 (before := l.take i) (a := l[i]) (by simp; omega) (by have := ha.1; omega) (by have := ha.2; omega), drop_eq_getElem_cons hi, bP3]
  by_cases hz : chk (l.take i) l[i] = 0
  ·left
   refine ⟨(), ?_, ?_, trivial⟩
   ·simp only [hz, decide_true, Bool.not_true, false_eq_true, if_false]
    rw [ab0 (by omega)]
   ·simp only [hz, if_true]
    rw [take_succ_eq_append_getElem hi]
  ·right; simp [hz]
 ·intro _ _
  simp [aD3, bP3]
 ·simp [aW5]
theorem bc7 {l : List aa1} (h : okL l) : aF1 l = some (aW5 l) := by
 unfold aF1
 refine (ad1 l.length (fun (_ : Unit) i => i) (fun s => az3 l s) (fun i _ => bP3 (l.take i) (l.drop i)) (fun _ _ => True) (s0 := ()) trivial ?_ ?_).trans ?_
 ·intro _ i hi _
  have ha := h.get hi
  have h1 := h.1
  simp only [az3, dlt hi, if_true, aa6 hi, Option.bind_some, aO5 (Nat.le_of_lt hi), bP2 (before := l.take i) (a := l[i]) (by simp; omega) (by have := ha.1; omega) (by have := ha.2; omega), drop_eq_getElem_cons hi, bP3]
  by_cases hz : chk (l.take i) l[i] = 0
  ·left
   refine ⟨(), ?_, ?_, trivial⟩
   ·simp only [hz, decide_true, Bool.not_true, false_eq_true, if_false]
    rw [ab0 (by omega)]
   ·simp only [hz, if_true]
    rw [take_succ_eq_append_getElem hi]
  ·right; simp [hz]
 ·intro _ _
  simp [az3, bP3]
 ·simp [aW5]
def dbl (s : Str) : Str := s.flatMap fun c => if c = 39 then [39, 39] else [c]
def oddB (s : Str) : Bool := decide (s = []) || s.any fun c => ([32, 9, 39] : Str).contains c
def a43 (s : Str) : Str := if oddB s then [39] ++ dbl s ++ [39] else s
theorem cj1 (s : Str) : (dbl s).length ≤ 2 * s.length := by
 induction s with
 | nil => exact le_refl _
 | cons c r ih =>
  unfold dbl at ih ⊢
  rw [flatMap_cons, length_append, length_cons]
  split <;> simp only [length_cons, length_nil] <;> omega
theorem bl5 (s : Str) : (a43 s).length ≤ 2 * s.length + 2 := by
 have := cj1 s
 unfold a43
 split <;> simp <;> omega
theorem bJ1 {c : UInt8} (hc : c ≠ 39) (k : Nat) (s : Str) (hk : k ≤ Go.Lib.count s [39]) : Go.Lib.replaceK [39] [39, 39] k (c :: s) = c :: Go.Lib.replaceK [39] [39, 39] k s := by
 cases k with
 | zero => rfl
 | succ k =>
  obtain ⟨i, hi⟩ := Go.Lib.index_of_count (s := s) (old := [39]) (by omega)
  have hi' : Go.Lib.index (c :: s) [39] = ((i + 1 : Nat) : Int) := by
   have hp : ([39] : Str).isPrefixOf (c :: s) = false := by simp [List.isPrefixOf, Ne.symm hc]
   rw [Go.Lib.index, hp, hi]
   have : ((i : Int) == -1) = false := by rw [beq_eq_false_iff_ne]; omega
   simp [this]
  rw [Go.Lib.replaceK_hit _ _ _ _ _ hi, Go.Lib.replaceK_hit _ _ _ _ _ hi']
  simp [Nat.add_right_comm]
theorem bW1 (s : Str) : Go.Lib.replaceK [39] [39, 39] (Go.Lib.count s [39]) s = dbl s := by
 induction s with
 | nil => rw [Go.Lib.count_one]; rfl
 | cons c r ih =>
  by_cases hc : c = 39
  ·subst hc
   have hi : Go.Lib.index (39 :: r) [39] = ((0 : Nat) : Int) := by rw [Go.Lib.index]; simp [List.isPrefixOf]
   rw [Go.Lib.count_cons_eq, Nat.add_comm 1, Go.Lib.replaceK_hit _ _ _ _ _ hi]
   simp only [List.take_zero, List.nil_append, Nat.zero_add, length_cons, length_nil, drop_succ_cons, drop_zero, ih]
   unfold dbl
   rw [flatMap_cons, if_pos rfl]
  ·rw [Go.Lib.count_cons_ne _ _ _ hc, bJ1 hc _ _ (le_refl _), ih]
   unfold dbl
   rw [flatMap_cons, if_neg hc]; rfl
theorem bJ2 {s : Str} (hs : s.length ≤ 1000000) : strings_ReplaceAll s [39] [39, 39] = some (dbl s) := by
 have hc : Go.Lib.count s [39] ≤ s.length := by rw [Go.Lib.count_one]; exact List.count_le_length
 unfold strings_ReplaceAll aX6
 rw [if_pos ⟨by omega, by simp, by simp; omega⟩]
 unfold Go.Lib.replaceAll Go.Lib.replace
 rw [if_neg (by decide)]
 have : Go.Lib.replaceNum s [39] (-1) = Go.Lib.count s [39] := by unfold Go.Lib.replaceNum; rw [if_pos (Or.inl (by omega))]
 rw [this, bW1]
theorem cv0 {s : Str} (hs : s.length ≤ 1000000) : a74 s = some (a43 s) := by
 unfold a74
 have hd := cj1 s
 have c1 : aj2 [39] (dbl s) = some ([39] ++ dbl s) := aa7 (by simp; omega)
 have c2 : aj2 ([39] ++ dbl s) [39] = some ([39] ++ dbl s ++ [39]) := aa7 (by simp; omega)
 have hu := aQ6 [32, 9, 39] s
 have ha := bP1 [32, 9, 39] s
 have hany : (s.any fun c => ([32, 9, 39] : Str).contains c) = !(s.all fun c => !([32, 9, 39] : Str).contains c) := by
  rw [List.any_eq_not_all_not]
 have hdd : decide ((af5 [32, 9, 39] s : Int) = (List.length s : Int)) = (s.all fun c => !([32, 9, 39] : Str).contains c) := by
  cases h : s.all fun c => !([32, 9, 39] : Str).contains c with
  | true => rw [h] at ha; simp only [Bool.not_true, decide_eq_false_iff_not] at ha; simp; omega
  | false => rw [h] at ha; simp only [Bool.not_false, decide_eq_true_eq] at ha; simp; omega
 simp only [bg9 hs, Option.bind_some, bJ2 hs, c1, c2, hdd]
 unfold a43 oddB
 rw [hany]
 cases h : s.all fun c => !([32, 9, 39] : Str).contains c <;> cases hn : decide (s = []) <;> simp
theorem bW2 {s : Str} (hs : s.length ≤ 1000000) : aY3 s = some (a43 s) := by
 unfold aY3
 refine (ad1 (τ := Str × Bool × Int) s.length (fun (x : Str × Bool) i => (x.1, x.2, i)) (fun x => ax2 s x.1 x.2.1 x.2.2)
  (fun i x => if x.2 || (s.drop i).any (fun c => ([32, 9, 39] : Str).contains c) then [39] ++ (x.1 ++ dbl (s.drop i)) ++ [39] else s) (fun i x => x.1.length ≤ 2 * i) (s0 := ([], decide (s = []))) (by simp) ?_ ?_).trans ?_
 ·rintro ⟨out, odd⟩ i hi hv
  simp only at hv
  left
  have key : ∀ c : UInt8, ((if (decide ((c.toNat : Int) = 32)) then some true else (if (decide ((c.toNat : Int) = 9)) then some true else some (decide (c = 39)))) : Option Bool) = some (([32, 9, 39] : Str).contains c) := aT2 (by decide +kernel)
  have hw : wrap .i64 ((i : Int) + 1) = (i : Int) + 1 := ab0 (by omega)
  have c1 : aj2 out [s[i]] = some (out ++ [s[i]]) := aa7 (by simp; omega)
  have c2 : aj2 (out ++ [s[i]]) [39] = some (out ++ [s[i]] ++ [39]) := aa7 (by simp; omega)
  have h39 : decide ((s[i].toNat : Int) = 39) = decide (s[i] = 39) := isC s[i] 39
  have hor : ((if odd = true then some true else some (([32, 9, 39] : Str).contains s[i])) : Option Bool) = some (odd || ([32, 9, 39] : Str).contains s[i]) := by cases odd <;> rfl
  refine ⟨(if s[i] = 39 then out ++ [s[i]] ++ [39] else out ++ [s[i]], odd || ([32, 9, 39] : Str).contains s[i]), ?_, ?_, ?_⟩
  ·simp only [ax2, dlt hi, if_true, af7 hi, Option.bind_some, key, hor, hw, ci5 hi, c1, c2, h39]
   by_cases h : s[i] = 39
   ·simp only [h, decide_true, if_true]
   ·simp only [h, decide_false, false_eq_true, if_false]
  ·simp only [drop_eq_getElem_cons hi, any_cons, Bool.or_assoc]
   have : dbl (s[i] :: s.drop (i + 1)) = (if s[i] = 39 then [39, 39] else [s[i]]) ++ dbl (s.drop (i + 1)) := by unfold dbl; rw [flatMap_cons]
   rw [this]
   by_cases h : s[i] = 39
   ·simp only [h, if_true]; simp
   ·simp only [h, if_false]; simp
  ·simp only
   split <;> simp <;> omega
 ·rintro ⟨out, odd⟩ hv
  simp only at hv
  have c1 : aj2 [39] out = some ([39] ++ out) := aa7 (by simp; omega)
  have c2 : aj2 ([39] ++ out) [39] = some ([39] ++ out ++ [39]) := aa7 (by simp; omega)
  simp only [ax2, dge, false_eq_true, if_false, aP8, c1, c2, Option.bind_some, drop_length]
  cases odd <;> simp [dbl]
 ·simp [a43, oddB]
def bj1 (a : aa1) : Str := if a.Qz then a.Mz ++ [63] else a.Mz ++ [61] ++ a43 a.Value
theorem b40 {a : aa1} (h : okA a) : (bj1 a).length ≤ 15003 := by
 have := bl5 a.Value
 have h1 := h.1
 have h2 := h.2
 unfold bj1
 split <;> simp <;> omega
def aQ7 (l : List aa1) : Str := Go.Lib.join (l.map bj1) [32]
theorem cj2 (xs : List Str) (x sep : Str) : Go.Lib.join (xs ++ [x]) sep = if xs = [] then x else Go.Lib.join xs sep ++ sep ++ x := by
 cases xs with
 | nil => simp [Go.Lib.join_one]
 | cons y r =>
  rw [List.cons_append, Go.Lib.join_cons, Go.Lib.join_cons, if_neg (by simp)]
  simp [Go.Lib.joinTail]
theorem b41 {K : Nat} {sep : Str} : ∀ {l : List Str}, (∀ x ∈ l, x.length ≤ K) → (Go.Lib.join l sep).length ≤ l.length * (K + sep.length)
 | [], _ => by simp [Go.Lib.join_nil]
 | x :: r, h => by
  rw [Go.Lib.join_cons, length_append]
  have hx := h x (by simp)
  have : ∀ r : List Str, (∀ y ∈ r, y.length ≤ K) → (Go.Lib.joinTail sep r).length ≤ r.length * (K + sep.length) := by
   intro r
   induction r with
   | nil => intro _; simp [Go.Lib.joinTail]
   | cons y r ih =>
    intro h
    have h1 := ih fun z hz => h z (mem_cons_of_mem _ hz)
    have h2 := h y (by simp)
    unfold Go.Lib.joinTail at h1 ⊢
    rw [map_cons, List.flatten_cons, length_append, length_append, length_cons, Nat.add_mul, Nat.one_mul]
    omega
  have := this r fun z hz => h z (mem_cons_of_mem _ hz)
  rw [length_cons, Nat.add_mul, Nat.one_mul]
  omega
theorem bP4 {l : List aa1} (h : okL l) (i : Nat) : (Go.Lib.join ((l.take i).map bj1) [32]).length ≤ 75020000 := by
 have h1 := b41 (K := 15003) (sep := [32]) (l := (l.take i).map bj1) (by
  intro x hx
  obtain ⟨a, ha, rfl⟩ := List.mem_map.1 hx
  exact b40 (h.2 a (List.mem_of_mem_take ha)))
 have h2 := h.1
 simp only [List.length_map, List.length_take, length_cons, length_nil] at h1
 have : min i l.length * (15003 + (0 + 1)) ≤ 5000 * 15004 := Nat.mul_le_mul (by omega) (by omega)
 omega
theorem cv1 {l : List aa1} (h : okL l) : a77 l = some (if aW5 l = 0 then (aQ7 l, 0) else ([], aW5 l)) := by
 unfold a77
 rw [br6 h, Option.bind_some]
 by_cases hz : aW5 l = 0
 ·have hl := h.1
  have hmk : mkC 16 ([] : Str) 0 (List.length l : Int) = some [] := by
   unfold mkC
   rw [if_pos ⟨by omega, by omega, by omega, by omega⟩]; rfl
  simp only [hz, decide_true, Bool.not_true, false_eq_true, if_false, if_true, hmk, Option.bind_some]
  refine (ad1 (τ := Int × List Str) l.length (fun (x : List Str) i => (i, x)) (fun x => az8 l x.1 x.2) (fun i _ => (aQ7 l, 0)) (fun i x => x = (l.take i).map bj1) (s0 := []) (by simp) ?_ ?_).trans rfl
  ·rintro x i hi rfl
   left
   have ha := h.get hi
   have h1 := ha.1
   have h2 := ha.2
   have hw : wrap .i64 ((i : Int) + 1) = (i : Int) + 1 := ab0 (by omega)
   have hq := bl5 l[i].Value
   have c1 : aj2 l[i].Mz [63] = some (l[i].Mz ++ [63]) := aa7 (by simp; omega)
   have c2 : aj2 l[i].Mz [61] = some (l[i].Mz ++ [61]) := aa7 (by simp; omega)
   have c3 : aj2 (l[i].Mz ++ [61]) (a43 l[i].Value) = some (l[i].Mz ++ [61] ++ a43 l[i].Value) := aa7 (by simp; omega)
   have ap : ∀ y : Str, aE5 16 ((l.take i).map bj1) [y] = some ((l.take i).map bj1 ++ [y]) := fun y => af3 (by simp; omega) (by simp; omega)
   refine ⟨(l.take (i + 1)).map bj1, ?_, rfl, rfl⟩
   simp only [az8, dlt hi, if_true, aa6 hi, Option.bind_some, c1, c2, cv0 (s := l[i].Value) (by omega), c3, ap, hw]
   rw [take_succ_eq_append_getElem hi, List.map_append, map_cons, map_nil]
   unfold bj1
   cases l[i].Qz <;> simp
  ·rintro x rfl
   have hj : strings_Join (l.map bj1) [32] = some (aQ7 l) := by
    unfold strings_Join aQ7
    have := bP4 h l.length
    rw [take_length] at this
    exact bV4 (by simp; omega) (by omega)
   simp only [az8, dge, false_eq_true, if_false, aT3, take_length, hj, Option.bind_some, map_some]
 ·simp [hz]
theorem bW3 {l : List aa1} (h : okL l) : aY4 l = some (if aW5 l = 0 then (aQ7 l, 0) else ([], aW5 l)) := by
 unfold aY4
 rw [bc7 h, Option.bind_some]
 by_cases hz : aW5 l = 0
 ·have hl := h.1
  simp only [hz, decide_true, Bool.not_true, false_eq_true, if_false, if_true]
  refine (ad1 (τ := Str × Int) l.length (fun (x : Str) i => (x, i)) (fun x => ax4 l x.1 x.2) (fun i _ => (aQ7 l, 0)) (fun i x => x = Go.Lib.join ((l.take i).map bj1) [32]) (s0 := []) (by simp [Go.Lib.join_nil]) ?_ ?_).trans rfl
  ·rintro x i hi rfl
   left
   have ha := h.get hi
   have h1 := ha.1
   have h2 := ha.2
   have hw : wrap .i64 ((i : Int) + 1) = (i : Int) + 1 := ab0 (by omega)
   have hq := bl5 l[i].Value
   have hlen := bP4 h i
   refine ⟨Go.Lib.join ((l.take (i + 1)).map bj1) [32], ?_, rfl, rfl⟩
   generalize hp : Go.Lib.join ((l.take i).map bj1) [32] = p at hlen
   have hk : ∀ q : Str, q.length ≤ 75020001 → ax3 l i q = some (.cont (q ++ bj1 l[i], (i : Int) + 1)) := by
    intro q hq2
    have c1 : aj2 q l[i].Mz = some (q ++ l[i].Mz) := aa7 (by omega)
    have c2 : aj2 (q ++ l[i].Mz) [63] = some (q ++ l[i].Mz ++ [63]) := aa7 (by simp; omega)
    have c3 : aj2 (q ++ l[i].Mz) [61] = some (q ++ l[i].Mz ++ [61]) := aa7 (by simp; omega)
    have c4 : aj2 (q ++ l[i].Mz ++ [61]) (a43 l[i].Value) = some (q ++ l[i].Mz ++ [61] ++ a43 l[i].Value) := aa7 (by simp; omega)
    simp only [ax3, aa6 hi, Option.bind_some, c1, c2, c3, bW2 (s := l[i].Value) (by omega), c4, hw]
    unfold bj1
    cases l[i].Qz <;> simp
   have hsn : Go.Lib.join ((l.take (i + 1)).map bj1) [32] = if i = 0 then bj1 l[i] else p ++ [32] ++ bj1 l[i] := by
    rw [take_succ_eq_append_getElem hi, List.map_append, map_cons, map_nil, cj2, hp]
    by_cases h0 : i = 0
    ·subst h0; simp
    ·rw [if_neg, if_neg h0]
     simp only [List.map_eq_nil_iff, List.take_eq_nil_iff, not_or]
     exact ⟨h0, by intro e; rw [e] at hi; simp at hi⟩
   have c5 : aj2 p [32] = some (p ++ [32]) := aa7 (by simp; omega)
   simp only [ax4, dlt hi, if_true]
   rw [hsn]
   by_cases h0 : i = 0
   ·have hp0 : p = [] := by rw [← hp, h0]; simp [Go.Lib.join_nil]
    rw [hk p (by omega), hp0]
    simp [h0]
   ·have : (0 : Int) < (i : Int) := by omega
    simp only [this, decide_true, if_true, c5, Option.bind_some, h0, if_false]
    rw [hk _ (by simp; omega)]
  ·rintro x rfl
   simp only [ax4, dge, false_eq_true, if_false, take_length]
   rfl
 ·simp [hz]
def ah1 : Str → Option (Str × Nat)
 | [] => none
 | [c] => if c = 39 then some ([], 1) else none
 | c :: d :: r => if c = 39 then (if d = 39 then (ah1 r).map fun x => (39 :: x.1, x.2 + 2) else some ([], 1)) else (ah1 (d :: r)).map fun x => (c :: x.1, x.2 + 1)
theorem ca9 {c : UInt8} {r : Str} (h : c ≠ 39) : ah1 (c :: r) = (ah1 r).map fun x => (c :: x.1, x.2 + 1) := by
 cases r with
 | nil => simp [ah1, h]
 | cons d r => rw [ah1, if_neg h]
theorem bP5 {r : Str} (h : r.head? ≠ some 39) : ah1 (39 :: r) = some ([], 1) := by
 cases r with
 | nil => rfl
 | cons d r =>
  have : d ≠ 39 := by simpa using h
  rw [ah1, if_pos rfl, if_neg this]
theorem bW4 {r : Str} : ah1 (39 :: 39 :: r) = (ah1 r).map fun x => (39 :: x.1, x.2 + 2) := by
 rw [ah1, if_pos rfl, if_pos rfl]
theorem cb0 (c : UInt8) : decide ((c.toNat : Int) = 39) = decide (c = 39) := isC c 39
theorem is61 (c : UInt8) : decide ((c.toNat : Int) = 61) = decide (c = 61) := isC c 61
theorem is63 (c : UInt8) : decide ((c.toNat : Int) = 63) = decide (c = 63) := isC c 63
theorem bx1 (s : Str) (i : Nat) (hi : i ≤ s.length) : i = s.length ∨ ∃ h : i < s.length, (s[i] ≠ 39 ∧ ah1 (s.drop i) = (ah1 (s.drop (i + 1))).map fun x => (s[i] :: x.1, x.2 + 1)) ∨
  (s[i] = 39 ∧ (i + 1 = s.length ∨ ∃ h2 : i + 1 < s.length, s[i + 1] ≠ 39) ∧ ah1 (s.drop i) = some ([], 1)) ∨
  (s[i] = 39 ∧ (∃ h2 : i + 1 < s.length, s[i + 1] = 39) ∧ ah1 (s.drop i) = (ah1 (s.drop (i + 2))).map fun x => (39 :: x.1, x.2 + 2)) := by
 rcases lt_or_ge i s.length with h | h
 ·right
  refine ⟨h, ?_⟩
  rw [drop_eq_getElem_cons h]
  by_cases hc : s[i] = 39
  ·right
   rcases lt_or_ge (i + 1) s.length with h2 | h2
   ·by_cases hd : s[i + 1] = 39
    ·right
     refine ⟨hc, ⟨h2, hd⟩, ?_⟩
     rw [hc, drop_eq_getElem_cons h2, hd, bW4]
    ·left
     refine ⟨hc, Or.inr ⟨h2, hd⟩, ?_⟩
     rw [hc, drop_eq_getElem_cons h2]
     exact bP5 fun e => hd (Option.some.inj e)
   ·left
    refine ⟨hc, Or.inl (by omega), ?_⟩
    rw [hc, List.drop_of_length_le h2]; rfl
  ·left
   exact ⟨hc, ca9 hc⟩
 ·left; omega
theorem cj3 {s : Str} (hs : s.length ≤ 1000000) : aX8 s = some (match ah1 s with | some x => (x.1, (x.2 : Int), true) | none => ([], 0, false)) := by
 unfold aX8
 refine (aq2 (σ := Nat × Str) (fun x => am4 s x.1 x.2) (fun x => ((x.1 : Int), x.2)) (fun x => match ah1 (s.drop x.1) with | some y => (x.2 ++ y.1, ((x.1 + y.2 : Nat) : Int), true) | none => ([], 0, false)) (fun x => s.length - x.1)
  (fun x => x.1 ≤ s.length ∧ x.2.length ≤ x.1) ?_ (s0 := (0, [])) ⟨by simp, by simp⟩).trans ?_
 ·rintro ⟨i, acc⟩ ⟨h1, h2⟩
  simp only at h1 h2
  rcases bx1 s i h1 with he | ⟨h, hcase⟩
  ·right
   subst he
   simp [am4, ah1]
  ·have hw : wrap .i64 ((i : Int) + 1) = (i : Int) + 1 := ab0 (by omega)
   have hw2 : wrap .i64 ((i : Int) + 1 + 1) = ((i + 2 : Nat) : Int) := by rw [ab3 (by omega) (by omega)]; omega
   have b1 : ∀ c : UInt8, bAdd acc [c] = some (acc ++ [c]) := fun c => aM8 (by simp; omega)
   rcases hcase with ⟨hc, hq⟩ | ⟨hc, hn, hq⟩ | ⟨hc, ⟨h3, hd⟩, hq⟩
   ·left
    refine ⟨(i + 1, acc ++ [s[i]]), ?_, ?_, ⟨by simp only; omega, by simp; omega⟩, by simp only; omega⟩
    ·simp only [am4, dlt h, if_true, af7 h, Option.bind_some, cb0, hc, decide_false, Bool.not_false, b1, hw]
     rfl
    ·simp only [hq]
     cases ah1 (s.drop (i + 1)) with
     | none => rfl
     | some y => simp; omega
   ·right
    simp only [am4, dlt h, if_true, af7 h, Option.bind_some, cb0, hc, decide_true, Bool.not_true, false_eq_true, if_false, hw, hq]
    rcases hn with h3 | ⟨h3, hd⟩
    ·have : (i : Int) + 1 = (List.length s : Int) := by omega
     simp [this]
    ·have h4 : ¬ ((i : Int) + 1 = (List.length s : Int)) := by omega
     have h5 : ah4 s ((i : Int) + 1) = some s[i + 1] := by
      have := af7 h3
      rwa [show ((i + 1 : Nat) : Int) = (i : Int) + 1 by omega] at this
     simp [h4, h5, cb0, hd]
   ·left
    have h4 : ¬ ((i : Int) + 1 = (List.length s : Int)) := by omega
    have h5 : ah4 s ((i : Int) + 1) = some s[i + 1] := by
     have := af7 h3
     rwa [show ((i + 1 : Nat) : Int) = (i : Int) + 1 by omega] at this
    refine ⟨(i + 2, acc ++ [39]), ?_, ?_, ⟨by simp only; omega, by simp; omega⟩, by simp only; omega⟩
    ·simp only [am4, dlt h, if_true, af7 h, Option.bind_some, cb0, hc, decide_true, Bool.not_true, false_eq_true, if_false, hw, h4, decide_false, h5, hd, b1, hw2]
    ·simp only [hq]
     cases ah1 (s.drop (i + 2)) with
     | none => rfl
     | some y => simp; omega
 ·simp only [drop_zero]
  cases ah1 s <;> simp
theorem bP6 {s : Str} {a : Nat} (hs : s.length ≤ 1000000) (ha : a ≤ s.length) : aS2 s (a : Int) = some (match ah1 (s.drop a) with | some x => (x.1, ((a + x.2 : Nat) : Int), 0) | none => ([], (s.length : Int), 48)) := by
 unfold aS2
 refine (aq2 (σ := Nat × Str) (fun x => ak1 s x.1 x.2) (fun x => ((x.1 : Int), x.2)) (fun x => match ah1 (s.drop x.1) with | some y => (x.2 ++ y.1, ((x.1 + y.2 : Nat) : Int), 0) | none => ([], (s.length : Int), 48)) (fun x => s.length - x.1)
  (fun x => x.1 ≤ s.length ∧ x.2.length ≤ x.1) ?_ (s0 := (a, [])) ⟨ha, by simp⟩).trans ?_
 ·rintro ⟨i, acc⟩ ⟨h1, h2⟩
  simp only at h1 h2
  rcases bx1 s i h1 with he | ⟨h, hcase⟩
  ·right
   subst he
   simp [ak1, ah1]
  ·have hw : wrap .i64 ((i : Int) + 1) = (i : Int) + 1 := ab0 (by omega)
   have hw2 : wrap .i64 ((i : Int) + 2) = ((i + 2 : Nat) : Int) := by rw [ab3 (by omega) (by omega)]; omega
   have b1 : ∀ c : UInt8, aj2 acc [c] = some (acc ++ [c]) := fun c => aa7 (by simp; omega)
   rcases hcase with ⟨hc, hq⟩ | ⟨hc, hn, hq⟩ | ⟨hc, ⟨h3, hd⟩, hq⟩
   ·left
    refine ⟨(i + 1, acc ++ [s[i]]), ?_, ?_, ⟨by simp only; omega, by simp; omega⟩, by simp only; omega⟩
    ·simp only [ak1, dlt h, if_true, af7 h, Option.bind_some, cb0, hc, decide_false, Bool.not_false, b1, hw, ci5 h]
     rfl
    ·simp only [hq]
     cases ah1 (s.drop (i + 1)) with
     | none => rfl
     | some y => simp; omega
   ·right
    simp only [ak1, dlt h, if_true, af7 h, Option.bind_some, cb0, hc, decide_true, Bool.not_true, false_eq_true, if_false, hw, hq]
    rcases hn with h3 | ⟨h3, hd⟩
    ·have : (i : Int) + 1 = (List.length s : Int) := by omega
     simp [this]
    ·have h4 : ¬ ((i : Int) + 1 = (List.length s : Int)) := by omega
     have h5 : ah4 s ((i : Int) + 1) = some s[i + 1] := by
      have := af7 h3
      rwa [show ((i + 1 : Nat) : Int) = (i : Int) + 1 by omega] at this
     simp [h4, h5, cb0, hd]
   ·left
    have h4 : ¬ ((i : Int) + 1 = (List.length s : Int)) := by omega
    have h5 : ah4 s ((i : Int) + 1) = some s[i + 1] := by
     have := af7 h3
     rwa [show ((i + 1 : Nat) : Int) = (i : Int) + 1 by omega] at this
    refine ⟨(i + 2, acc ++ [39]), ?_, ?_, ⟨by simp only; omega, by simp; omega⟩, by simp only; omega⟩
    ·simp only [ak1, dlt h, if_true, af7 h, Option.bind_some, cb0, hc, decide_true, Bool.not_true, false_eq_true, if_false, hw, h4, decide_false, h5, hd, b1, hw2]
    ·simp only [hq]
     cases ah1 (s.drop (i + 2)) with
     | none => rfl
     | some y => simp; omega
 ·simp only
  cases ah1 (s.drop a) <;> simp
def aA1 (c : UInt8) : Bool := decide ((c.toNat : Int) = 32) || decide ((c.toNat : Int) = 9)
def aV8 (s : Str) : Bool := match s with
 | [] => true
 | c :: _ => aA1 c
def bad (e : Int) : aa1 × Nat × Int := (⟨[], [], false⟩, 0, e)
def fin (s : Str) (a : aa1) (n : Nat) : aa1 × Nat × Int := if aV8 (s.drop n) then (a, n, 0) else bad 2
def cO4 (s nm : Str) (n : Nat) (r : Str) : aa1 × Nat × Int := if (r.take (af5 [32, 9] r)).contains 39 then bad 2 else fin s ⟨nm, r.take (af5 [32, 9] r), false⟩ (n + (1 + af5 [32, 9] r))
def cA7 (s nm : Str) (n : Nat) : Str → aa1 × Nat × Int
 | [] => bad 2
 | c :: r => if c = 63 then fin s ⟨nm, [], true⟩ (n + 1) else if c = 61 then
  (if ([39] : Str).isPrefixOf r then (match ah1 (r.drop 1) with | none => bad 48 | some x => fin s ⟨nm, x.1, false⟩ (n + (2 + x.2))) else cO4 s nm n r) else bad 2
def aJ8 : Str := [32, 9, 61, 63, 39]
def br7 (s : Str) : aa1 × Nat × Int := cA7 s (s.take (af5 aJ8 s)) (af5 aJ8 s) (s.drop (af5 aJ8 s))
theorem bJ3 {s nm v : Str} {n : Nat} {q : Bool} (hn : n ≤ s.length) : aF4 s nm (n : Int) v q = some ((fin s ⟨nm, v, q⟩ n).1, ((fin s ⟨nm, v, q⟩ n).2.1 : Int), (fin s ⟨nm, v, q⟩ n).2.2) := by
 unfold aF4 fin
 rcases lt_or_ge n s.length with h | h
 ·simp only [dlt h, if_true, af7 h, Option.bind_some, aU5, drop_eq_getElem_cons h, aV8]
  change (if (!aA1 s[n]) = true then _ else _) = _
  cases aA1 s[n] <;> rfl
 ·have : n = s.length := by omega
  subst this
  simp [aV8]
theorem aQ8 : ∀ (s : Str) (x : Str × Nat), ah1 s = some x → x.1.length ≤ x.2 ∧ 1 ≤ x.2 ∧ x.2 ≤ s.length
 | [], x, h => by simp [ah1] at h
 | [c], x, h => by
  unfold ah1 at h
  split at h
  ·cases h; simp
  ·cases h
 | c :: d :: r, x, h => by
  rw [ah1] at h
  split at h
  ·split at h
   ·obtain ⟨y, hy, rfl⟩ := Option.map_eq_some_iff.1 h
    have := aQ8 r y hy
    simp; omega
   ·cases h; simp
  ·obtain ⟨y, hy, rfl⟩ := Option.map_eq_some_iff.1 h
   have := aQ8 (d :: r) y hy
   simp at this ⊢; omega
theorem cO5 {s : Str} (hs : s.length ≤ 1000000) : br4 s = some ((br7 s).1, ((br7 s).2.1 : Int), (br7 s).2.2) := by
 unfold br4 br7
 have hn := aQ6 aJ8 s
 have hu : au1 s [32, 9, 61, 63, 39] = some (af5 aJ8 s : Int) := bg9 hs
 rw [hu, Option.bind_some]
 generalize af5 aJ8 s = n at hn ⊢
 rw [aO5 hn, Option.bind_some, ay2 hn, Option.bind_some]
 generalize hr : s.drop n = rest
 have hlen : rest.length = s.length - n := by rw [← hr, length_drop]
 simp only [bh0, Option.bind_some]
 cases rest with
 | nil => simp [List.isPrefixOf, cA7, bad]
 | cons c r =>
  simp only [length_cons] at hlen
  unfold cA7
  by_cases h63 : c = 63
  ·subst h63
   have hw : wrap .i64 ((n : Int) + 1) = ((n + 1 : Nat) : Int) := by rw [ab3 (by omega) (by omega)]; omega
   simp only [List.isPrefixOf, BEq.rfl, Bool.and_true, if_true, hw]
   exact bJ3 (by omega)
  ·have e63 : ((63 : UInt8) == c) = false := by simpa using Ne.symm h63
   simp only [List.isPrefixOf, e63, Bool.false_and, false_eq_true, if_false, h63]
   by_cases h61 : c = 61
   ·subst h61
    simp only [BEq.rfl, Bool.true_and, if_true]
    cases r with
    | nil =>
     have hu2 : au1 [61] [32, 9] = some (1 : Int) := bg9 (by simp)
     have hcut : cut ([61] : Str) 1 1 = some [] := rfl
     have hcon : strings_Contains [] [39] = some false := rfl
     have hw : wrap .i64 ((n : Int) + 1) = ((n + 1 : Nat) : Int) := by rw [ab3 (by omega) (by omega)]; omega
     simp only [List.isPrefixOf, false_eq_true, if_false, hu2, Option.bind_some, hcut, hcon, hw]
     exact bJ3 (by simp at hlen; omega)
    | cons d r2 =>
     simp only [List.isPrefixOf, Bool.and_true]
     by_cases h39 : d = 39
     ·subst h39
      have hcut : cut (61 :: 39 :: r2) 2 (List.length (61 :: 39 :: r2) : Int) = some r2 := by
       have := ay2 (l := (61 :: 39 :: r2 : Str)) (a := 2) (by simp)
       simpa using this
      simp only [length_cons] at hlen
      have hcut' : cut (61 :: 39 :: r2) 2 (List.length (61 :: 39 :: r2) : Int) = some r2 := hcut
      simp only [BEq.rfl, if_true, hcut', Option.bind_some, cj3 (s := r2) (by omega), drop_succ_cons, drop_zero]
      cases hq : ah1 r2 with
      | none => simp [bad]
      | some x =>
       have hx := aQ8 r2 x hq
       have hw1 : wrap .i64 (2 + (x.2 : Int)) = 2 + (x.2 : Int) := ab3 (by omega) (by omega)
       have hw2 : wrap .i64 ((n : Int) + (2 + (x.2 : Int))) = ((n + (2 + x.2) : Nat) : Int) := by rw [ab3 (by omega) (by omega)]; omega
       simp only [Bool.not_true, false_eq_true, if_false, hw1, hw2]
       exact bJ3 (by omega)
     ·have e39 : ((39 : UInt8) == d) = false := by simpa using Ne.symm h39
      simp only [length_cons] at hlen
      have hu2 : au1 (61 :: d :: r2) [32, 9] = some ((af5 [32, 9] (d :: r2) + 1 : Nat) : Int) := by
       rw [bg9 (by simp; omega), af5]; rfl
      have hle := aQ6 [32, 9] (d :: r2)
      simp only [length_cons] at hle
      simp only [e39, false_eq_true, if_false, hu2, Option.bind_some]
      unfold cO4
      generalize af5 [32, 9] (d :: r2) = k at hle ⊢
      have hcut : cut (61 :: d :: r2) 1 ((k + 1 : Nat) : Int) = some ((d :: r2).take k) := by
       have := bl1 (l := (61 :: d :: r2 : Str)) (a := 1) (b := k + 1) (by omega) (by simp; omega)
       simpa using this
      have hcon : strings_Contains ((d :: r2).take k) [39] = some (((d :: r2).take k).contains 39) := by
       unfold strings_Contains strings_Index bO1
       rw [Option.bind_some, cA5]
      have hw : wrap .i64 ((n : Int) + ((k + 1 : Nat) : Int)) = ((n + (1 + k) : Nat) : Int) := by rw [ab3 (by omega) (by omega)]; omega
      simp only [hcut, Option.bind_some, hcon, hw]
      cases hc : ((d :: r2).take k).contains 39 with
      | true => simp [bad]
      | false =>
       simp only [false_eq_true, if_false]
       exact bJ3 (by omega)
   ·have e61 : ((61 : UInt8) == c) = false := by simpa using Ne.symm h61
    simp [e61, h61, bad]
theorem bJ4 {s : Str} {i : Nat} (hi : i ≤ s.length) : aN2 s (i : Int) = some (aV8 (s.drop i)) := by
 unfold aN2
 rcases lt_or_ge i s.length with h | h
 ·have : ¬ ((i : Int) = (List.length s : Int)) := by omega
  simp only [this, decide_false, false_eq_true, if_false, af7 h, Option.bind_some, aA8, drop_eq_getElem_cons h, aV8]
  rfl
 ·have : i = s.length := by omega
  subst this
  simp [aV8]
theorem cj4 (stops s : Str) : (s.drop (af5 stops s) = []) ∨ ∃ c r, s.drop (af5 stops s) = c :: r ∧ stops.contains c = true := by
 induction s with
 | nil => left; rfl
 | cons c r ih =>
  unfold af5
  by_cases hc : stops.contains c = true
  ·right; exact ⟨c, r, by rw [if_pos hc]; rfl, hc⟩
  ·rw [if_neg hc, drop_succ_cons]; exact ih
theorem bh2 (stops s : Str) : ∀ i (h : i < s.length), i < af5 stops s → stops.contains s[i] = false := by
 induction s with
 | nil => intro i h; simp at h
 | cons c r ih =>
  intro i h hi
  unfold af5 at hi
  by_cases hc : stops.contains c = true
  ·rw [if_pos hc] at hi; omega
  ·rw [if_neg hc] at hi
   cases i with
   | zero => simpa using hc
   | succ i => exact ih i (by simpa using h) (by omega)
theorem cj5 (c : UInt8) : aA1 c = ([32, 9] : Str).contains c := by
 revert c; exact fun c => aT2 (f := aA1) (g := fun c => ([32, 9] : Str).contains c) (by decide +kernel) c
theorem bP7 (r : Str) : (∃ t, r.drop (af5 [32, 9, 39] r) = 39 :: t ∧ (r.take (af5 [32, 9] r)).contains 39 = true) ∨
  (aV8 (r.drop (af5 [32, 9, 39] r)) = true ∧ af5 [32, 9] r = af5 [32, 9, 39] r ∧ (r.take (af5 [32, 9] r)).contains 39 = false) := by
 induction r with
 | nil => right; exact ⟨rfl, rfl, rfl⟩
 | cons c r ih =>
  have hm : ([32, 9, 39] : Str).contains c = (([32, 9] : Str).contains c || decide (c = 39)) := aT2 (f := fun c => ([32, 9, 39] : Str).contains c) (g := fun c => (([32, 9] : Str).contains c || decide (c = 39))) (by decide +kernel) c
  by_cases hb : ([32, 9] : Str).contains c = true
  ·right
   have h3 : ([32, 9, 39] : Str).contains c = true := by rw [hm, hb]; rfl
   simp only [af5, if_pos hb, if_pos h3, drop_zero, List.take_zero, aV8, cj5]
   exact ⟨hb, trivial, rfl⟩
  ·have hb' := eq_false_iff.2 hb
   by_cases h39 : c = 39
   ·left
    have h3 : ([32, 9, 39] : Str).contains c = true := by rw [hm, h39]; rfl
    simp only [af5, if_neg hb, if_pos h3, drop_zero, take_succ_cons]
    exact ⟨r, by rw [h39], by rw [h39]; simp⟩
   ·have h3 : ¬ ([32, 9, 39] : Str).contains c = true := by rw [hm, hb']; simp [h39]
    simp only [af5, if_neg hb, if_neg h3, drop_succ_cons, take_succ_cons]
    have hcc : ∀ l : Str, (c :: l).contains 39 = l.contains 39 := by
     intro l; rw [List.contains_cons]
     have : ((39 : UInt8) == c) = false := by simpa using Ne.symm h39
     rw [this, Bool.false_or]
    rcases ih with ⟨t, h1, h2⟩ | ⟨h1, h2, h3⟩
    ·left; exact ⟨t, h1, by rw [hcc]; exact h2⟩
    ·right; exact ⟨h1, by rw [h2], by rw [hcc]; exact h3⟩
theorem cv2 (s : Str) (at_ : Nat) (a : aa1) (n : Nat) : fin (s.drop at_) a n = if aV8 (s.drop (at_ + n)) then (a, n, 0) else bad 2 := by
 unfold fin; rw [drop_drop]
def agree (x : aa1 × Int × Int) (at_ : Nat) (o : aa1 × Nat × Int) : Prop := x.2.2 = o.2.2 ∧ (o.2.2 = 0 → x.1 = o.1 ∧ x.2.1 = ((at_ + o.2.1 : Nat) : Int))
theorem a44 {s : Str} {at_ : Nat} {a : aa1} {n : Nat} {x : aa1 × Int × Int} (h1 : aV8 (s.drop (at_ + n)) = true → x = (a, ((at_ + n : Nat) : Int), 0)) (h2 : aV8 (s.drop (at_ + n)) = false → x.2.2 = 2) : agree x at_ (fin (s.drop at_) a n) := by
 rw [cv2]
 cases h : aV8 (s.drop (at_ + n)) with
 | true => rw [if_pos rfl, h1 h]; exact ⟨rfl, fun _ => ⟨rfl, rfl⟩⟩
 | false => rw [if_neg (by simp)]; exact ⟨h2 h, fun e => by simp [bad] at e⟩
theorem cj6 {s : Str} {at_ n : Nat} (hs : s.length ≤ 1000000) (ha : at_ ≤ s.length) (hn : n ≤ s.length - at_) :
  ∃ x, aH7 s (at_ : Int) ((at_ + n : Nat) : Int) = some x ∧ agree x at_ (cA7 (s.drop at_) ((s.drop at_).take n) n ((s.drop at_).drop n)) := by
 unfold aH7
 have hcut : cut s (at_ : Int) ((at_ + n : Nat) : Int) = some ((s.drop at_).take n) := by
  rw [bl1 (by omega) (by omega), List.drop_take, Nat.add_sub_cancel_left]
 rw [hcut, Option.bind_some]
 generalize (s.drop at_).take n = nm
 rw [drop_drop]
 rcases lt_or_ge (at_ + n) s.length with h | h
 ·have hne : ¬ (((at_ + n : Nat) : Int) = (List.length s : Int)) := by omega
  have hw : wrap .i64 (((at_ + n : Nat) : Int) + 1) = ((at_ + n + 1 : Nat) : Int) := by rw [ab3 (by omega) (by omega)]; omega
  have hw2 : wrap .i64 (((at_ + n + 1 : Nat) : Int) + 1) = ((at_ + n + 2 : Nat) : Int) := by rw [ab3 (by omega) (by omega)]; omega
  simp only [dlt h, if_true, af7 h, Option.bind_some, is63, is61, hw, hw2, hne, decide_false, false_eq_true, if_false, bJ4 (s := s) (i := at_ + n + 1) (by omega), drop_eq_getElem_cons h]
  generalize s[at_ + n] = c
  unfold cA7
  by_cases h63 : c = 63
  ·subst h63
   simp only [decide_true, if_true, Option.bind_some]
   cases he : aV8 (s.drop (at_ + n + 1)) with
   | true =>
    refine ⟨_, by simp only [if_true]; rfl, ?_⟩
    refine a44 (fun _ => ?_) (fun h => ?_)
    ·rfl
    ·rw [← add_assoc, he] at h; cases h
   | false =>
    refine ⟨_, by simp only [false_eq_true, if_false]; rfl, ?_⟩
    refine a44 (fun h => ?_) (fun h => rfl)
    rw [← add_assoc, he] at h; cases h
  ·simp only [h63, decide_false, false_eq_true, if_false, Option.bind_some]
   by_cases h61 : c = 61
   ·subst h61
    simp only [decide_true, Bool.not_true, false_eq_true, if_false, if_true]
    have hlast : ∀ r, s.drop (at_ + n + 1) = r → ([39] : Str).isPrefixOf r = false → ∃ x, ab1 (fun t => au4 s ((at_ + n : Nat) : Int) nm t) ((at_ + n + 1 : Nat) : Int) = some x ∧ agree x at_ (cO4 (s.drop at_) nm n r) := by
     intro r hr _
     have hrl : r.length = s.length - (at_ + n + 1) := by rw [← hr, length_drop]
     have hq := aQ6 [32, 9, 39] r
     have hdrop : ∀ k, r.drop k = s.drop (at_ + n + 1 + k) := by intro k; rw [← hr, drop_drop]
     have hbef : ∀ k (hk : at_ + n + 1 + k < s.length), k < af5 [32, 9, 39] r → aA1 s[at_ + n + 1 + k] = false ∧ s[at_ + n + 1 + k] ≠ 39 := by
      intro k hk hk2
      have h1 := bh2 [32, 9, 39] r k (by omega) hk2
      have h2 : r[k]'(by omega) = s[at_ + n + 1 + k] := by
       subst hr; rw [getElem_drop]
      rw [h2] at h1
      have hm : ([32, 9, 39] : Str).contains s[at_ + n + 1 + k] = (aA1 s[at_ + n + 1 + k] || decide (s[at_ + n + 1 + k] = 39)) := aT2 (f := fun c => ([32, 9, 39] : Str).contains c) (g := fun c => (aA1 c || decide (c = 39))) (by decide +kernel) _
      rw [hm, Bool.or_eq_false_iff] at h1
      exact ⟨h1.1, by simpa using h1.2⟩
     let X : aa1 × Int × Int := if aV8 (s.drop (at_ + n + 1 + af5 [32, 9, 39] r)) then (⟨nm, r.take (af5 [32, 9, 39] r), false⟩, ((at_ + n + 1 + af5 [32, 9, 39] r : Nat) : Int), 0) else (⟨nm, [], false⟩, ((at_ + n + 1 + af5 [32, 9, 39] r : Nat) : Int), 2)
     refine ⟨X, ?_, ?_⟩
     ·refine aq2 (σ := Nat) (fun t => au4 s ((at_ + n : Nat) : Int) nm t) (fun k => ((at_ + n + 1 + k : Nat) : Int)) (fun _ => X) (fun k => af5 [32, 9, 39] r - k) (fun k => k ≤ af5 [32, 9, 39] r) ?_ (s0 := 0) (zero_le _)
      intro k hk
      have hle : at_ + n + 1 + k ≤ s.length := by omega
      rcases lt_or_ge k (af5 [32, 9, 39] r) with hk2 | hk2
      ·have hlt : at_ + n + 1 + k < s.length := by omega
       obtain ⟨b1, b2⟩ := hbef k hlt hk2
       left
       refine ⟨k + 1, ?_, rfl, by omega, by omega⟩
       have hwk : wrap .i64 (((at_ + n + 1 + k : Nat) : Int) + 1) = ((at_ + n + 1 + (k + 1) : Nat) : Int) := by rw [ab3 (by omega) (by omega)]; omega
       simp only [au4, bJ4 hle, Option.bind_some, drop_eq_getElem_cons hlt, aV8, b1, Bool.not_false, if_true, af7 hlt, cb0, b2, decide_false, false_eq_true, if_false, hwk]
      ·have hke : k = af5 [32, 9, 39] r := by omega
       right
       have hcut2 : cut s (wrap .i64 (((at_ + n : Nat) : Int) + 1)) ((at_ + n + 1 + k : Nat) : Int) = some (r.take k) := by
        rw [hw, bl1 (by omega) hle, List.drop_take, Nat.add_sub_cancel_left, hr]
       simp only [au4, bJ4 hle, Option.bind_some, aT4, hcut2, map_some]
       show _ = some (Step.done X)
       simp only [X, ← hke]
       cases he : aV8 (s.drop (at_ + n + 1 + k)) with
       | true => simp
       | false =>
        rcases bP7 r with ⟨t, h1, h2⟩ | ⟨h1, _⟩
        ·have hlt : at_ + n + 1 + k < s.length := by
          rw [← hke, hdrop] at h1
          rcases lt_or_ge (at_ + n + 1 + k) s.length with h | h
          ·exact h
          ·rw [List.drop_of_length_le h] at h1; cases h1
         have hc : s[at_ + n + 1 + k] = 39 := by
          rw [← hke, hdrop, drop_eq_getElem_cons hlt] at h1
          exact (List.cons.inj h1).1
         simp only [Bool.not_false, if_true, af7 hlt, Option.bind_some, cb0, hc, decide_true, false_eq_true, if_false]
        ·rw [← hke, hdrop, he] at h1; cases h1
     ·unfold cO4
      rcases bP7 r with ⟨t, h1, h2⟩ | ⟨h1, h2, h3⟩
      ·rw [h2, if_pos rfl]
       have he : aV8 (s.drop (at_ + n + 1 + af5 [32, 9, 39] r)) = false := by rw [← hdrop, h1]; rfl
       simp only [X, he, false_eq_true, if_false]
       exact ⟨rfl, fun e => by simp [bad] at e⟩
      ·rw [h3, if_neg (by simp), h2]
       have he : aV8 (s.drop (at_ + (n + (1 + af5 [32, 9, 39] r)))) = true := by
        rw [show at_ + (n + (1 + af5 [32, 9, 39] r)) = at_ + n + 1 + af5 [32, 9, 39] r by omega, ← hdrop]; exact h1
       refine a44 (fun _ => ?_) (fun h => by rw [he] at h; cases h)
       have he' : aV8 (s.drop (at_ + n + 1 + af5 [32, 9, 39] r)) = true := by rw [← hdrop]; exact h1
       simp only [X, he', if_true]
       rw [show at_ + n + 1 + af5 [32, 9, 39] r = at_ + (n + (1 + af5 [32, 9, 39] r)) by omega]
    generalize hr : s.drop (at_ + n + 1) = r
    rcases lt_or_ge (at_ + n + 1) s.length with h2 | h2
    ·have hr2 := hr
     rw [drop_eq_getElem_cons h2] at hr2
     simp only [dlt h2, if_true, af7 h2, Option.bind_some, cb0]
     by_cases h39 : s[at_ + n + 1] = 39
     ·have hp : ([39] : Str).isPrefixOf r = true := by rw [← hr2, h39]; rfl
      have hd : r.drop 1 = s.drop (at_ + n + 2) := by rw [← hr2]; rfl
      simp only [h39, decide_true, if_true, bP6 hs (show at_ + n + 2 ≤ s.length by omega), Option.bind_some, hp, hd]
      cases hq : ah1 (s.drop (at_ + n + 2)) with
      | none => exact ⟨_, rfl, rfl, fun e => by simp [bad] at e⟩
      | some x =>
       have hx := aQ8 _ x hq
       rw [length_drop] at hx
       simp only [decide_true, if_true, bJ4 (s := s) (i := at_ + n + 2 + x.2) (by omega), Option.bind_some, aH6]
       cases he : aV8 (s.drop (at_ + n + 2 + x.2)) with
       | true =>
        refine ⟨_, by simp only [Bool.not_true, false_eq_true, if_false]; rfl, a44 (fun _ => ?_) (fun h => ?_)⟩
        ·rw [show at_ + (n + (2 + x.2)) = at_ + n + 2 + x.2 by omega]
        ·rw [show at_ + (n + (2 + x.2)) = at_ + n + 2 + x.2 by omega, he] at h; cases h
       | false =>
        refine ⟨_, by simp only [Bool.not_false, if_true]; rfl, a44 (fun h => ?_) (fun h => rfl)⟩
        rw [show at_ + (n + (2 + x.2)) = at_ + n + 2 + x.2 by omega, he] at h; cases h
     ·have hp : ([39] : Str).isPrefixOf r = false := by
       rw [← hr2]
       have : ((39 : UInt8) == s[at_ + n + 1]) = false := by simpa using Ne.symm h39
       simp only [List.isPrefixOf, this, Bool.false_and]
      simp only [h39, decide_false, false_eq_true, if_false, hp]
      exact hlast r hr hp
    ·have hr3 : r = [] := by rw [← hr]; exact List.drop_of_length_le h2
     have hp : ([39] : Str).isPrefixOf r = false := by rw [hr3]; rfl
     have h3 : ¬ (((at_ + n + 1 : Nat) : Int) < (List.length s : Int)) := by omega
     simp only [h3, decide_false, false_eq_true, if_false, Option.bind_some, hp]
     exact hlast r hr hp
   ·simp only [h61, decide_false, Bool.not_false, if_true, if_false]
    exact ⟨_, rfl, rfl, fun e => by simp [bad] at e⟩
 ·have he : at_ + n = s.length := by omega
  rw [he, drop_length]
  simp only [dge, false_eq_true, if_false, Option.bind_some, decide_true, if_true]
  exact ⟨_, rfl, rfl, fun e => by simp [cA7, bad] at e⟩
theorem cG0 {s : Str} {at_ : Nat} (hs : s.length ≤ 1000000) (ha : at_ ≤ s.length) : ∃ x, a81 s (at_ : Int) = some x ∧ agree x at_ (br7 (s.drop at_)) := by
 unfold br7
 have hn := aQ6 aJ8 (s.drop at_)
 rw [length_drop] at hn
 obtain ⟨x, hx, hagree⟩ := cj6 hs ha hn
 refine ⟨x, ?_, hagree⟩
 unfold a81
 refine aq2 (σ := Nat) (fun t => au5 s (at_ : Int) t) (fun k => ((at_ + k : Nat) : Int)) (fun _ => x) (fun k => af5 aJ8 (s.drop at_) - k) (fun k => k ≤ af5 aJ8 (s.drop at_)) ?_ (s0 := 0) (zero_le _)
 intro k hk
 have key : ∀ c : UInt8, ((if (!aA1 c) then (if (!decide (c = 61)) then (if (!decide (c = 63)) then some (!decide (c = 39)) else some false) else some false) else some false) : Option Bool) = some (!aJ8.contains c) := aT2 (by decide +kernel)
 have hsp : ∀ c : UInt8, aA8 (c.toNat : Int) = some (aA1 c) := fun c => rfl
 rcases lt_or_ge k (af5 aJ8 (s.drop at_)) with hk2 | hk2
 ·have hlt : at_ + k < s.length := by omega
  have h1 := bh2 aJ8 (s.drop at_) k (by rw [length_drop]; omega) hk2
  rw [getElem_drop] at h1
  left
  refine ⟨k + 1, ?_, rfl, by omega, by omega⟩
  have hw : wrap .i64 (((at_ + k : Nat) : Int) + 1) = ((at_ + (k + 1) : Nat) : Int) := by rw [ab3 (by omega) (by omega)]; omega
  simp only [au5, dlt hlt, if_true, af7 hlt, Option.bind_some, hsp, is61, is63, cb0, key, h1, Bool.not_false, hw]
 ·have hke : k = af5 aJ8 (s.drop at_) := by omega
  right
  rw [← hke] at hx
  rcases lt_or_ge (at_ + k) s.length with hlt | hge
  ·have h1 : aJ8.contains s[at_ + k] = true := by
    rcases cj4 aJ8 (s.drop at_) with h | ⟨c, r, h, hc⟩
    ·rw [← hke, drop_drop, drop_eq_getElem_cons hlt] at h; cases h
    ·rw [← hke, drop_drop, drop_eq_getElem_cons hlt] at h
     rw [(List.cons.inj h).1]; exact hc
   simp only [au5, dlt hlt, if_true, af7 hlt, Option.bind_some, hsp, is61, is63, cb0, key, h1, Bool.not_true, false_eq_true, if_false, hx, map_some]
  ·have h3 : ¬ (((at_ + k : Nat) : Int) < (List.length s : Int)) := by omega
   simp only [au5, h3, decide_false, false_eq_true, if_false, Option.bind_some, hx, map_some]
def bh3 (out : List aa1) (o : aa1 × Nat × Int) : Int := if o.2.2 = 0 then chk out o.1 else o.2.2
def ap4 : Nat → List aa1 → Nat → Str → List aa1 × Int × Int
 | 0, out, _, _ => (out, 0, 0)
 | _ + 1, out, _, [] => (out, 0, 0)
 | f + 1, out, i, c :: r => if aA1 c then ap4 f out (i + 1) r else if bh3 out (br7 (c :: r)) = 0 then ap4 f (out ++ [(br7 (c :: r)).1]) (i + (br7 (c :: r)).2.1) ((c :: r).drop (br7 (c :: r)).2.1) else ([], (i : Int), bh3 out (br7 (c :: r)))
def af0 (s : Str) : List aa1 × Int × Int := ap4 (s.length + 1) [] 0 s
theorem bx2 {s : Str} {a : aa1} {n : Nat} (h : (fin s a n).2.2 = 0) : fin s a n = (a, n, 0) := by
 unfold fin at h ⊢
 split
 ·rfl
 ·rename_i hc; rw [if_neg hc] at h; simp [bad] at h
theorem bx3 {s : Str} (h : (br7 s).2.2 = 0) : 1 ≤ (br7 s).2.1 ∧ (br7 s).2.1 ≤ s.length ∧ (br7 s).1.Mz.length ≤ s.length ∧ (br7 s).1.Value.length ≤ s.length := by
 unfold br7 at h ⊢
 have hn := aQ6 aJ8 s
 generalize af5 aJ8 s = n at hn h ⊢
 generalize hr : s.drop n = rest at h ⊢
 have hlen : rest.length = s.length - n := by rw [← hr, length_drop]
 cases rest with
 | nil => simp [cA7, bad] at h
 | cons c r =>
  simp only [length_cons] at hlen
  simp only [cA7] at h ⊢
  split at h
  ·rename_i hc
   rw [if_pos hc, bx2 h]; simp; omega
  ·rename_i hc
   rw [if_neg hc]
   split at h
   ·rename_i h61
    rw [if_pos h61]
    split at h
    ·rename_i hp
     rw [if_pos hp]
     cases hq : ah1 (r.drop 1) with
     | none => rw [hq] at h; simp [bad] at h
     | some x =>
      rw [hq] at h
      simp only at h ⊢
      have hx := aQ8 _ x hq
      rw [length_drop] at hx
      rw [bx2 h]; simp; omega
    ·rename_i hp
     rw [if_neg hp]
     unfold cO4 at h ⊢
     have hu := aQ6 [32, 9] r
     split at h
     ·simp [bad] at h
     ·rename_i hq
      rw [if_neg hq, bx2 h]; simp; omega
   ·simp [bad] at h
theorem bE3 {f i : Nat} {out : List aa1} {s : Str} (h : i < s.length) : ap4 (f + 1) out i (s.drop i) = if aA1 s[i] then ap4 f out (i + 1) (s.drop (i + 1)) else
  if bh3 out (br7 (s.drop i)) = 0 then ap4 f (out ++ [(br7 (s.drop i)).1]) (i + (br7 (s.drop i)).2.1) (s.drop (i + (br7 (s.drop i)).2.1)) else ([], (i : Int), bh3 out (br7 (s.drop i))) := by
 conv => lhs; rw [drop_eq_getElem_cons h, ap4]
 rw [← drop_eq_getElem_cons h, drop_drop]
theorem cb1 {out : List aa1} {o : aa1 × Nat × Int} (h : bh3 out o = 0) : o.2.2 = 0 := by
 unfold bh3 at h
 split at h
 ·rename_i h1; exact h1
 ·rename_i h1; exact absurd h h1
theorem bJ5 {s : Str} (hs : s.length ≤ 1000000) : aF5 s = some (af0 s) := by
 unfold aF5
 refine (aq2 (σ := Nat × Nat × List aa1) (fun x => az6 s x.1 x.2) (fun x => ((x.2.1 : Int), x.2.2)) (fun x => ap4 x.1 x.2.2 x.2.1 (s.drop x.2.1)) (fun x => x.1)
  (fun x => x.2.1 ≤ s.length ∧ s.length - x.2.1 < x.1 ∧ x.2.2.length ≤ x.2.1) ?_ (s0 := (s.length + 1, 0, [])) ⟨by simp, by simp, by simp⟩).trans ?_
 ·rintro ⟨f, i, out⟩ ⟨h1, h2, h3⟩
  simp only at h1 h2 h3
  obtain ⟨f, rfl⟩ : ∃ g, f = g + 1 := ⟨f - 1, by omega⟩
  have hb : ∀ c : UInt8, aU5 (c.toNat : Int) = some (aA1 c) := fun c => rfl
  rcases lt_or_ge i s.length with h | h
  ·have hw : wrap .i64 ((i : Int) + 1) = ((i + 1 : Nat) : Int) := by rw [ab3 (by omega) (by omega)]; omega
   have hso : (s.drop i).length ≤ 1000000 := by rw [length_drop]; omega
   simp only [az6, dlt h, if_true, af7 h, Option.bind_some, hb, ay2 h1, cO5 hso, bE3 h]
   cases hbl : aA1 s[i] with
   | true =>
    left
    refine ⟨(f, i + 1, out), ?_, rfl, ⟨by simp only; omega, by simp only; omega, by simp only; omega⟩, by simp⟩
    simp only [if_true, hw]
   | false =>
    simp only [false_eq_true, if_false]
    generalize ho : br7 (s.drop i) = o
    have hof : o.2.2 = 0 → 1 ≤ o.2.1 ∧ o.2.1 ≤ (s.drop i).length ∧ o.1.Mz.length ≤ (s.drop i).length ∧ o.1.Value.length ≤ (s.drop i).length := by
     intro hz; rw [← ho] at hz ⊢; exact bx3 hz
    rw [length_drop] at hof
    by_cases hz : o.2.2 = 0
    ·obtain ⟨g1, g2, g3, g4⟩ := hof hz
     have hck : aM9 out o.1 = some (chk out o.1) := b39 (by omega) (by omega) (by omega)
     have hst : bh3 out o = chk out o.1 := by unfold bh3; rw [if_pos hz]
     have hw2 : wrap .i64 ((i : Int) + (o.2.1 : Int)) = ((i + o.2.1 : Nat) : Int) := by rw [ab3 (by omega) (by omega)]; omega
     have hap : aE5 40 out [o.1] = some (out ++ [o.1]) := af3 (by simp; omega) (by simp; omega)
     simp only [hz, decide_true, if_true, hck, Option.bind_some, az5, hst, hap, hw2]
     by_cases hc : chk out o.1 = 0
     ·left
      refine ⟨(f, i + o.2.1, out ++ [o.1]), ?_, ?_, ⟨by simp only; omega, by simp only; omega, by simp; omega⟩, by simp⟩
      ·simp only [hc, decide_true, Bool.not_true, false_eq_true, if_false]
      ·simp only [hc, if_true]
     ·right
      simp only [hc, decide_false, Bool.not_false, if_true, if_false]
    ·right
     have hst : bh3 out o = o.2.2 := by unfold bh3; rw [if_neg hz]
     simp only [hz, decide_false, false_eq_true, if_false, az5, Bool.not_false, if_true, hst]
  ·right
   have : i = s.length := by omega
   subst this
   simp only [az6, dge, false_eq_true, if_false, drop_length, ap4]
 ·rfl
def aM2 : Str → Nat
 | [] => 0
 | c :: r => if aA1 c then aM2 r + 1 else 0
theorem cv3 (s : Str) : aM2 s ≤ s.length := by
 induction s with
 | nil => exact le_refl _
 | cons c r ih => unfold aM2; split <;> simp; omega
theorem bo4 : ∀ (s : Str) (i : Nat) (h : i < s.length), i < aM2 s → aA1 s[i] = true
 | [], i, h, _ => by simp at h
 | c :: r, i, h, hi => by
  unfold aM2 at hi
  by_cases hc : aA1 c = true
  ·rw [if_pos hc] at hi
   cases i with
   | zero => exact hc
   | succ i => exact bo4 r i (by simpa using h) (by omega)
  ·rw [if_neg hc] at hi; omega
theorem bJ6 : ∀ (s : Str) (h : aM2 s < s.length), aA1 s[aM2 s] = false
 | [], h => by simp at h
 | c :: r, h => by
  by_cases hc : aA1 c = true
  ·have e : aM2 (c :: r) = aM2 r + 1 := by simp [aM2, hc]
   have h' : aM2 r < r.length := by rw [e] at h; simpa using h
   have := bJ6 r h'
   simp only [e, List.getElem_cons_succ]; exact this
  ·have e : aM2 (c :: r) = 0 := by simp [aM2, hc]
   simp only [e, List.getElem_cons_zero]; simpa using hc
theorem bE4 : ∀ (s : Str) (f : Nat) (out : List aa1) (i : Nat), aM2 s < f → ap4 f out i s = ap4 (f - aM2 s) out (i + aM2 s) (s.drop (aM2 s))
 | [], f, out, i, h => by simp [aM2]
 | c :: r, f, out, i, h => by
  by_cases hc : aA1 c = true
  ·have e : aM2 (c :: r) = aM2 r + 1 := by simp [aM2, hc]
   rw [e] at h ⊢
   obtain ⟨f, rfl⟩ : ∃ g, f = g + 1 := ⟨f - 1, by omega⟩
   rw [ap4, if_pos hc, bE4 r f out (i + 1) (by omega), drop_succ_cons, Nat.add_sub_add_right, add_assoc, Nat.add_comm 1]
  ·have e : aM2 (c :: r) = 0 := by simp [aM2, hc]
   rw [e]; rfl
theorem bc8 {s : Str} (hs : s.length ≤ 1000000) : aA9 s = some (af0 s) := by
 unfold aA9
 refine (aq2 (σ := Nat × Nat × List aa1) (fun x => ax1 s x.1 x.2) (fun x => ((x.2.1 : Int), x.2.2)) (fun x => ap4 x.1 x.2.2 x.2.1 (s.drop x.2.1)) (fun x => x.1)
  (fun x => x.2.1 ≤ s.length ∧ s.length - x.2.1 < x.1 ∧ x.2.2.length ≤ x.2.1) ?_ (s0 := (s.length + 1, 0, [])) ⟨by simp, by simp, by simp⟩).trans ?_
 ·rintro ⟨f, i, out⟩ ⟨h1, h2, h3⟩
  simp only at h1 h2 h3
  have hsp : ∀ c : UInt8, aA8 (c.toNat : Int) = some (aA1 c) := fun c => rfl
  have hk := cv3 (s.drop i)
  rw [length_drop] at hk
  simp only
  rw [bE4 (s.drop i) f out i (by omega), drop_drop]
  generalize hkk : aM2 (s.drop i) = k at hk ⊢
  have hskip : ∀ X, am6 s out ((i + k : Nat) : Int) = some X → ax1 s (i : Int) out = some X := by
   intro X hX
   unfold ax1
   refine aq2 (σ := Nat) (fun t => aq8 s out t) (fun j => ((i + j : Nat) : Int)) (fun _ => X) (fun j => k - j) (fun j => j ≤ k) ?_ (s0 := 0) (zero_le _)
   intro j hj
   rcases lt_or_ge j k with hj2 | hj2
   ·have hlt : i + j < s.length := by omega
    have hb := bo4 (s.drop i) j (by rw [length_drop]; omega) (by omega)
    rw [getElem_drop] at hb
    have hw : wrap .i64 (((i + j : Nat) : Int) + 1) = ((i + (j + 1) : Nat) : Int) := by rw [ab3 (by omega) (by omega)]; omega
    left
    refine ⟨j + 1, ?_, rfl, by omega, by omega⟩
    simp only [aq8, dlt hlt, if_true, af7 hlt, Option.bind_some, hsp, hb, hw]
   ·have : j = k := by omega
    subst this
    right
    rcases lt_or_ge (i + j) s.length with hlt | hge
    ·have hb := bJ6 (s.drop i) (by rw [length_drop, hkk]; omega)
     rw [getElem_drop] at hb
     simp only [hkk] at hb
     simp only [aq8, dlt hlt, if_true, af7 hlt, Option.bind_some, hsp, hb, false_eq_true, if_false, hX, map_some]
    ·have h4 : ¬ (((i + j : Nat) : Int) < (List.length s : Int)) := by omega
     simp only [aq8, h4, decide_false, false_eq_true, if_false, Option.bind_some, hX, map_some]
  obtain ⟨g, hg⟩ : ∃ g, f - k = g + 1 := ⟨f - k - 1, by omega⟩
  rw [hg]
  rcases lt_or_ge (i + k) s.length with h | h
  ·have hb := bJ6 (s.drop i) (by rw [length_drop, hkk]; omega)
   rw [getElem_drop] at hb
   simp only [hkk] at hb
   rw [bE3 h, hb, if_neg (by simp)]
   obtain ⟨x, hx, hx1, hx2⟩ := cG0 hs (show i + k ≤ s.length by omega)
   have hne : ¬ (((i + k : Nat) : Int) = (List.length s : Int)) := by omega
   generalize ho : br7 (s.drop (i + k)) = o at hx1 hx2 ⊢
   have hof : o.2.2 = 0 → 1 ≤ o.2.1 ∧ o.2.1 ≤ (s.drop (i + k)).length ∧ o.1.Mz.length ≤ (s.drop (i + k)).length ∧ o.1.Value.length ≤ (s.drop (i + k)).length := by
    intro hz; rw [← ho] at hz ⊢; exact bx3 hz
   rw [length_drop] at hof
   by_cases hz : o.2.2 = 0
   ·obtain ⟨g1, g2, g3, g4⟩ := hof hz
    obtain ⟨y1, y2⟩ := hx2 hz
    have hck : aU4 out o.1 = some (chk out o.1) := bP2 (by omega) (by omega) (by omega)
    have hst : bh3 out o = chk out o.1 := by unfold bh3; rw [if_pos hz]
    have hap : aE5 40 out [o.1] = some (out ++ [o.1]) := af3 (by simp; omega) (by simp; omega)
    rw [hst]
    by_cases hc : chk out o.1 = 0
    ·left
     refine ⟨(g, i + k + o.2.1, out ++ [o.1]), ?_, ?_, ⟨by simp only; omega, by simp only; omega, by simp; omega⟩, by simp only; omega⟩
     ·apply hskip
      simp only [am6, hne, decide_false, false_eq_true, if_false, hx, Option.bind_some, hx1, hz, decide_true, if_true, y1, hck, aq7, hc, Bool.not_true, hap, y2]
     ·simp only [hc, if_true]
    ·right
     rw [if_neg hc]
     apply hskip
     simp only [am6, hne, decide_false, false_eq_true, if_false, hx, Option.bind_some, hx1, hz, decide_true, if_true, y1, hck, aq7, hc, Bool.not_false]
   ·right
    have hst : bh3 out o = o.2.2 := by unfold bh3; rw [if_neg hz]
    rw [hst, if_neg hz]
    apply hskip
    simp only [am6, hne, decide_false, false_eq_true, if_false, hx, Option.bind_some, hx1, hz, aq7, Bool.not_false, if_true]
  ·right
   have he : i + k = s.length := by omega
   rw [he, drop_length, ap4]
   apply hskip
   rw [he]
   simp only [am6, decide_true, if_true]
 ·rfl
def bp5 (name : Str) (a : aa1) : Bool := !a.Qz && decide (a.Mz = name)
def aj4 (name : Str) : List aa1 → Str × Bool
 | [] => ([], false)
 | a :: r => if bp5 name a then (a.Value, true) else aj4 name r
theorem bh4 {α : Type} (p : α → Bool) (l : List α) : (bj0 p l = -1 ∧ ∀ a ∈ l, p a = false) ∨ ∃ i, ∃ h : i < l.length, bj0 p l = (i : Int) ∧ p l[i] = true ∧ ∀ a ∈ l.take i, p a = false := by
 induction l with
 | nil => left; exact ⟨rfl, by simp⟩
 | cons a r ih =>
  by_cases hp : p a = true
  ·right; exact ⟨0, by simp, b38 hp, hp, by simp⟩
  ·have hp' := eq_false_iff.2 hp
   rcases ih with ⟨h1, h2⟩ | ⟨i, h, h1, h2, h3⟩
   ·left
    refine ⟨by rw [bx0 hp, if_pos h1], ?_⟩
    intro x hx
    rcases mem_cons.1 hx with rfl | hx
    ·exact hp'
    ·exact h2 x hx
   ·right
    refine ⟨i + 1, by simpa using h, ?_, by simpa using h2, ?_⟩
    ·rw [bx0 hp, h1, if_neg (by omega)]; omega
    ·intro x hx
     rw [take_succ_cons] at hx
     rcases mem_cons.1 hx with rfl | hx
     ·exact hp'
     ·exact h3 x hx
theorem bP8 {name : Str} {a : aa1} {r : List aa1} (h : bp5 name a = true) : aj4 name (a :: r) = (a.Value, true) := by simp [aj4, h]
theorem bE5 {name : Str} {a : aa1} {r : List aa1} (h : ¬ bp5 name a = true) : aj4 name (a :: r) = aj4 name r := by simp [aj4, h]
theorem cb2 {name : Str} {l : List aa1} (h : ∀ a ∈ l, bp5 name a = false) : aj4 name l = ([], false) := by
 induction l with
 | nil => rfl
 | cons a r ih => rw [aj4, h a (by simp), if_neg (by simp)]; exact ih fun x hx => h x (mem_cons_of_mem _ hx)
theorem b42 {name : Str} : ∀ {l : List aa1} {i : Nat} (h : i < l.length), bp5 name l[i] = true → (∀ a ∈ l.take i, bp5 name a = false) → aj4 name l = (l[i].Value, true)
 | [], _, h, _, _ => by simp at h
 | a :: r, 0, _, h1, _ => by
  simp only [List.getElem_cons_zero] at h1 ⊢
  rw [aj4, if_pos h1]
 | a :: r, i + 1, h, h1, h2 => by
  rw [aj4, h2 a (by simp), if_neg (by simp)]
  exact b42 (i := i) (by simpa using h) (by simpa using h1) fun x hx => h2 x (by rw [take_succ_cons]; exact mem_cons_of_mem _ hx)
theorem cv4 {l : List aa1} {name : Str} (hl : l.length ≤ 1000000) : a71 l name = some (bj0 (bp5 name) l) := by
 unfold a71
 rw [bV7]
 unfold ag8
 refine aZ4 hl ?_ ?_
 ·intro i hi
  simp only [ac5, dlt hi, if_true, aa6 hi, Option.bind_some, a30]
  rfl
 ·simp [ac5]
theorem bl6 {l : List aa1} {name : Str} (hl : l.length ≤ 1000000) : aw6 l name = some (aj4 name l) := by
 unfold aw6
 rw [cv4 hl, Option.bind_some]
 rcases bh4 (bp5 name) l with ⟨h1, h2⟩ | ⟨i, h, h1, h2, h3⟩
 ·rw [h1, cb2 h2]; rfl
 ·have : ¬ ((i : Int) < 0) := by omega
  rw [h1, b42 h h2 h3]
  simp only [this, decide_false, false_eq_true, if_false, aa6 h, Option.bind_some]
theorem aN5 {l : List aa1} {name : Str} (hl : l.length ≤ 1000000) : aB2 l name = some (aj4 name l) := by
 unfold aB2
 refine (ad1 l.length (fun (_ : Unit) i => i) (fun s => ay5 l name s) (fun i _ => aj4 name (l.drop i)) (fun _ _ => True) (s0 := ()) trivial ?_ ?_).trans rfl
 ·intro _ i hi _
  have hbody : ay5 l name (i : Int) = if bp5 name l[i] then some (.done (l[i].Value, true)) else some (.cont ((i : Int) + 1)) := by
   simp only [ay5, dlt hi, if_true, aa6 hi, Option.bind_some]
   rw [ab0 (by omega), show bp5 name l[i] = (!l[i].Qz && decide (l[i].Mz = name)) from rfl]
   by_cases h : l[i].Mz = name <;> cases hq : l[i].Qz <;> simp [h]
  rw [hbody, drop_eq_getElem_cons hi]
  by_cases hf : bp5 name l[i] = true
  ·right; rw [if_pos hf, bP8 hf]
  ·left; rw [if_neg hf, bE5 hf]; exact ⟨(), rfl, rfl, trivial⟩
 ·intro _ _
  simp [ay5, aj4]
def aL4 (l : List aa1) (a : aa1) : Bool := (aj4 a.Mz l).2 && (a.Qz || decide ((aj4 a.Mz l).1 = a.Value))
theorem bl7 {l pattern : List aa1} (hl : l.length ≤ 1000000) (hp : pattern.length ≤ 1000000) : aB3 l pattern = some (pattern.all (aL4 l)) := by
 unfold aB3
 refine (ad1 pattern.length (fun (_ : Unit) i => i) (fun s => aw7 l pattern s) (fun i _ => (pattern.drop i).all (aL4 l)) (fun _ _ => True) (s0 := ()) trivial ?_ ?_).trans rfl
 ·intro _ i hi _
  simp only [aw7, dlt hi, if_true, aa6 hi, Option.bind_some, bl6 hl, drop_eq_getElem_cons hi, all_cons, aL4]
  generalize aj4 pattern[i].Mz l = x
  cases x.2 <;> cases pattern[i].Qz <;> cases decide (x.1 = pattern[i].Value) <;> simp <;> (try rw [ab0 (by omega)])
 ·intro _ _
  simp [aw7]
theorem bh5 {l pattern : List aa1} (hl : l.length ≤ 1000000) (hp : pattern.length ≤ 1000000) : aD8 l pattern = some (pattern.all (aL4 l)) := by
 unfold aD8
 refine (ad1 pattern.length (fun (_ : Unit) i => i) (fun s => aq9 l pattern s) (fun i _ => (pattern.drop i).all (aL4 l)) (fun _ _ => True) (s0 := ()) trivial ?_ ?_).trans rfl
 ·intro _ i hi _
  simp only [aq9, dlt hi, if_true, aa6 hi, Option.bind_some, aN5 hl, drop_eq_getElem_cons hi, all_cons, aL4]
  generalize aj4 pattern[i].Mz l = x
  cases x.2 <;> cases pattern[i].Qz <;> cases decide (x.1 = pattern[i].Value) <;> simp <;> (try rw [ab0 (by omega)])
 ·intro _ _
  simp [aq9]
theorem aM3 {l : List aa1} (hl : l.length ≤ 1000000) : aa5 l = some l := by
 unfold aa5
 rw [af3 (by simp; omega) (by simp; omega)]; rfl
theorem b43 {α : Type} {p : α → Bool} {l : List α} {body : Int × Int × List α → Option (Step (Int × Int × List α) (List α))} (hl : l.length ≤ 1000000)
  (hb : ∀ (i j : Nat) (s : List α) (hi : i < s.length) (hj : j < s.length), body ((i : Int), (j : Int), s) = if !p s[j] then some (.cont (wrap .i64 ((i : Int) + 1), wrap .i64 ((j : Int) + 1), s.set i s[j])) else some (.cont ((i : Int), wrap .i64 ((j : Int) + 1), s)))
  (he : ∀ (i : Nat) (s : List α), i ≤ s.length → body ((i : Int), (s.length : Int), s) = some (.done (s.take i))) {i0 : Nat} (h0 : i0 < l.length) (hp0 : p l[i0] = true) (hbef : ∀ a ∈ l.take i0, p a = false) :
  ab1 body ((i0 : Int), wrap .i64 ((i0 : Int) + 1), l) = some (l.filter fun a => !p a) := by
 have hw0 : wrap .i64 ((i0 : Int) + 1) = ((i0 + 1 : Nat) : Int) := by rw [ab3 (by omega) (by omega)]; omega
 rw [hw0]
 have hf0 : (l.take (i0 + 1)).filter (fun a => !p a) = l.take i0 := by
  rw [take_succ_eq_append_getElem h0, filter_append, List.filter_eq_self.2 (fun a ha => by simp [hbef a ha])]
  simp [hp0]
 refine (aq2 (σ := Nat × Nat × List α) body (fun x => ((x.1 : Int), (x.2.1 : Int), x.2.2)) (fun _ => l.filter fun a => !p a) (fun x => l.length - x.2.1)
  (fun x => x.1 < x.2.1 ∧ x.2.1 ≤ l.length ∧ x.2.2.length = l.length ∧ x.2.2.take x.1 = (l.take x.2.1).filter (fun a => !p a) ∧ x.2.2.drop x.2.1 = l.drop x.2.1) ?_ (s0 := (i0, i0 + 1, l)) ⟨by simp, by simp only; omega, rfl, by simp only; exact hf0.symm, rfl⟩).trans rfl
 rintro ⟨i, j, s⟩ ⟨h1, h2, h3, h4, h5⟩
 simp only at h1 h2 h3 h4 h5
 rcases lt_or_ge j l.length with hj | hj
 ·left
  have hjs : j < s.length := by omega
  have hwi : wrap .i64 ((i : Int) + 1) = ((i + 1 : Nat) : Int) := by rw [ab3 (by omega) (by omega)]; omega
  have hwj : wrap .i64 ((j : Int) + 1) = ((j + 1 : Nat) : Int) := by rw [ab3 (by omega) (by omega)]; omega
  have hsj : s[j] = l[j] := by
   rw [drop_eq_getElem_cons hjs, drop_eq_getElem_cons hj] at h5
   exact (List.cons.inj h5).1
  have h5' : s.drop (j + 1) = l.drop (j + 1) := by
   rw [drop_eq_getElem_cons hjs, drop_eq_getElem_cons hj] at h5
   exact (List.cons.inj h5).2
  simp only
  rw [hb i j s (by omega) hjs]
  cases hp : p s[j] with
  | true =>
   refine ⟨(i, j + 1, s), ?_, by trivial, ⟨by simp only; omega, by simp only; omega, h3, ?_, h5'⟩, by simp only; omega⟩
   ·simp only [Bool.not_true, false_eq_true, if_false, hwj]
   ·simp only
    rw [h4, take_succ_eq_append_getElem hj, filter_append]
    simp [← hsj, hp]
  | false =>
   refine ⟨(i + 1, j + 1, s.set i s[j]), ?_, by trivial, ⟨by simp only; omega, by simp only; omega, by simp [h3], ?_, ?_⟩, by simp only; omega⟩
   ·simp only [Bool.not_false, if_true, hwi, hwj]
   ·simp only
    rw [take_succ_eq_append_getElem (by simp; omega), List.getElem_set_self, List.take_set_of_le (le_refl _), h4, take_succ_eq_append_getElem hj, filter_append]
    simp [← hsj, hp]
   ·simp only
    rw [List.drop_set_of_lt (by omega)]; exact h5'
 ·right
  have : j = s.length := by omega
  subst this
  simp only
  rw [he i s (by omega), h4, List.take_of_length_le hj]
theorem bx4 {l : List aa1} (hl : l.length ≤ 1000000) : aF7 l = some (l.filter fun a => !ak4 a.Mz) := by
 unfold aF7
 rw [aM3 hl, Option.bind_some, bV7]
 unfold ag0
 have hp1 : ∀ a, aD4 a = some (ak4 a.Mz) := by
  intro a; unfold aD4; rw [bh0]; rfl
 have hix : ae0 l = some (bj0 (fun a => ak4 a.Mz) l) := by
  unfold ae0
  refine aZ4 hl ?_ ?_
  ·intro i hi
   simp only [ac6, dlt hi, if_true, aa6 hi, Option.bind_some, hp1]
  ·simp [ac6]
 rw [hix, Option.bind_some]
 rcases bh4 (fun a => ak4 a.Mz) l with ⟨h1, h2⟩ | ⟨i, h, h1, h2, h3⟩
 ·rw [h1, List.filter_eq_self.2 (fun a ha => by simp [h2 a ha])]; rfl
 ·have : ¬ ((i : Int) = -1) := by omega
  rw [h1]
  simp only [this, decide_false, false_eq_true, if_false]
  refine b43 (p := fun a => ak4 a.Mz) hl ?_ ?_ h h2 h3
  ·intro i j s hi hj
   simp only [ab7, dlt hj, if_true, aa6 hj, aa6 hi, Option.bind_some, hp1, Int.toNat_natCast]
  ·intro i s hi
   simp only [ab7, dge, false_eq_true, if_false, ae4, aO5 hi, Option.bind_some, map_some]
theorem bE6 {l : List aa1} {name : Str} (hl : l.length ≤ 1000000) : aI7 l name = some (l.filter fun a => !decide (a.Mz = name)) := by
 unfold aI7
 rw [aM3 hl, Option.bind_some, bV7]
 unfold ag1
 have hp1 : ∀ a, aH3 a name = some (decide (a.Mz = name)) := fun a => rfl
 have hix : ae1 l name = some (bj0 (fun a => decide (a.Mz = name)) l) := by
  unfold ae1
  refine aZ4 hl ?_ ?_
  ·intro i hi
   simp only [ac7, dlt hi, if_true, aa6 hi, Option.bind_some, hp1]
  ·simp [ac7]
 rw [hix, Option.bind_some]
 rcases bh4 (fun (a : aa1) => decide (a.Mz = name)) l with ⟨h1, h2⟩ | ⟨i, h, h1, h2, h3⟩
 ·rw [h1, List.filter_eq_self.2 (fun a ha => by simp only [h2 a ha, Bool.not_false])]; rfl
 ·have : ¬ ((i : Int) = -1) := by omega
  rw [h1]
  simp only [this, decide_false, false_eq_true, if_false]
  refine b43 (p := fun a => decide (a.Mz = name)) hl ?_ ?_ h h2 h3
  ·intro i j s hi hj
   simp only [ab8, dlt hj, if_true, aa6 hj, aa6 hi, Option.bind_some, hp1, Int.toNat_natCast]
  ·intro i s hi
   simp only [ab8, dge, false_eq_true, if_false, ae8, aO5 hi, Option.bind_some, map_some]
theorem aS4 {l : List aa1} (hl : l.length ≤ 1000000) : ar4 l = some (l.filter fun a => !ak4 a.Mz) := by
 unfold ar4
 refine (ad1 (τ := Int × List aa1) l.length (fun (x : List aa1) i => (i, x)) (fun s => av8 l s.1 s.2) (fun i x => x ++ (l.drop i).filter fun a => !ak4 a.Mz) (fun i x => x.length ≤ i) (s0 := []) (by simp) ?_ ?_).trans (by simp)
 ·intro x i hi hx
  left
  have hap : aE5 40 x [l[i]] = some (x ++ [l[i]]) := af3 (by simp; omega) (by simp; omega)
  refine ⟨if ak4 l[i].Mz then x else x ++ [l[i]], ?_, ?_, ?_⟩
  ·simp only [av8, dlt hi, if_true, aa6 hi, Option.bind_some, bP0, hap]
   rw [ab0 (by omega)]
   cases ak4 l[i].Mz <;> rfl
  ·simp only [drop_eq_getElem_cons hi, List.filter_cons]
   cases ak4 l[i].Mz <;> simp
  ·split <;> (try simp) <;> omega
 ·intro x hx
  simp [av8]
theorem bh6 {l : List aa1} {name : Str} (hl : l.length ≤ 1000000) : aE0 l name = some (l.filter fun a => !decide (a.Mz = name)) := by
 unfold aE0
 refine (ad1 (τ := Int × List aa1) l.length (fun (x : List aa1) i => (i, x)) (fun s => at4 l name s.1 s.2) (fun i x => x ++ (l.drop i).filter fun a => !decide (a.Mz = name)) (fun i x => x.length ≤ i) (s0 := []) (by simp) ?_ ?_).trans (by simp)
 ·intro x i hi hx
  left
  have hap : aE5 40 x [l[i]] = some (x ++ [l[i]]) := af3 (by simp; omega) (by simp; omega)
  refine ⟨if decide (l[i].Mz = name) then x else x ++ [l[i]], ?_, ?_, ?_⟩
  ·simp only [at4, dlt hi, if_true, aa6 hi, Option.bind_some, hap]
   rw [ab0 (by omega)]
   cases decide (l[i].Mz = name) <;> rfl
  ·simp only [drop_eq_getElem_cons hi, List.filter_cons]
   cases decide (l[i].Mz = name) <;> simp
  ·split <;> (try simp) <;> omega
 ·intro x hx
  simp [at4]
theorem cj7 {d : Nat} (h : d < 10) : cut ([48, 49, 50, 51, 52, 53, 54, 55, 56, 57, 97, 98, 99, 100, 101, 102] : Str) (d : Int) ((d : Int) + 1) = some [UInt8.ofNat (48 + d)] := by
 rcases (by omega : d = 0 ∨ d = 1 ∨ d = 2 ∨ d = 3 ∨ d = 4 ∨ d = 5 ∨ d = 6 ∨ d = 7 ∨ d = 8 ∨ d = 9) with rfl | rfl | rfl | rfl | rfl | rfl | rfl | rfl | rfl | rfl <;> rfl
theorem cv5 (u : Nat) (h : ¬ u < 10) : Go.Lib.decDigits u = Go.Lib.decDigits (u / 10) ++ [UInt8.ofNat (48 + u % 10)] := by
 rw [Go.Lib.decDigits, dif_neg h]
def cM9 (u : Nat) (s : Str) : Str := if u = 0 ∧ s ≠ [] then s else Go.Lib.decDigits u ++ s
theorem cj8 (u : Nat) (s : Str) (h : ¬ (u = 0 ∧ s ≠ [])) : cM9 u s = cM9 (u / 10) (UInt8.ofNat (48 + u % 10) :: s) := by
 unfold cM9
 rw [if_neg h]
 by_cases h10 : u < 10
 ·have : u / 10 = 0 := by omega
  rw [this, if_pos ⟨rfl, by simp⟩, Go.Lib.decDigits_one h10, Nat.mod_eq_of_lt h10]; rfl
 ·rw [if_neg (by omega), cv5 u h10, List.append_assoc]; rfl
theorem bl8 {u : Nat} {s : Str} (h : ¬ (u = 0 ∧ s ≠ [])) (hu : u ≤ 9223372036854775808) (hs : s.length ≤ 100) : ar0 10 (-(u : Int)) s = some (.cont (-((u / 10 : Nat) : Int), UInt8.ofNat (48 + u % 10) :: s)) := by
 unfold ar0
 have hc : (decide (-(u : Int) < 0) || decide (s = [])) = true := by
  rcases Nat.eq_zero_or_pos u with h0 | h0
  ·have : s = [] := Classical.byContradiction fun e => h ⟨h0, e⟩
   simp [this]
  ·have hn : -(u : Int) < 0 := by omega
   rw [decide_eq_true hn]; rfl
 have e1 : Int.tmod (-(u : Int)) 10 = -((u % 10 : Nat) : Int) := by rw [Int.neg_tmod]; rfl
 have e2 : Int.tdiv (-(u : Int)) 10 = -((u / 10 : Nat) : Int) := by rw [Int.neg_tdiv]; rfl
 have e3 : wrap .i64 (0 - -((u % 10 : Nat) : Int)) = ((u % 10 : Nat) : Int) := by rw [ab3 (by omega) (by omega)]; omega
 have e4 : wrap .i64 (((u % 10 : Nat) : Int) + 1) = ((u % 10 : Nat) : Int) + 1 := ab3 (by omega) (by omega)
 have e5 : wrap .i64 (-((u / 10 : Nat) : Int)) = -((u / 10 : Nat) : Int) := ab3 (by omega) (by omega)
 rw [if_pos hc]
 unfold remI cE8
 rw [if_neg (by decide), if_neg (by decide), Option.bind_some, e1, e3, e4, cj7 (by omega), Option.bind_some]
 rw [aa7 (by simp; omega), Option.bind_some, Option.bind_some, e2, e5]
 rfl
theorem cj9 {u n : Nat} (h1 : u * 10 ^ n ≤ 9223372036854775808) (h2 : 0 < u) : n ≤ 18 := by
 rcases lt_or_ge 18 n with h | h
 ·have h3 : 10 ^ 19 ≤ 10 ^ n := Nat.pow_le_pow_right (by omega) h
  have h4 : 1 * 10 ^ n ≤ u * 10 ^ n := Nat.mul_le_mul_right _ h2
  omega
 ·exact h
theorem a45 {u : Nat} (hu : u ≤ 9223372036854775808) : aJ5 (-(u : Int)) 10 = some (Go.Lib.decDigits u) := by
 unfold aJ5
 refine (aq2 (σ := Nat × Str) (fun s => ar0 10 s.1 s.2) (fun s => (-(s.1 : Int), s.2)) (fun s => cM9 s.1 s.2) (fun s => s.1 + (if s.2 = [] then 1 else 0)) (fun s => s.1 * 10 ^ s.2.length ≤ 9223372036854775808 ∧ s.2.length ≤ 20) (fun s hs => ?_) (s0 := (u, [])) ⟨by simpa using hu, by simp⟩).trans ?_
 ·obtain ⟨v, s⟩ := s
  obtain ⟨h1, h2⟩ := hs
  simp only at h1 h2 ⊢
  have hv : v ≤ 9223372036854775808 := by
   have : v * 1 ≤ v * 10 ^ s.length := Nat.mul_le_mul_left _ (Nat.one_le_pow _ _ (by omega))
   omega
  by_cases h : v = 0 ∧ s ≠ []
  ·right
   unfold ar0 cM9
   rw [if_pos h, h.1]
   have hs' : decide (s = []) = false := by simpa using h.2
   simp [hs', h.2]
  ·left
   refine ⟨(v / 10, UInt8.ofNat (48 + v % 10) :: s), bl8 h hv (by omega), cj8 v s h, ⟨?_, ?_⟩, ?_⟩
   ·simp only [length_cons, Nat.pow_succ]
    have e : v / 10 * (10 ^ s.length * 10) = v / 10 * 10 * 10 ^ s.length := by rw [Nat.mul_comm (10 ^ s.length) 10, Nat.mul_assoc]
    rw [e]
    exact Nat.le_trans (Nat.mul_le_mul_right _ (Nat.div_mul_le_self v 10)) h1
   ·simp only [length_cons]
    by_cases hs' : s = []
    ·subst hs'; simp
    ·have : 0 < v := Nat.pos_of_ne_zero fun e => h ⟨e, hs'⟩
     have := cj9 h1 this
     omega
   ·simp only [reduceCtorEq, if_false]
    by_cases hs' : s = []
    ·rw [if_pos hs']; omega
    ·rw [if_neg hs']
     have : 0 < v := Nat.pos_of_ne_zero fun e => h ⟨e, hs'⟩
     omega
 ·unfold cM9; simp
theorem bJ7 {n : Int} (h0 : -9223372036854775808 ≤ n) (h1 : n ≤ 9223372036854775807) : aV4 n 10 = some (Go.Lib.itoa n) := by
 unfold aV4 bc4 Go.Lib.itoa
 by_cases hn : n < 0
 ·have e : n = -((n.natAbs : Nat) : Int) := by omega
  have hd := a45 (u := n.natAbs) (by omega)
  rw [← e] at hd
  have hl := Go.Lib.itoa_length_le n h0 h1
  unfold Go.Lib.itoa at hl
  rw [if_pos hn] at hl
  simp only [length_cons] at hl
  simp [hn, hd, aa7 (a := [45]) (b := Go.Lib.decDigits n.natAbs) (by simp; omega)]
 ·have hw : wrap .i64 (0 - n) = -((n.toNat : Nat) : Int) := by rw [ab3 (by omega) (by omega)]; omega
  have hd := a45 (u := n.toNat) (by omega)
  rw [hw, hd]
  simp [hn]
theorem bW5 {n : Int} (h0 : -9223372036854775808 ≤ n) (h1 : n ≤ 9223372036854775807) : bg5 n 10 = some (Go.Lib.itoa n) := by
 unfold bg5 bw6 aG0 a69
 rw [if_pos ⟨rfl, h0, h1⟩]; rfl
end Go.Proofs.YtiliognepodhnaaGreatDoor
