import Derived.Test.YtiliognepodhnaaGreatDoorR
import Derived.Test.YtiliognepodhnaaGreatDoorVmQ
import Derived.Lib.ReplaceLaws
import Derived.Lib.ItoaLen
open Bool (eq_false_iff false_eq_true true_eq_false)
open Go.IntKind (wrap)
open List (all_cons any_cons drop_drop drop_eq_getElem_cons drop_length drop_succ_cons drop_zero filter_append flatMap_cons getElem_drop length_append length_cons length_drop length_nil map_cons map_nil mem_cons mem_cons_of_mem take_length take_succ_cons take_succ_eq_append_getElem)
open Nat (add_assoc le_refl lt_or_ge zero_le)
open Option (map_some)
namespace Go.Proofs.YtiliognepodhnaaGreatDoor
open Go.Vm
set_option linter.unusedVariables false
set_option linter.unusedSimpArgs false
set_option maxRecDepth 100000
theorem bT9 {α : Type} {o : Option α} : (o.bind fun x => some x) = o := by cases o <;> rfl
theorem ab0 {i : Nat} (h : i ≤ 1000000) : wrap .i64 ((i : Int) + 1) = (i : Int) + 1 := ab3 (by omega) (by omega)
theorem dlt {i n : Nat} (h : i < n) : decide ((i : Int) < (n : Int)) = true := by simp [h]
theorem dge {n : Nat} : decide ((n : Int) < (n : Int)) = false := by simp
def af5 (stops : Str) : Str → Nat
 | [] => 0
 | c :: r => if stops.contains c then 0 else af5 stops r + 1
theorem aP7 (stops s : Str) : af5 stops s ≤ s.length := by
 induction s with
 | nil => exact le_refl _
 | cons c r ih => unfold af5; split <;> simp <;> omega
theorem bf2 {s stops : Str} (hm : s.length ≤ 1000000) : au2 s stops = some (af5 stops s : Int) := by
 unfold au2
 refine (ad1 s.length (fun (_ : Unit) i => i) (fun v => aC5 s stops v) (fun i _ => ((i + af5 stops (s.drop i) : Nat) : Int)) (fun _ _ => True) (s0 := ()) trivial ?_ ?_).trans ?_
 ·intro _ i hi _
  simp only [aC5, dlt hi, if_true, af7 hi, Option.bind_some, strings_IndexByte, stringslite_IndexByte, a56, b81, cy5, drop_eq_getElem_cons hi, af5]
  by_cases hc : stops.contains s[i] = true
  ·right; rw [if_pos hc, if_pos hc]; rfl
  ·left
   refine ⟨(), ?_, ?_, trivial⟩
   ·rw [if_neg hc, ab0 (by omega)]
   ·rw [if_neg hc]; omega
 ·intro _ _
  simp [aC5, af5]
 ·simp
theorem a34 {s p : Str} : stringslite_HasPrefix s p = some (p.isPrefixOf s) := by
 unfold stringslite_HasPrefix
 by_cases h : p.length ≤ s.length
 ·have h1 : ((List.length p : Int) ≤ (List.length s : Int)) := by omega
  simp only [h1, decide_true, if_true, aN5 h, Option.bind_some]
  congr 1
  rw [Bool.eq_iff_iff, decide_eq_true_eq, List.isPrefixOf_iff_prefix]
  rw [List.prefix_iff_eq_take]; exact eq_comm
 ·have h1 : ¬ ((List.length p : Int) ≤ (List.length s : Int)) := by omega
  simp only [h1, decide_false, false_eq_true, if_false, Option.bind_some]
  congr 1
  symm
  rw [eq_false_iff]
  intro e
  exact h (List.isPrefixOf_iff_prefix.1 e).length_le
theorem bf3 {s p : Str} : strings_HasPrefix s p = some (p.isPrefixOf s) := by
 unfold strings_HasPrefix; rw [a34]; rfl
def bv2 (c : UInt8) : Bool := (decide (97 ≤ (c.toNat : Int)) && decide ((c.toNat : Int) ≤ 122)) || ((decide (48 ≤ (c.toNat : Int)) && decide ((c.toNat : Int) ≤ 57)) || (decide ((c.toNat : Int) = 45) || decide ((c.toNat : Int) = 95)))
def cb1 (c : UInt8) : Bool := decide (97 ≤ (c.toNat : Int)) && decide ((c.toNat : Int) ≤ 122)
def an3 (s : Str) : Bool := ([33] : Str).isPrefixOf s
def cs9 (s : Str) : Str := if an3 s then s.drop 1 else s
def b18 (s : Str) : Bool := match s with
 | [] => false
 | c :: r => cb1 c && r.all bv2 && decide (s.length ≤ 32)
def bU0 (s : Str) : Bool := b18 (cs9 s)
theorem b82 (c : UInt8) (h : cb1 c = true) : bv2 c = true := by
 unfold cb1 at h; unfold bv2; rw [h]; rfl
theorem b83 {c : UInt8} {r : Str} : b18 (c :: r) = (cb1 c && (c :: r).all bv2 && decide ((c :: r).length ≤ 32)) := by
 show (cb1 c && r.all bv2 && decide _) = _
 cases h : cb1 c
 ·rfl
 ·rw [all_cons, b82 c h]; rfl
theorem b19 (s : Str) : (cs9 s).length ≤ s.length := by
 unfold cs9; split <;> simp
theorem bH2 {s : Str} : strings_TrimPrefix s [33] = some (cs9 s) := by
 unfold strings_TrimPrefix stringslite_TrimPrefix
 rw [a34 (s := s) (p := [33])]
 unfold cs9 an3
 cases hp : ([33] : Str).isPrefixOf s with
 | false => simp
 | true =>
  have hl : 1 ≤ s.length := (List.isPrefixOf_iff_prefix.1 hp).length_le
  have := ax6 (l := s) (a := 1) hl
  simp only [Option.bind_some, if_true]
  rw [show (List.length ([33] : Str) : Int) = ((1 : Nat) : Int) from rfl, this]; rfl
theorem bU1 {s : Str} (hs : s.length ≤ 1000000) : aX1 s = some (bU0 s) := by
 unfold aX1 bU0
 rw [bH2, Option.bind_some]
 have hl := b19 s
 generalize cs9 s = x at hl ⊢
 cases x with
 | nil => rfl
 | cons c r =>
  have hat : ah4 (c :: r) 0 = some c := rfl
  simp only [reduceCtorEq, decide_false, false_eq_true, if_false, hat, Option.bind_some, b83]
  by_cases hlen : (32 : Int) < (List.length (c :: r) : Int)
  ·have : ¬ ((c :: r).length ≤ 32) := by omega
   simp only [hlen, decide_true, if_true, Option.bind_some, this, decide_false, Bool.and_false]
  ·have h32 : (c :: r).length ≤ 32 := by omega
   simp only [hlen, decide_false, false_eq_true, if_false, h32, decide_true, Bool.and_true]
   have hloop : ab1 (fun s => aq5 (c :: r) s) 0 = some ((c :: r).all bv2) := by
    refine (ad1 (c :: r).length (fun (_ : Unit) i => i) (fun v => aq5 (c :: r) v) (fun i _ => ((c :: r).drop i).all bv2) (fun _ _ => True) (s0 := ()) trivial ?_ ?_).trans rfl
    ·intro _ i hi _
     have key : ∀ c : UInt8, (bif (decide ((c.toNat : Int) < 97)) then (bif (decide ((c.toNat : Int) < 48)) then ((!decide ((c.toNat : Int) = 45)) && (!decide ((c.toNat : Int) = 95))) else ((decide (57 < (c.toNat : Int))) && ((!decide ((c.toNat : Int) = 45)) && (!decide ((c.toNat : Int) = 95))))) else ((decide (122 < (c.toNat : Int))) && (bif (decide ((c.toNat : Int) < 48)) then ((!decide ((c.toNat : Int) = 45)) && (!decide ((c.toNat : Int) = 95))) else ((decide (57 < (c.toNat : Int))) && ((!decide ((c.toNat : Int) = 45)) && (!decide ((c.toNat : Int) = 95))))))) = !bv2 c := aS2 (by decide +kernel)
     simp only [aq5, dlt hi, if_true, af7 hi, Option.bind_some, drop_eq_getElem_cons hi, all_cons, key]
     cases hn : bv2 (c :: r)[i]
     ·right; simp
     ·left
      refine ⟨(), ?_, by simp, trivial⟩
      simp only [Bool.not_true, false_eq_true, if_false]
      rw [ab0 (by omega)]
    ·intro _ _
     simp [aq5]
   rw [hloop]
   have k1 : ∀ c : UInt8, cb1 c = (!decide ((c.toNat : Int) < 97) && !decide (122 < (c.toNat : Int))) := aS2 (by decide +kernel)
   rw [k1]
   cases decide ((c.toNat : Int) < 97) <;> cases decide (122 < (c.toNat : Int)) <;> simp
theorem bN3 {s : Str} : aH9 s = some (an3 s) := by
 unfold aH9 an3
 cases s with
 | nil => rfl
 | cons c r =>
  have h1 : (0 : Int) < (List.length (c :: r) : Int) := by simp only [length_cons]; omega
  have h2 : ah4 (c :: r) 0 = some c := rfl
  have h3 : decide ((c.toNat : Int) = 33) = decide (c = 33) := isC c 33
  simp only [h1, decide_true, if_true, h2, Option.bind_some, h3, List.isPrefixOf]
  have key : ∀ c : UInt8, decide (c = 33) = ((33 == c) && true) := aS2 (by decide +kernel)
  rw [key]
theorem b84 {s : Str} (hs : s.length ≤ 1000000) : aT4 s = some (bU0 s) := by
 have hk : aT4 s = aC3 (cs9 s) := by
  unfold aT4
  rw [bN3, Option.bind_some]
  unfold cs9
  cases hp : an3 s with
  | false => simp
  | true =>
   have hl : 1 ≤ s.length := (List.isPrefixOf_iff_prefix.1 hp).length_le
   have := ax6 (l := s) (a := 1) hl
   simp only [if_true]
   rw [show (1 : Int) = ((1 : Nat) : Int) from rfl, this]; rfl
 rw [hk]
 unfold bU0
 have hl := b19 s
 generalize cs9 s = x at hl ⊢
 unfold aC3
 let tail (i : Nat) (x : Str) : Bool := match i with
  | 0 => b18 x
  | _ => (x.drop i).all bv2 && (decide (1 ≤ (List.length x : Int)) && decide ((List.length x : Int) ≤ 32))
 refine (ad1 x.length (fun (_ : Unit) i => i) (fun v => ay6 x v) (fun i _ => tail i x) (fun _ _ => True) (s0 := ()) trivial ?_ ?_).trans rfl
 ·intro _ i hi _
  have key : ∀ c : UInt8, ((if (decide (97 ≤ (c.toNat : Int))) then some (decide ((c.toNat : Int) ≤ 122)) else some false) : Option Bool) = some (cb1 c) := by
   intro c; unfold cb1; cases decide (97 ≤ (c.toNat : Int)) <;> rfl
  have key2 : ∀ c : UInt8, (if (decide (48 ≤ (c.toNat : Int))) then (if (decide ((c.toNat : Int) ≤ 57)) then some false else (if (decide ((c.toNat : Int) = 45)) then some false else some (!(decide ((c.toNat : Int) = 95))))) else (if (decide ((c.toNat : Int) = 45)) then some false else some (!(decide ((c.toNat : Int) = 95)))) : Option Bool) = some (!(decide (48 ≤ (c.toNat : Int)) && decide ((c.toNat : Int) ≤ 57) || (decide ((c.toNat : Int) = 45) || decide ((c.toNat : Int) = 95)))) := aS2 (by decide +kernel)
  have key3 : ∀ c : UInt8, bv2 c = (cb1 c || ((decide (48 ≤ (c.toNat : Int)) && decide ((c.toNat : Int) ≤ 57)) || (decide ((c.toNat : Int) = 45) || decide ((c.toNat : Int) = 95)))) := fun c => rfl
  simp only [ay6, dlt hi, if_true, af7 hi, Option.bind_some, key]
  have hlen1 : (1 : Int) ≤ (List.length x : Int) := by omega
  cases i with
  | zero =>
   cases x with
   | nil => simp at hi
   | cons c r =>
    simp only [List.getElem_cons_zero, tail, b18]
    cases hlow : cb1 c with
    | false => right; simp
    | true =>
     left
     refine ⟨(), ?_, ?_, trivial⟩
     ·simp only [Bool.not_true, false_eq_true, if_false, Option.bind_some]
      rw [ab0 (by omega)]
     ·simp only [Bool.true_and, drop_succ_cons, drop_zero, hlen1, decide_true]
      congr 1
      rw [Bool.eq_iff_iff, decide_eq_true_eq, decide_eq_true_eq]; omega
  | succ i =>
   have h0 : decide (((i + 1 : Nat) : Int) = 0) = false := by simp; omega
   simp only [tail, drop_eq_getElem_cons hi, all_cons, h0, false_eq_true, if_false, key2]
   rw [key3]
   cases hlow : cb1 x[i + 1] with
   | true =>
    left
    refine ⟨(), ?_, by simp, trivial⟩
    simp only [Bool.not_true, false_eq_true, if_false, Option.bind_some]
    rw [ab0 (by omega)]
   | false =>
    simp only [Bool.not_false, if_true, Option.bind_some, Bool.false_or]
    generalize (decide (48 ≤ (x[i + 1].toNat : Int)) && decide ((x[i + 1].toNat : Int) ≤ 57) || (decide ((x[i + 1].toNat : Int) = 45) || decide ((x[i + 1].toNat : Int) = 95))) = q
    cases q with
    | false => right; simp
    | true =>
     left
     refine ⟨(), ?_, by simp, trivial⟩
     simp only [Bool.not_true, false_eq_true, if_false]
     rw [ab0 (by omega)]
 ·intro _ _
  simp only [ay6, dge, false_eq_true, if_false]
  cases x with
  | nil => rfl
  | cons c r => simp [tail]
def bf4 (v : Str) : Bool := v.all fun c => !([0, 10, 13] : Str).contains c
theorem bN4 (stops s : Str) : decide ((af5 stops s : Int) < (List.length s : Int)) = !(s.all fun c => !stops.contains c) := by
 induction s with
 | nil => rfl
 | cons c r ih =>
  unfold af5
  by_cases hc : stops.contains c = true
  ·rw [if_pos hc]; simp only [all_cons, hc]; simp
  ·have hc' : stops.contains c = false := by simpa using hc
   rw [if_neg hc, all_cons, hc', Bool.not_false, Bool.true_and, ← ih]
   congr 1
   simp only [length_cons, eq_iff_iff]; omega
theorem bU2 {v : Str} (hv : v.length ≤ 1000000) : aN8 v = some (bf4 v) := by
 unfold aN8
 refine (ad1 v.length (fun (_ : Unit) i => i) (fun s => av7 v s) (fun i _ => bf4 (v.drop i)) (fun _ _ => True) (s0 := ()) trivial ?_ ?_).trans rfl
 ·intro _ i hi _
  have key : ∀ c : UInt8, ((if (decide ((c.toNat : Int) = 0)) then some true else (if (decide ((c.toNat : Int) = 10)) then some true else some (decide ((c.toNat : Int) = 13)))) : Option Bool) = some (([0, 10, 13] : Str).contains c) := aS2 (by decide +kernel)
  simp only [av7, dlt hi, if_true, af7 hi, Option.bind_some, key, bf4, drop_eq_getElem_cons hi, all_cons]
  cases ([0, 10, 13] : Str).contains v[i] with
  | true => right; simp
  | false =>
   left
   refine ⟨(), ?_, by simp, trivial⟩
   simp only [false_eq_true, if_false]
   rw [ab0 (by omega)]
 ·intro _ _
  simp [av7, bf4]
def a35 (l : List aa1) (n : Str) : Bool := l.any fun b => decide (b.Mz = n)
def chk (before : List aa1) (a : aa1) : Int :=
 if (32 : Int) ≤ (List.length before : Int) then 22 else if bU0 a.Mz = false then 6 else if (a.Qz && !decide (a.Value = [])) = true ∨ bf4 a.Value = false then 2 else if (1024 : Int) < (List.length a.Value : Int) then 4 else if a35 before a.Mz = true then 7 else 0
def bh6 {α : Type} (p : α → Bool) : List α → Int
 | [] => -1
 | a :: r => if p a then 0 else if bh6 p r = -1 then -1 else bh6 p r + 1
theorem cg9 {α : Type} (p : α → Bool) (l : List α) : -1 ≤ bh6 p l := by
 induction l with
 | nil => exact Int.le_refl _
 | cons a r ih => simp only [bh6]; split <;> (try split) <;> omega
theorem ct0 {α : Type} (p : α → Bool) (l : List α) : 0 ≤ bh6 p l ↔ l.any p = true := by
 induction l with
 | nil => simp [bh6]
 | cons a r ih =>
  have := cg9 p r
  rw [any_cons, Bool.or_eq_true, ← ih]
  simp only [bh6]
  by_cases hp : p a = true
  ·simp [hp]
  ·rw [if_neg hp]
   split
   ·rename_i h; rw [h]; simp [hp]
   ·simp only [hp, false_or]; omega
theorem bH3 {α : Type} (p : α → Bool) (l : List α) : decide (0 ≤ bh6 p l) = l.any p := by
 rw [Bool.eq_iff_iff, decide_eq_true_eq, ct0]
theorem b20 {α : Type} {p : α → Bool} {a : α} {r : List α} (h : p a = true) : bh6 p (a :: r) = 0 := by simp [bh6, h]
theorem bv3 {α : Type} {p : α → Bool} {a : α} {r : List α} (h : ¬ p a = true) : bh6 p (a :: r) = if bh6 p r = -1 then -1 else bh6 p r + 1 := by simp [bh6, h]
theorem aY5 {α : Type} {p : α → Bool} {l : List α} {body : Int → Option (Step Int Int)} (hl : l.length ≤ 1000000)
  (hb : ∀ i (h : i < l.length), body (i : Int) = if p l[i] then some (.done (i : Int)) else some (.cont (wrap .i64 ((i : Int) + 1)))) (he : body (l.length : Int) = some (.done (-1))) : ab1 body 0 = some (bh6 p l) := by
 refine (ad1 l.length (fun (_ : Unit) i => i) body (fun i _ => if bh6 p (l.drop i) = -1 then -1 else (i : Int) + bh6 p (l.drop i)) (fun _ _ => True) (s0 := ()) trivial ?_ ?_).trans ?_
 ·intro _ i hi _
  rw [hb i hi, drop_eq_getElem_cons hi]
  have := cg9 p (l.drop (i + 1))
  by_cases hp : p l[i] = true
  ·right; rw [if_pos hp, b20 hp]; simp
  ·left
   refine ⟨(), ?_, ?_, trivial⟩
   ·rw [if_neg hp, ab0 (by omega)]
   ·rw [bv3 hp]
    by_cases h : bh6 p (l.drop (i + 1)) = -1
    ·simp [h]
    ·rw [if_neg h, if_neg (by omega), if_neg h]; omega
 ·intro _ _
  rw [he]; simp [bh6]
 ·simp only [drop_zero]
  congr 1
  split
  ·rename_i h; exact h.symm
  ·simp
theorem b21 {before : List aa1} {a : aa1} (hb : before.length ≤ 1000000) (hn : a.Mz.length ≤ 1000000) (hv : a.Value.length ≤ 1000000) : aL9 before a = some (chk before a) := by
 unfold aL9 chk
 have hix : ad8 before a = some (bh6 (fun b => decide (b.Mz = a.Mz)) before) := by
  unfold ad8
  refine aY5 hb ?_ ?_
  ·intro i hi
   simp only [ac1, dlt hi, if_true, aa8 hi, Option.bind_some, a22]
  ·simp [ac1]
 have hc : ac2 before a = some (a35 before a.Mz) := by
  unfold ac2 a35
  rw [hix, Option.bind_some, bH3]
 simp only [bU1 hn, Option.bind_some, bf2 hv, hc, bN4]
 by_cases h1 : (32 : Int) ≤ (List.length before : Int)
 ·simp [h1]
 ·simp only [h1, decide_false, false_eq_true, if_false]
  cases bU0 a.Mz with
  | false => simp
  | true =>
   simp only [Bool.not_true, false_eq_true, if_false, true_eq_false]
   cases a.Qz && !decide (a.Value = []) with
   | true => simp
   | false =>
    change (if (!bf4 a.Value) = true then _ else _) = _
    cases bf4 a.Value with
    | false => simp
    | true =>
     simp only [Bool.not_true, false_eq_true, if_false, true_eq_false, or_self]
     by_cases h4 : (1024 : Int) < (List.length a.Value : Int)
     ·simp [h4]
     ·simp only [h4, decide_false, false_eq_true, if_false]
      cases a35 before a.Mz <;> simp
theorem bN5 {before : List aa1} {a : aa1} (hb : before.length ≤ 1000000) (hn : a.Mz.length ≤ 1000000) (hv : a.Value.length ≤ 1000000) : aT5 before a = some (chk before a) := by
 unfold aT5 chk
 have hloop : ab1 (fun s => ax8 before a s) 0 = some (if a35 before a.Mz = true then (7 : Int) else 0) := by
  refine (ad1 before.length (fun (_ : Unit) i => i) (fun s => ax8 before a s) (fun i _ => if a35 (before.drop i) a.Mz = true then (7 : Int) else 0) (fun _ _ => True) (s0 := ()) trivial ?_ ?_).trans rfl
  ·intro _ i hi _
   simp only [ax8, dlt hi, if_true, aa8 hi, Option.bind_some, a35, drop_eq_getElem_cons hi, any_cons]
   by_cases h : before[i].Mz = a.Mz
   ·right; simp [h]
   ·left
    refine ⟨(), ?_, by simp [h], trivial⟩
    simp only [h, decide_false, false_eq_true, if_false]
    rw [ab0 (by omega)]
  ·intro _ _
   simp [ax8, a35]
 simp only [b84 hn, Option.bind_some, bU2 hv, hloop]
 by_cases h1 : (32 : Int) ≤ (List.length before : Int)
 ·simp [h1]
 ·simp only [h1, decide_false, false_eq_true, if_false]
  cases bU0 a.Mz with
  | false => simp
  | true =>
   simp only [Bool.not_true, false_eq_true, if_false, true_eq_false]
   by_cases h4 : (1024 : Int) < (List.length a.Value : Int)
   ·cases a.Qz <;> cases hd : decide (a.Value = []) <;> cases bf4 a.Value <;> simp [h4]
   ·cases a.Qz <;> cases hd : decide (a.Value = []) <;> cases bf4 a.Value <;> simp [h4]
def okA (a : aa1) : Prop := a.Mz.length ≤ 5000 ∧ a.Value.length ≤ 5000
def okL (l : List aa1) : Prop := l.length ≤ 5000 ∧ ∀ a ∈ l, okA a
def bN6 (before : List aa1) : List aa1 → Int
 | [] => 0
 | a :: r => if chk before a = 0 then bN6 (before ++ [a]) r else chk before a
def aV5 (l : List aa1) : Int := bN6 [] l
theorem okL.get {l : List aa1} (h : okL l) {i : Nat} (hi : i < l.length) : okA l[i] := h.2 _ (List.getElem_mem hi)
theorem bq0 {l : List aa1} (h : okL l) : aE9 l = some (aV5 l) := by
 unfold aE9
 refine (ad1 l.length (fun (_ : Unit) i => i) (fun s => aC6 l s) (fun i _ => bN6 (l.take i) (l.drop i)) (fun _ _ => True) (s0 := ()) trivial ?_ ?_).trans ?_
 ·intro _ i hi _
  have ha := h.get hi
  have h1 := h.1
  simp only [aC6, dlt hi, if_true, aa8 hi, Option.bind_some, aN5 (Nat.le_of_lt hi), b21 (before := l.take i) (a := l[i]) (by simp; omega) (by have := ha.1; omega) (by have := ha.2; omega), drop_eq_getElem_cons hi, bN6]
  by_cases hz : chk (l.take i) l[i] = 0
  ·left
   refine ⟨(), ?_, ?_, trivial⟩
   ·simp only [hz, decide_true, Bool.not_true, false_eq_true, if_false]
    rw [ab0 (by omega)]
   ·simp only [hz, if_true]
    rw [take_succ_eq_append_getElem hi]
  ·right; simp [hz]
 ·intro _ _
  simp [aC6, bN6]
 ·simp [aV5]
theorem bb6 {l : List aa1} (h : okL l) : aE3 l = some (aV5 l) := by
 unfold aE3
 refine (ad1 l.length (fun (_ : Unit) i => i) (fun s => ay7 l s) (fun i _ => bN6 (l.take i) (l.drop i)) (fun _ _ => True) (s0 := ()) trivial ?_ ?_).trans ?_
 ·intro _ i hi _
  have ha := h.get hi
  have h1 := h.1
  simp only [ay7, dlt hi, if_true, aa8 hi, Option.bind_some, aN5 (Nat.le_of_lt hi), bN5 (before := l.take i) (a := l[i]) (by simp; omega) (by have := ha.1; omega) (by have := ha.2; omega), drop_eq_getElem_cons hi, bN6]
  by_cases hz : chk (l.take i) l[i] = 0
  ·left
   refine ⟨(), ?_, ?_, trivial⟩
   ·simp only [hz, decide_true, Bool.not_true, false_eq_true, if_false]
    rw [ab0 (by omega)]
   ·simp only [hz, if_true]
    rw [take_succ_eq_append_getElem hi]
  ·right; simp [hz]
 ·intro _ _
  simp [ay7, bN6]
 ·simp [aV5]
def dbl (s : Str) : Str := s.flatMap fun c => if c = 39 then [39, 39] else [c]
def oddB (s : Str) : Bool := decide (s = []) || s.any fun c => ([32, 9, 39] : Str).contains c
def a36 (s : Str) : Str := if oddB s then [39] ++ dbl s ++ [39] else s
theorem ch0 (s : Str) : (dbl s).length ≤ 2 * s.length := by
 induction s with
 | nil => exact le_refl _
 | cons c r ih =>
  unfold dbl at ih ⊢
  rw [flatMap_cons, length_append, length_cons]
  split <;> simp only [length_cons, length_nil] <;> omega
theorem bk1 (s : Str) : (a36 s).length ≤ 2 * s.length + 2 := by
 have := ch0 s
 unfold a36
 split <;> simp <;> omega
theorem bH4 {c : UInt8} (hc : c ≠ 39) (k : Nat) (s : Str) (hk : k ≤ Go.Lib.count s [39]) : Go.Lib.replaceK [39] [39, 39] k (c :: s) = c :: Go.Lib.replaceK [39] [39, 39] k s := by
 cases k with
 | zero => rfl
 | succ k =>
  obtain ⟨i, hi⟩ := Go.Lib.index_of_count (s := s) (old := [39]) (by omega)
  have hi' : Go.Lib.index (c :: s) [39] = ((i + 1 : Nat) : Int) := by
   have hp : ([39] : Str).isPrefixOf (c :: s) = false := by simp [List.isPrefixOf, Ne.symm hc]
   rw [Go.Lib.index, hp, hi]
   have : ((i : Int) == -1) = false := by rw [beq_eq_false_iff_ne]; omega
   simp [this]
  rw [Go.Lib.replaceK_hit _ _ _ _ _ hi, Go.Lib.replaceK_hit _ _ _ _ _ hi']
  simp [Nat.add_right_comm]
theorem bU3 (s : Str) : Go.Lib.replaceK [39] [39, 39] (Go.Lib.count s [39]) s = dbl s := by
 induction s with
 | nil => rw [Go.Lib.count_one]; rfl
 | cons c r ih =>
  by_cases hc : c = 39
  ·subst hc
   have hi : Go.Lib.index (39 :: r) [39] = ((0 : Nat) : Int) := by rw [Go.Lib.index]; simp [List.isPrefixOf]
   rw [Go.Lib.count_cons_eq, Nat.add_comm 1, Go.Lib.replaceK_hit _ _ _ _ _ hi]
   simp only [List.take_zero, List.nil_append, Nat.zero_add, length_cons, length_nil, drop_succ_cons, drop_zero, ih]
   unfold dbl
   rw [flatMap_cons, if_pos rfl]
  ·rw [Go.Lib.count_cons_ne _ _ _ hc, bH4 hc _ _ (le_refl _), ih]
   unfold dbl
   rw [flatMap_cons, if_neg hc]; rfl
theorem bH5 {s : Str} (hs : s.length ≤ 1000000) : strings_ReplaceAll s [39] [39, 39] = some (dbl s) := by
 have hc : Go.Lib.count s [39] ≤ s.length := by rw [Go.Lib.count_one]; exact List.count_le_length
 unfold strings_ReplaceAll aW6
 rw [if_pos ⟨by omega, by simp, by simp; omega⟩]
 unfold Go.Lib.replaceAll Go.Lib.replace
 rw [if_neg (by decide)]
 have : Go.Lib.replaceNum s [39] (-1) = Go.Lib.count s [39] := by unfold Go.Lib.replaceNum; rw [if_pos (Or.inl (by omega))]
 rw [this, bU3]
theorem ct1 {s : Str} (hs : s.length ≤ 1000000) : a61 s = some (a36 s) := by
 unfold a61
 have hd := ch0 s
 have c1 : aj1 [39] (dbl s) = some ([39] ++ dbl s) := aa6 (by simp; omega)
 have c2 : aj1 ([39] ++ dbl s) [39] = some ([39] ++ dbl s ++ [39]) := aa6 (by simp; omega)
 have hu := aP7 [32, 9, 39] s
 have ha := bN4 [32, 9, 39] s
 have hany : (s.any fun c => ([32, 9, 39] : Str).contains c) = !(s.all fun c => !([32, 9, 39] : Str).contains c) := by
  rw [List.any_eq_not_all_not]
 have hdd : decide ((af5 [32, 9, 39] s : Int) = (List.length s : Int)) = (s.all fun c => !([32, 9, 39] : Str).contains c) := by
  cases h : s.all fun c => !([32, 9, 39] : Str).contains c with
  | true => rw [h] at ha; simp only [Bool.not_true, decide_eq_false_iff_not] at ha; simp; omega
  | false => rw [h] at ha; simp only [Bool.not_false, decide_eq_true_eq] at ha; simp; omega
 simp only [bf2 hs, Option.bind_some, bH5 hs, c1, c2, hdd]
 unfold a36 oddB
 rw [hany]
 cases h : s.all fun c => !([32, 9, 39] : Str).contains c <;> cases hn : decide (s = []) <;> simp
theorem bU4 {s : Str} (hs : s.length ≤ 1000000) : aX5 s = some (a36 s) := by
 unfold aX5
 refine (ad1 (τ := Str × Bool × Int) s.length (fun (x : Str × Bool) i => (x.1, x.2, i)) (fun x => aw6 s x.1 x.2.1 x.2.2)
  (fun i x => if x.2 || (s.drop i).any (fun c => ([32, 9, 39] : Str).contains c) then [39] ++ (x.1 ++ dbl (s.drop i)) ++ [39] else s) (fun i x => x.1.length ≤ 2 * i) (s0 := ([], decide (s = []))) (by simp) ?_ ?_).trans ?_
 ·rintro ⟨out, odd⟩ i hi hv
  simp only at hv
  left
  have key : ∀ c : UInt8, ((if (decide ((c.toNat : Int) = 32)) then some true else (if (decide ((c.toNat : Int) = 9)) then some true else some (decide (c = 39)))) : Option Bool) = some (([32, 9, 39] : Str).contains c) := aS2 (by decide +kernel)
  have hw : wrap .i64 ((i : Int) + 1) = (i : Int) + 1 := ab0 (by omega)
  have c1 : aj1 out [s[i]] = some (out ++ [s[i]]) := aa6 (by simp; omega)
  have c2 : aj1 (out ++ [s[i]]) [39] = some (out ++ [s[i]] ++ [39]) := aa6 (by simp; omega)
  have h39 : decide ((s[i].toNat : Int) = 39) = decide (s[i] = 39) := isC s[i] 39
  have hor : ((if odd = true then some true else some (([32, 9, 39] : Str).contains s[i])) : Option Bool) = some (odd || ([32, 9, 39] : Str).contains s[i]) := by cases odd <;> rfl
  refine ⟨(if s[i] = 39 then out ++ [s[i]] ++ [39] else out ++ [s[i]], odd || ([32, 9, 39] : Str).contains s[i]), ?_, ?_, ?_⟩
  ·simp only [aw6, dlt hi, if_true, af7 hi, Option.bind_some, key, hor, hw, cg4 hi, c1, c2, h39]
   by_cases h : s[i] = 39
   ·simp only [h, decide_true, if_true]
   ·simp only [h, decide_false, false_eq_true, if_false]
  ·simp only [drop_eq_getElem_cons hi, any_cons, Bool.or_assoc]
   have : dbl (s[i] :: s.drop (i + 1)) = (if s[i] = 39 then [39, 39] else [s[i]]) ++ dbl (s.drop (i + 1)) := by unfold dbl; rw [flatMap_cons]
   rw [this]
   by_cases h : s[i] = 39
   ·simp only [h, if_true]; simp
   ·simp only [h, if_false]; simp
  ·simp only
   split <;> simp <;> omega
 ·rintro ⟨out, odd⟩ hv
  simp only at hv
  have c1 : aj1 [39] out = some ([39] ++ out) := aa6 (by simp; omega)
  have c2 : aj1 ([39] ++ out) [39] = some ([39] ++ out ++ [39]) := aa6 (by simp; omega)
  simp only [aw6, dge, false_eq_true, if_false, aP0, c1, c2, Option.bind_some, drop_length]
  cases odd <;> simp [dbl]
 ·simp [a36, oddB]
def bh7 (a : aa1) : Str := if a.Qz then a.Mz ++ [63] else a.Mz ++ [61] ++ a36 a.Value
theorem b22 {a : aa1} (h : okA a) : (bh7 a).length ≤ 15003 := by
 have := bk1 a.Value
 have h1 := h.1
 have h2 := h.2
 unfold bh7
 split <;> simp <;> omega
def aP8 (l : List aa1) : Str := Go.Lib.join (l.map bh7) [32]
theorem ch1 (xs : List Str) (x sep : Str) : Go.Lib.join (xs ++ [x]) sep = if xs = [] then x else Go.Lib.join xs sep ++ sep ++ x := by
 cases xs with
 | nil => simp [Go.Lib.join_one]
 | cons y r =>
  rw [List.cons_append, Go.Lib.join_cons, Go.Lib.join_cons, if_neg (by simp)]
  simp [Go.Lib.joinTail]
theorem b23 {K : Nat} {sep : Str} : ∀ {l : List Str}, (∀ x ∈ l, x.length ≤ K) → (Go.Lib.join l sep).length ≤ l.length * (K + sep.length)
 | [], _ => by simp [Go.Lib.join_nil]
 | x :: r, h => by
  rw [Go.Lib.join_cons, length_append]
  have hx := h x (by simp)
  have : ∀ r : List Str, (∀ y ∈ r, y.length ≤ K) → (Go.Lib.joinTail sep r).length ≤ r.length * (K + sep.length) := by
   intro r
   induction r with
   | nil => intro _; simp [Go.Lib.joinTail]
   | cons y r ih =>
    intro h
    have h1 := ih fun z hz => h z (mem_cons_of_mem _ hz)
    have h2 := h y (by simp)
    unfold Go.Lib.joinTail at h1 ⊢
    rw [map_cons, List.flatten_cons, length_append, length_append, length_cons, Nat.add_mul, Nat.one_mul]
    omega
  have := this r fun z hz => h z (mem_cons_of_mem _ hz)
  rw [length_cons, Nat.add_mul, Nat.one_mul]
  omega
theorem bN7 {l : List aa1} (h : okL l) (i : Nat) : (Go.Lib.join ((l.take i).map bh7) [32]).length ≤ 75020000 := by
 have h1 := b23 (K := 15003) (sep := [32]) (l := (l.take i).map bh7) (by
  intro x hx
  obtain ⟨a, ha, rfl⟩ := List.mem_map.1 hx
  exact b22 (h.2 a (List.mem_of_mem_take ha)))
 have h2 := h.1
 simp only [List.length_map, List.length_take, length_cons, length_nil] at h1
 have : min i l.length * (15003 + (0 + 1)) ≤ 5000 * 15004 := Nat.mul_le_mul (by omega) (by omega)
 omega
theorem ct2 {l : List aa1} (h : okL l) : a62 l = some (if aV5 l = 0 then (aP8 l, 0) else ([], aV5 l)) := by
 unfold a62
 rw [bq0 h, Option.bind_some]
 by_cases hz : aV5 l = 0
 ·have hl := h.1
  have hmk : mkC 16 ([] : Str) 0 (List.length l : Int) = some [] := by
   unfold mkC
   rw [if_pos ⟨by omega, by omega, by omega, by omega⟩]; rfl
  simp only [hz, decide_true, Bool.not_true, false_eq_true, if_false, if_true, hmk, Option.bind_some]
  refine (ad1 (τ := Int × List Str) l.length (fun (x : List Str) i => (i, x)) (fun x => az2 l x.1 x.2) (fun i _ => (aP8 l, 0)) (fun i x => x = (l.take i).map bh7) (s0 := []) (by simp) ?_ ?_).trans rfl
  ·rintro x i hi rfl
   left
   have ha := h.get hi
   have h1 := ha.1
   have h2 := ha.2
   have hw : wrap .i64 ((i : Int) + 1) = (i : Int) + 1 := ab0 (by omega)
   have hq := bk1 l[i].Value
   have c1 : aj1 l[i].Mz [63] = some (l[i].Mz ++ [63]) := aa6 (by simp; omega)
   have c2 : aj1 l[i].Mz [61] = some (l[i].Mz ++ [61]) := aa6 (by simp; omega)
   have c3 : aj1 (l[i].Mz ++ [61]) (a36 l[i].Value) = some (l[i].Mz ++ [61] ++ a36 l[i].Value) := aa6 (by simp; omega)
   have ap : ∀ y : Str, aD8 16 ((l.take i).map bh7) [y] = some ((l.take i).map bh7 ++ [y]) := fun y => af3 (by simp; omega) (by simp; omega)
   refine ⟨(l.take (i + 1)).map bh7, ?_, rfl, rfl⟩
   simp only [az2, dlt hi, if_true, aa8 hi, Option.bind_some, c1, c2, ct1 (s := l[i].Value) (by omega), c3, ap, hw]
   rw [take_succ_eq_append_getElem hi, List.map_append, map_cons, map_nil]
   unfold bh7
   cases l[i].Qz <;> simp
  ·rintro x rfl
   have hj : strings_Join (l.map bh7) [32] = some (aP8 l) := by
    unfold strings_Join aP8
    have := bN7 h l.length
    rw [take_length] at this
    exact bT7 (by simp; omega) (by omega)
   simp only [az2, dge, false_eq_true, if_false, aS3, take_length, hj, Option.bind_some, map_some]
 ·simp [hz]
theorem bU5 {l : List aa1} (h : okL l) : aX6 l = some (if aV5 l = 0 then (aP8 l, 0) else ([], aV5 l)) := by
 unfold aX6
 rw [bb6 h, Option.bind_some]
 by_cases hz : aV5 l = 0
 ·have hl := h.1
  simp only [hz, decide_true, Bool.not_true, false_eq_true, if_false, if_true]
  refine (ad1 (τ := Str × Int) l.length (fun (x : Str) i => (x, i)) (fun x => aw8 l x.1 x.2) (fun i _ => (aP8 l, 0)) (fun i x => x = Go.Lib.join ((l.take i).map bh7) [32]) (s0 := []) (by simp [Go.Lib.join_nil]) ?_ ?_).trans rfl
  ·rintro x i hi rfl
   left
   have ha := h.get hi
   have h1 := ha.1
   have h2 := ha.2
   have hw : wrap .i64 ((i : Int) + 1) = (i : Int) + 1 := ab0 (by omega)
   have hq := bk1 l[i].Value
   have hlen := bN7 h i
   refine ⟨Go.Lib.join ((l.take (i + 1)).map bh7) [32], ?_, rfl, rfl⟩
   generalize hp : Go.Lib.join ((l.take i).map bh7) [32] = p at hlen
   have hk : ∀ q : Str, q.length ≤ 75020001 → aw7 l i q = some (.cont (q ++ bh7 l[i], (i : Int) + 1)) := by
    intro q hq2
    have c1 : aj1 q l[i].Mz = some (q ++ l[i].Mz) := aa6 (by omega)
    have c2 : aj1 (q ++ l[i].Mz) [63] = some (q ++ l[i].Mz ++ [63]) := aa6 (by simp; omega)
    have c3 : aj1 (q ++ l[i].Mz) [61] = some (q ++ l[i].Mz ++ [61]) := aa6 (by simp; omega)
    have c4 : aj1 (q ++ l[i].Mz ++ [61]) (a36 l[i].Value) = some (q ++ l[i].Mz ++ [61] ++ a36 l[i].Value) := aa6 (by simp; omega)
    simp only [aw7, aa8 hi, Option.bind_some, c1, c2, c3, bU4 (s := l[i].Value) (by omega), c4, hw]
    unfold bh7
    cases l[i].Qz <;> simp
   have hsn : Go.Lib.join ((l.take (i + 1)).map bh7) [32] = if i = 0 then bh7 l[i] else p ++ [32] ++ bh7 l[i] := by
    rw [take_succ_eq_append_getElem hi, List.map_append, map_cons, map_nil, ch1, hp]
    by_cases h0 : i = 0
    ·subst h0; simp
    ·rw [if_neg, if_neg h0]
     simp only [List.map_eq_nil_iff, List.take_eq_nil_iff, not_or]
     exact ⟨h0, by intro e; rw [e] at hi; simp at hi⟩
   have c5 : aj1 p [32] = some (p ++ [32]) := aa6 (by simp; omega)
   simp only [aw8, dlt hi, if_true]
   rw [hsn]
   by_cases h0 : i = 0
   ·have hp0 : p = [] := by rw [← hp, h0]; simp [Go.Lib.join_nil]
    rw [hk p (by omega), hp0]
    simp [h0]
   ·have : (0 : Int) < (i : Int) := by omega
    simp only [this, decide_true, if_true, c5, Option.bind_some, h0, if_false]
    rw [hk _ (by simp; omega)]
  ·rintro x rfl
   simp only [aw8, dge, false_eq_true, if_false, take_length]
   rfl
 ·simp [hz]
def ah0 : Str → Option (Str × Nat)
 | [] => none
 | [c] => if c = 39 then some ([], 1) else none
 | c :: d :: r => if c = 39 then (if d = 39 then (ah0 r).map fun x => (39 :: x.1, x.2 + 2) else some ([], 1)) else (ah0 (d :: r)).map fun x => (c :: x.1, x.2 + 1)
theorem b85 {c : UInt8} {r : Str} (h : c ≠ 39) : ah0 (c :: r) = (ah0 r).map fun x => (c :: x.1, x.2 + 1) := by
 cases r with
 | nil => simp [ah0, h]
 | cons d r => rw [ah0, if_neg h]
theorem bN8 {r : Str} (h : r.head? ≠ some 39) : ah0 (39 :: r) = some ([], 1) := by
 cases r with
 | nil => rfl
 | cons d r =>
  have : d ≠ 39 := by simpa using h
  rw [ah0, if_pos rfl, if_neg this]
theorem bU6 {r : Str} : ah0 (39 :: 39 :: r) = (ah0 r).map fun x => (39 :: x.1, x.2 + 2) := by
 rw [ah0, if_pos rfl, if_pos rfl]
theorem b86 (c : UInt8) : decide ((c.toNat : Int) = 39) = decide (c = 39) := isC c 39
theorem is61 (c : UInt8) : decide ((c.toNat : Int) = 61) = decide (c = 61) := isC c 61
theorem is63 (c : UInt8) : decide ((c.toNat : Int) = 63) = decide (c = 63) := isC c 63
theorem bv4 (s : Str) (i : Nat) (hi : i ≤ s.length) : i = s.length ∨ ∃ h : i < s.length, (s[i] ≠ 39 ∧ ah0 (s.drop i) = (ah0 (s.drop (i + 1))).map fun x => (s[i] :: x.1, x.2 + 1)) ∨
  (s[i] = 39 ∧ (i + 1 = s.length ∨ ∃ h2 : i + 1 < s.length, s[i + 1] ≠ 39) ∧ ah0 (s.drop i) = some ([], 1)) ∨
  (s[i] = 39 ∧ (∃ h2 : i + 1 < s.length, s[i + 1] = 39) ∧ ah0 (s.drop i) = (ah0 (s.drop (i + 2))).map fun x => (39 :: x.1, x.2 + 2)) := by
 rcases lt_or_ge i s.length with h | h
 ·right
  refine ⟨h, ?_⟩
  rw [drop_eq_getElem_cons h]
  by_cases hc : s[i] = 39
  ·right
   rcases lt_or_ge (i + 1) s.length with h2 | h2
   ·by_cases hd : s[i + 1] = 39
    ·right
     refine ⟨hc, ⟨h2, hd⟩, ?_⟩
     rw [hc, drop_eq_getElem_cons h2, hd, bU6]
    ·left
     refine ⟨hc, Or.inr ⟨h2, hd⟩, ?_⟩
     rw [hc, drop_eq_getElem_cons h2]
     exact bN8 fun e => hd (Option.some.inj e)
   ·left
    refine ⟨hc, Or.inl (by omega), ?_⟩
    rw [hc, List.drop_of_length_le h2]; rfl
  ·left
   exact ⟨hc, b85 hc⟩
 ·left; omega
theorem ch2 {s : Str} (hs : s.length ≤ 1000000) : aX0 s = some (match ah0 s with | some x => (x.1, (x.2 : Int), true) | none => ([], 0, false)) := by
 unfold aX0
 refine (aq3 (σ := Nat × Str) (fun x => am4 s x.1 x.2) (fun x => ((x.1 : Int), x.2)) (fun x => match ah0 (s.drop x.1) with | some y => (x.2 ++ y.1, ((x.1 + y.2 : Nat) : Int), true) | none => ([], 0, false)) (fun x => s.length - x.1)
  (fun x => x.1 ≤ s.length ∧ x.2.length ≤ x.1) ?_ (s0 := (0, [])) ⟨by simp, by simp⟩).trans ?_
 ·rintro ⟨i, acc⟩ ⟨h1, h2⟩
  simp only at h1 h2
  rcases bv4 s i h1 with he | ⟨h, hcase⟩
  ·right
   subst he
   simp [am4, ah0]
  ·have hw : wrap .i64 ((i : Int) + 1) = (i : Int) + 1 := ab0 (by omega)
   have hw2 : wrap .i64 ((i : Int) + 1 + 1) = ((i + 2 : Nat) : Int) := by rw [ab3 (by omega) (by omega)]; omega
   have b1 : ∀ c : UInt8, bAdd acc [c] = some (acc ++ [c]) := fun c => aL8 (by simp; omega)
   rcases hcase with ⟨hc, hq⟩ | ⟨hc, hn, hq⟩ | ⟨hc, ⟨h3, hd⟩, hq⟩
   ·left
    refine ⟨(i + 1, acc ++ [s[i]]), ?_, ?_, ⟨by simp only; omega, by simp; omega⟩, by simp only; omega⟩
    ·simp only [am4, dlt h, if_true, af7 h, Option.bind_some, b86, hc, decide_false, Bool.not_false, b1, hw]
     rfl
    ·simp only [hq]
     cases ah0 (s.drop (i + 1)) with
     | none => rfl
     | some y => simp; omega
   ·right
    simp only [am4, dlt h, if_true, af7 h, Option.bind_some, b86, hc, decide_true, Bool.not_true, false_eq_true, if_false, hw, hq]
    rcases hn with h3 | ⟨h3, hd⟩
    ·have : (i : Int) + 1 = (List.length s : Int) := by omega
     simp [this]
    ·have h4 : ¬ ((i : Int) + 1 = (List.length s : Int)) := by omega
     have h5 : ah4 s ((i : Int) + 1) = some s[i + 1] := by
      have := af7 h3
      rwa [show ((i + 1 : Nat) : Int) = (i : Int) + 1 by omega] at this
     simp [h4, h5, b86, hd]
   ·left
    have h4 : ¬ ((i : Int) + 1 = (List.length s : Int)) := by omega
    have h5 : ah4 s ((i : Int) + 1) = some s[i + 1] := by
     have := af7 h3
     rwa [show ((i + 1 : Nat) : Int) = (i : Int) + 1 by omega] at this
    refine ⟨(i + 2, acc ++ [39]), ?_, ?_, ⟨by simp only; omega, by simp; omega⟩, by simp only; omega⟩
    ·simp only [am4, dlt h, if_true, af7 h, Option.bind_some, b86, hc, decide_true, Bool.not_true, false_eq_true, if_false, hw, h4, decide_false, h5, hd, b1, hw2]
    ·simp only [hq]
     cases ah0 (s.drop (i + 2)) with
     | none => rfl
     | some y => simp; omega
 ·simp only [drop_zero]
  cases ah0 s <;> simp
theorem bN9 {s : Str} {a : Nat} (hs : s.length ≤ 1000000) (ha : a ≤ s.length) : aR3 s (a : Int) = some (match ah0 (s.drop a) with | some x => (x.1, ((a + x.2 : Nat) : Int), 0) | none => ([], (s.length : Int), 48)) := by
 unfold aR3
 refine (aq3 (σ := Nat × Str) (fun x => ak0 s x.1 x.2) (fun x => ((x.1 : Int), x.2)) (fun x => match ah0 (s.drop x.1) with | some y => (x.2 ++ y.1, ((x.1 + y.2 : Nat) : Int), 0) | none => ([], (s.length : Int), 48)) (fun x => s.length - x.1)
  (fun x => x.1 ≤ s.length ∧ x.2.length ≤ x.1) ?_ (s0 := (a, [])) ⟨ha, by simp⟩).trans ?_
 ·rintro ⟨i, acc⟩ ⟨h1, h2⟩
  simp only at h1 h2
  rcases bv4 s i h1 with he | ⟨h, hcase⟩
  ·right
   subst he
   simp [ak0, ah0]
  ·have hw : wrap .i64 ((i : Int) + 1) = (i : Int) + 1 := ab0 (by omega)
   have hw2 : wrap .i64 ((i : Int) + 2) = ((i + 2 : Nat) : Int) := by rw [ab3 (by omega) (by omega)]; omega
   have b1 : ∀ c : UInt8, aj1 acc [c] = some (acc ++ [c]) := fun c => aa6 (by simp; omega)
   rcases hcase with ⟨hc, hq⟩ | ⟨hc, hn, hq⟩ | ⟨hc, ⟨h3, hd⟩, hq⟩
   ·left
    refine ⟨(i + 1, acc ++ [s[i]]), ?_, ?_, ⟨by simp only; omega, by simp; omega⟩, by simp only; omega⟩
    ·simp only [ak0, dlt h, if_true, af7 h, Option.bind_some, b86, hc, decide_false, Bool.not_false, b1, hw, cg4 h]
     rfl
    ·simp only [hq]
     cases ah0 (s.drop (i + 1)) with
     | none => rfl
     | some y => simp; omega
   ·right
    simp only [ak0, dlt h, if_true, af7 h, Option.bind_some, b86, hc, decide_true, Bool.not_true, false_eq_true, if_false, hw, hq]
    rcases hn with h3 | ⟨h3, hd⟩
    ·have : (i : Int) + 1 = (List.length s : Int) := by omega
     simp [this]
    ·have h4 : ¬ ((i : Int) + 1 = (List.length s : Int)) := by omega
     have h5 : ah4 s ((i : Int) + 1) = some s[i + 1] := by
      have := af7 h3
      rwa [show ((i + 1 : Nat) : Int) = (i : Int) + 1 by omega] at this
     simp [h4, h5, b86, hd]
   ·left
    have h4 : ¬ ((i : Int) + 1 = (List.length s : Int)) := by omega
    have h5 : ah4 s ((i : Int) + 1) = some s[i + 1] := by
     have := af7 h3
     rwa [show ((i + 1 : Nat) : Int) = (i : Int) + 1 by omega] at this
    refine ⟨(i + 2, acc ++ [39]), ?_, ?_, ⟨by simp only; omega, by simp; omega⟩, by simp only; omega⟩
    ·simp only [ak0, dlt h, if_true, af7 h, Option.bind_some, b86, hc, decide_true, Bool.not_true, false_eq_true, if_false, hw, h4, decide_false, h5, hd, b1, hw2]
    ·simp only [hq]
     cases ah0 (s.drop (i + 2)) with
     | none => rfl
     | some y => simp; omega
 ·simp only
  cases ah0 (s.drop a) <;> simp
def az5 (c : UInt8) : Bool := decide ((c.toNat : Int) = 32) || decide ((c.toNat : Int) = 9)
def aU9 (s : Str) : Bool := match s with
 | [] => true
 | c :: _ => az5 c
def bad (e : Int) : aa1 × Nat × Int := (⟨[], [], false⟩, 0, e)
def fin (s : Str) (a : aa1) (n : Nat) : aa1 × Nat × Int := if aU9 (s.drop n) then (a, n, 0) else bad 2
def cM2 (s nm : Str) (n : Nat) (r : Str) : aa1 × Nat × Int := if (r.take (af5 [32, 9] r)).contains 39 then bad 2 else fin s ⟨nm, r.take (af5 [32, 9] r), false⟩ (n + (1 + af5 [32, 9] r))
def cy7 (s nm : Str) (n : Nat) : Str → aa1 × Nat × Int
 | [] => bad 2
 | c :: r => if c = 63 then fin s ⟨nm, [], true⟩ (n + 1) else if c = 61 then
  (if ([39] : Str).isPrefixOf r then (match ah0 (r.drop 1) with | none => bad 48 | some x => fin s ⟨nm, x.1, false⟩ (n + (2 + x.2))) else cM2 s nm n r) else bad 2
def aJ0 : Str := [32, 9, 61, 63, 39]
def bq1 (s : Str) : aa1 × Nat × Int := cy7 s (s.take (af5 aJ0 s)) (af5 aJ0 s) (s.drop (af5 aJ0 s))
theorem bH6 {s nm v : Str} {n : Nat} {q : Bool} (hn : n ≤ s.length) : aE7 s nm (n : Int) v q = some ((fin s ⟨nm, v, q⟩ n).1, ((fin s ⟨nm, v, q⟩ n).2.1 : Int), (fin s ⟨nm, v, q⟩ n).2.2) := by
 unfold aE7 fin
 rcases lt_or_ge n s.length with h | h
 ·simp only [dlt h, if_true, af7 h, Option.bind_some, aT6, drop_eq_getElem_cons h, aU9]
  change (if (!az5 s[n]) = true then _ else _) = _
  cases az5 s[n] <;> rfl
 ·have : n = s.length := by omega
  subst this
  simp [aU9]
theorem aP9 : ∀ (s : Str) (x : Str × Nat), ah0 s = some x → x.1.length ≤ x.2 ∧ 1 ≤ x.2 ∧ x.2 ≤ s.length
 | [], x, h => by simp [ah0] at h
 | [c], x, h => by
  unfold ah0 at h
  split at h
  ·cases h; simp
  ·cases h
 | c :: d :: r, x, h => by
  rw [ah0] at h
  split at h
  ·split at h
   ·obtain ⟨y, hy, rfl⟩ := Option.map_eq_some_iff.1 h
    have := aP9 r y hy
    simp; omega
   ·cases h; simp
  ·obtain ⟨y, hy, rfl⟩ := Option.map_eq_some_iff.1 h
   have := aP9 (d :: r) y hy
   simp at this ⊢; omega
theorem cM3 {s : Str} (hs : s.length ≤ 1000000) : bp8 s = some ((bq1 s).1, ((bq1 s).2.1 : Int), (bq1 s).2.2) := by
 unfold bp8 bq1
 have hn := aP7 aJ0 s
 have hu : au2 s [32, 9, 61, 63, 39] = some (af5 aJ0 s : Int) := bf2 hs
 rw [hu, Option.bind_some]
 generalize af5 aJ0 s = n at hn ⊢
 rw [aN5 hn, Option.bind_some, ax6 hn, Option.bind_some]
 generalize hr : s.drop n = rest
 have hlen : rest.length = s.length - n := by rw [← hr, length_drop]
 simp only [bf3, Option.bind_some]
 cases rest with
 | nil => simp [List.isPrefixOf, cy7, bad]
 | cons c r =>
  simp only [length_cons] at hlen
  unfold cy7
  by_cases h63 : c = 63
  ·subst h63
   have hw : wrap .i64 ((n : Int) + 1) = ((n + 1 : Nat) : Int) := by rw [ab3 (by omega) (by omega)]; omega
   simp only [List.isPrefixOf, BEq.rfl, Bool.and_true, if_true, hw]
   exact bH6 (by omega)
  ·have e63 : ((63 : UInt8) == c) = false := by simpa using Ne.symm h63
   simp only [List.isPrefixOf, e63, Bool.false_and, false_eq_true, if_false, h63]
   by_cases h61 : c = 61
   ·subst h61
    simp only [BEq.rfl, Bool.true_and, if_true]
    cases r with
    | nil =>
     have hu2 : au2 [61] [32, 9] = some (1 : Int) := bf2 (by simp)
     have hcut : cut ([61] : Str) 1 1 = some [] := rfl
     have hcon : strings_Contains [] [39] = some false := rfl
     have hw : wrap .i64 ((n : Int) + 1) = ((n + 1 : Nat) : Int) := by rw [ab3 (by omega) (by omega)]; omega
     simp only [List.isPrefixOf, false_eq_true, if_false, hu2, Option.bind_some, hcut, hcon, hw]
     exact bH6 (by simp at hlen; omega)
    | cons d r2 =>
     simp only [List.isPrefixOf, Bool.and_true]
     by_cases h39 : d = 39
     ·subst h39
      have hcut : cut (61 :: 39 :: r2) 2 (List.length (61 :: 39 :: r2) : Int) = some r2 := by
       have := ax6 (l := (61 :: 39 :: r2 : Str)) (a := 2) (by simp)
       simpa using this
      simp only [length_cons] at hlen
      have hcut' : cut (61 :: 39 :: r2) 2 (List.length (61 :: 39 :: r2) : Int) = some r2 := hcut
      simp only [BEq.rfl, if_true, hcut', Option.bind_some, ch2 (s := r2) (by omega), drop_succ_cons, drop_zero]
      cases hq : ah0 r2 with
      | none => simp [bad]
      | some x =>
       have hx := aP9 r2 x hq
       have hw1 : wrap .i64 (2 + (x.2 : Int)) = 2 + (x.2 : Int) := ab3 (by omega) (by omega)
       have hw2 : wrap .i64 ((n : Int) + (2 + (x.2 : Int))) = ((n + (2 + x.2) : Nat) : Int) := by rw [ab3 (by omega) (by omega)]; omega
       simp only [Bool.not_true, false_eq_true, if_false, hw1, hw2]
       exact bH6 (by omega)
     ·have e39 : ((39 : UInt8) == d) = false := by simpa using Ne.symm h39
      simp only [length_cons] at hlen
      have hu2 : au2 (61 :: d :: r2) [32, 9] = some ((af5 [32, 9] (d :: r2) + 1 : Nat) : Int) := by
       rw [bf2 (by simp; omega), af5]; rfl
      have hle := aP7 [32, 9] (d :: r2)
      simp only [length_cons] at hle
      simp only [e39, false_eq_true, if_false, hu2, Option.bind_some]
      unfold cM2
      generalize af5 [32, 9] (d :: r2) = k at hle ⊢
      have hcut : cut (61 :: d :: r2) 1 ((k + 1 : Nat) : Int) = some ((d :: r2).take k) := by
       have := bj7 (l := (61 :: d :: r2 : Str)) (a := 1) (b := k + 1) (by omega) (by simp; omega)
       simpa using this
      have hcon : strings_Contains ((d :: r2).take k) [39] = some (((d :: r2).take k).contains 39) := by
       unfold strings_Contains strings_Index bM5
       rw [Option.bind_some, cy5]
      have hw : wrap .i64 ((n : Int) + ((k + 1 : Nat) : Int)) = ((n + (1 + k) : Nat) : Int) := by rw [ab3 (by omega) (by omega)]; omega
      simp only [hcut, Option.bind_some, hcon, hw]
      cases hc : ((d :: r2).take k).contains 39 with
      | true => simp [bad]
      | false =>
       simp only [false_eq_true, if_false]
       exact bH6 (by omega)
   ·have e61 : ((61 : UInt8) == c) = false := by simpa using Ne.symm h61
    simp [e61, h61, bad]
theorem bH7 {s : Str} {i : Nat} (hi : i ≤ s.length) : aM2 s (i : Int) = some (aU9 (s.drop i)) := by
 unfold aM2
 rcases lt_or_ge i s.length with h | h
 ·have : ¬ ((i : Int) = (List.length s : Int)) := by omega
  simp only [this, decide_false, false_eq_true, if_false, af7 h, Option.bind_some, aA2, drop_eq_getElem_cons h, aU9]
  rfl
 ·have : i = s.length := by omega
  subst this
  simp [aU9]
theorem ch3 (stops s : Str) : (s.drop (af5 stops s) = []) ∨ ∃ c r, s.drop (af5 stops s) = c :: r ∧ stops.contains c = true := by
 induction s with
 | nil => left; rfl
 | cons c r ih =>
  unfold af5
  by_cases hc : stops.contains c = true
  ·right; exact ⟨c, r, by rw [if_pos hc]; rfl, hc⟩
  ·rw [if_neg hc, drop_succ_cons]; exact ih
theorem bf5 (stops s : Str) : ∀ i (h : i < s.length), i < af5 stops s → stops.contains s[i] = false := by
 induction s with
 | nil => intro i h; simp at h
 | cons c r ih =>
  intro i h hi
  unfold af5 at hi
  by_cases hc : stops.contains c = true
  ·rw [if_pos hc] at hi; omega
  ·rw [if_neg hc] at hi
   cases i with
   | zero => simpa using hc
   | succ i => exact ih i (by simpa using h) (by omega)
theorem ch4 (c : UInt8) : az5 c = ([32, 9] : Str).contains c := by
 revert c; exact fun c => aS2 (f := az5) (g := fun c => ([32, 9] : Str).contains c) (by decide +kernel) c
theorem bO0 (r : Str) : (∃ t, r.drop (af5 [32, 9, 39] r) = 39 :: t ∧ (r.take (af5 [32, 9] r)).contains 39 = true) ∨
  (aU9 (r.drop (af5 [32, 9, 39] r)) = true ∧ af5 [32, 9] r = af5 [32, 9, 39] r ∧ (r.take (af5 [32, 9] r)).contains 39 = false) := by
 induction r with
 | nil => right; exact ⟨rfl, rfl, rfl⟩
 | cons c r ih =>
  have hm : ([32, 9, 39] : Str).contains c = (([32, 9] : Str).contains c || decide (c = 39)) := aS2 (f := fun c => ([32, 9, 39] : Str).contains c) (g := fun c => (([32, 9] : Str).contains c || decide (c = 39))) (by decide +kernel) c
  by_cases hb : ([32, 9] : Str).contains c = true
  ·right
   have h3 : ([32, 9, 39] : Str).contains c = true := by rw [hm, hb]; rfl
   simp only [af5, if_pos hb, if_pos h3, drop_zero, List.take_zero, aU9, ch4]
   exact ⟨hb, trivial, rfl⟩
  ·have hb' := eq_false_iff.2 hb
   by_cases h39 : c = 39
   ·left
    have h3 : ([32, 9, 39] : Str).contains c = true := by rw [hm, h39]; rfl
    simp only [af5, if_neg hb, if_pos h3, drop_zero, take_succ_cons]
    exact ⟨r, by rw [h39], by rw [h39]; simp⟩
   ·have h3 : ¬ ([32, 9, 39] : Str).contains c = true := by rw [hm, hb']; simp [h39]
    simp only [af5, if_neg hb, if_neg h3, drop_succ_cons, take_succ_cons]
    have hcc : ∀ l : Str, (c :: l).contains 39 = l.contains 39 := by
     intro l; rw [List.contains_cons]
     have : ((39 : UInt8) == c) = false := by simpa using Ne.symm h39
     rw [this, Bool.false_or]
    rcases ih with ⟨t, h1, h2⟩ | ⟨h1, h2, h3⟩
    ·left; exact ⟨t, h1, by rw [hcc]; exact h2⟩
    ·right; exact ⟨h1, by rw [h2], by rw [hcc]; exact h3⟩
theorem ct3 (s : Str) (at_ : Nat) (a : aa1) (n : Nat) : fin (s.drop at_) a n = if aU9 (s.drop (at_ + n)) then (a, n, 0) else bad 2 := by
 unfold fin; rw [drop_drop]
def agree (x : aa1 × Int × Int) (at_ : Nat) (o : aa1 × Nat × Int) : Prop := x.2.2 = o.2.2 ∧ (o.2.2 = 0 → x.1 = o.1 ∧ x.2.1 = ((at_ + o.2.1 : Nat) : Int))
theorem a38 {s : Str} {at_ : Nat} {a : aa1} {n : Nat} {x : aa1 × Int × Int} (h1 : aU9 (s.drop (at_ + n)) = true → x = (a, ((at_ + n : Nat) : Int), 0)) (h2 : aU9 (s.drop (at_ + n)) = false → x.2.2 = 2) : agree x at_ (fin (s.drop at_) a n) := by
 rw [ct3]
 cases h : aU9 (s.drop (at_ + n)) with
 | true => rw [if_pos rfl, h1 h]; exact ⟨rfl, fun _ => ⟨rfl, rfl⟩⟩
 | false => rw [if_neg (by simp)]; exact ⟨h2 h, fun e => by simp [bad] at e⟩
theorem ch5 {s : Str} {at_ n : Nat} (hs : s.length ≤ 1000000) (ha : at_ ≤ s.length) (hn : n ≤ s.length - at_) :
  ∃ x, aH0 s (at_ : Int) ((at_ + n : Nat) : Int) = some x ∧ agree x at_ (cy7 (s.drop at_) ((s.drop at_).take n) n ((s.drop at_).drop n)) := by
 unfold aH0
 have hcut : cut s (at_ : Int) ((at_ + n : Nat) : Int) = some ((s.drop at_).take n) := by
  rw [bj7 (by omega) (by omega), List.drop_take, Nat.add_sub_cancel_left]
 rw [hcut, Option.bind_some]
 generalize (s.drop at_).take n = nm
 rw [drop_drop]
 rcases lt_or_ge (at_ + n) s.length with h | h
 ·have hne : ¬ (((at_ + n : Nat) : Int) = (List.length s : Int)) := by omega
  have hw : wrap .i64 (((at_ + n : Nat) : Int) + 1) = ((at_ + n + 1 : Nat) : Int) := by rw [ab3 (by omega) (by omega)]; omega
  have hw2 : wrap .i64 (((at_ + n + 1 : Nat) : Int) + 1) = ((at_ + n + 2 : Nat) : Int) := by rw [ab3 (by omega) (by omega)]; omega
  simp only [dlt h, if_true, af7 h, Option.bind_some, is63, is61, hw, hw2, hne, decide_false, false_eq_true, if_false, bH7 (s := s) (i := at_ + n + 1) (by omega), drop_eq_getElem_cons h]
  generalize s[at_ + n] = c
  unfold cy7
  by_cases h63 : c = 63
  ·subst h63
   simp only [decide_true, if_true, Option.bind_some]
   cases he : aU9 (s.drop (at_ + n + 1)) with
   | true =>
    refine ⟨_, by simp only [if_true]; rfl, ?_⟩
    refine a38 (fun _ => ?_) (fun h => ?_)
    ·rfl
    ·rw [← add_assoc, he] at h; cases h
   | false =>
    refine ⟨_, by simp only [false_eq_true, if_false]; rfl, ?_⟩
    refine a38 (fun h => ?_) (fun h => rfl)
    rw [← add_assoc, he] at h; cases h
  ·simp only [h63, decide_false, false_eq_true, if_false, Option.bind_some]
   by_cases h61 : c = 61
   ·subst h61
    simp only [decide_true, Bool.not_true, false_eq_true, if_false, if_true]
    have hlast : ∀ r, s.drop (at_ + n + 1) = r → ([39] : Str).isPrefixOf r = false → ∃ x, ab1 (fun t => au5 s ((at_ + n : Nat) : Int) nm t) ((at_ + n + 1 : Nat) : Int) = some x ∧ agree x at_ (cM2 (s.drop at_) nm n r) := by
     intro r hr _
     have hrl : r.length = s.length - (at_ + n + 1) := by rw [← hr, length_drop]
     have hq := aP7 [32, 9, 39] r
     have hdrop : ∀ k, r.drop k = s.drop (at_ + n + 1 + k) := by intro k; rw [← hr, drop_drop]
     have hbef : ∀ k (hk : at_ + n + 1 + k < s.length), k < af5 [32, 9, 39] r → az5 s[at_ + n + 1 + k] = false ∧ s[at_ + n + 1 + k] ≠ 39 := by
      intro k hk hk2
      have h1 := bf5 [32, 9, 39] r k (by omega) hk2
      have h2 : r[k]'(by omega) = s[at_ + n + 1 + k] := by
       subst hr; rw [getElem_drop]
      rw [h2] at h1
      have hm : ([32, 9, 39] : Str).contains s[at_ + n + 1 + k] = (az5 s[at_ + n + 1 + k] || decide (s[at_ + n + 1 + k] = 39)) := aS2 (f := fun c => ([32, 9, 39] : Str).contains c) (g := fun c => (az5 c || decide (c = 39))) (by decide +kernel) _
      rw [hm, Bool.or_eq_false_iff] at h1
      exact ⟨h1.1, by simpa using h1.2⟩
     let X : aa1 × Int × Int := if aU9 (s.drop (at_ + n + 1 + af5 [32, 9, 39] r)) then (⟨nm, r.take (af5 [32, 9, 39] r), false⟩, ((at_ + n + 1 + af5 [32, 9, 39] r : Nat) : Int), 0) else (⟨nm, [], false⟩, ((at_ + n + 1 + af5 [32, 9, 39] r : Nat) : Int), 2)
     refine ⟨X, ?_, ?_⟩
     ·refine aq3 (σ := Nat) (fun t => au5 s ((at_ + n : Nat) : Int) nm t) (fun k => ((at_ + n + 1 + k : Nat) : Int)) (fun _ => X) (fun k => af5 [32, 9, 39] r - k) (fun k => k ≤ af5 [32, 9, 39] r) ?_ (s0 := 0) (zero_le _)
      intro k hk
      have hle : at_ + n + 1 + k ≤ s.length := by omega
      rcases lt_or_ge k (af5 [32, 9, 39] r) with hk2 | hk2
      ·have hlt : at_ + n + 1 + k < s.length := by omega
       obtain ⟨b1, b2⟩ := hbef k hlt hk2
       left
       refine ⟨k + 1, ?_, rfl, by omega, by omega⟩
       have hwk : wrap .i64 (((at_ + n + 1 + k : Nat) : Int) + 1) = ((at_ + n + 1 + (k + 1) : Nat) : Int) := by rw [ab3 (by omega) (by omega)]; omega
       simp only [au5, bH7 hle, Option.bind_some, drop_eq_getElem_cons hlt, aU9, b1, Bool.not_false, if_true, af7 hlt, b86, b2, decide_false, false_eq_true, if_false, hwk]
      ·have hke : k = af5 [32, 9, 39] r := by omega
       right
       have hcut2 : cut s (wrap .i64 (((at_ + n : Nat) : Int) + 1)) ((at_ + n + 1 + k : Nat) : Int) = some (r.take k) := by
        rw [hw, bj7 (by omega) hle, List.drop_take, Nat.add_sub_cancel_left, hr]
       simp only [au5, bH7 hle, Option.bind_some, aS4, hcut2, map_some]
       show _ = some (Step.done X)
       simp only [X, ← hke]
       cases he : aU9 (s.drop (at_ + n + 1 + k)) with
       | true => simp
       | false =>
        rcases bO0 r with ⟨t, h1, h2⟩ | ⟨h1, _⟩
        ·have hlt : at_ + n + 1 + k < s.length := by
          rw [← hke, hdrop] at h1
          rcases lt_or_ge (at_ + n + 1 + k) s.length with h | h
          ·exact h
          ·rw [List.drop_of_length_le h] at h1; cases h1
         have hc : s[at_ + n + 1 + k] = 39 := by
          rw [← hke, hdrop, drop_eq_getElem_cons hlt] at h1
          exact (List.cons.inj h1).1
         simp only [Bool.not_false, if_true, af7 hlt, Option.bind_some, b86, hc, decide_true, false_eq_true, if_false]
        ·rw [← hke, hdrop, he] at h1; cases h1
     ·unfold cM2
      rcases bO0 r with ⟨t, h1, h2⟩ | ⟨h1, h2, h3⟩
      ·rw [h2, if_pos rfl]
       have he : aU9 (s.drop (at_ + n + 1 + af5 [32, 9, 39] r)) = false := by rw [← hdrop, h1]; rfl
       simp only [X, he, false_eq_true, if_false]
       exact ⟨rfl, fun e => by simp [bad] at e⟩
      ·rw [h3, if_neg (by simp), h2]
       have he : aU9 (s.drop (at_ + (n + (1 + af5 [32, 9, 39] r)))) = true := by
        rw [show at_ + (n + (1 + af5 [32, 9, 39] r)) = at_ + n + 1 + af5 [32, 9, 39] r by omega, ← hdrop]; exact h1
       refine a38 (fun _ => ?_) (fun h => by rw [he] at h; cases h)
       have he' : aU9 (s.drop (at_ + n + 1 + af5 [32, 9, 39] r)) = true := by rw [← hdrop]; exact h1
       simp only [X, he', if_true]
       rw [show at_ + n + 1 + af5 [32, 9, 39] r = at_ + (n + (1 + af5 [32, 9, 39] r)) by omega]
    generalize hr : s.drop (at_ + n + 1) = r
    rcases lt_or_ge (at_ + n + 1) s.length with h2 | h2
    ·have hr2 := hr
     rw [drop_eq_getElem_cons h2] at hr2
     simp only [dlt h2, if_true, af7 h2, Option.bind_some, b86]
     by_cases h39 : s[at_ + n + 1] = 39
     ·have hp : ([39] : Str).isPrefixOf r = true := by rw [← hr2, h39]; rfl
      have hd : r.drop 1 = s.drop (at_ + n + 2) := by rw [← hr2]; rfl
      simp only [h39, decide_true, if_true, bN9 hs (show at_ + n + 2 ≤ s.length by omega), Option.bind_some, hp, hd]
      cases hq : ah0 (s.drop (at_ + n + 2)) with
      | none => exact ⟨_, rfl, rfl, fun e => by simp [bad] at e⟩
      | some x =>
       have hx := aP9 _ x hq
       rw [length_drop] at hx
       simp only [decide_true, if_true, bH7 (s := s) (i := at_ + n + 2 + x.2) (by omega), Option.bind_some, aG9]
       cases he : aU9 (s.drop (at_ + n + 2 + x.2)) with
       | true =>
        refine ⟨_, by simp only [Bool.not_true, false_eq_true, if_false]; rfl, a38 (fun _ => ?_) (fun h => ?_)⟩
        ·rw [show at_ + (n + (2 + x.2)) = at_ + n + 2 + x.2 by omega]
        ·rw [show at_ + (n + (2 + x.2)) = at_ + n + 2 + x.2 by omega, he] at h; cases h
       | false =>
        refine ⟨_, by simp only [Bool.not_false, if_true]; rfl, a38 (fun h => ?_) (fun h => rfl)⟩
        rw [show at_ + (n + (2 + x.2)) = at_ + n + 2 + x.2 by omega, he] at h; cases h
     ·have hp : ([39] : Str).isPrefixOf r = false := by
       rw [← hr2]
       have : ((39 : UInt8) == s[at_ + n + 1]) = false := by simpa using Ne.symm h39
       simp only [List.isPrefixOf, this, Bool.false_and]
      simp only [h39, decide_false, false_eq_true, if_false, hp]
      exact hlast r hr hp
    ·have hr3 : r = [] := by rw [← hr]; exact List.drop_of_length_le h2
     have hp : ([39] : Str).isPrefixOf r = false := by rw [hr3]; rfl
     have h3 : ¬ (((at_ + n + 1 : Nat) : Int) < (List.length s : Int)) := by omega
     simp only [h3, decide_false, false_eq_true, if_false, Option.bind_some, hp]
     exact hlast r hr hp
   ·simp only [h61, decide_false, Bool.not_false, if_true, if_false]
    exact ⟨_, rfl, rfl, fun e => by simp [bad] at e⟩
 ·have he : at_ + n = s.length := by omega
  rw [he, drop_length]
  simp only [dge, false_eq_true, if_false, Option.bind_some, decide_true, if_true]
  exact ⟨_, rfl, rfl, fun e => by simp [cy7, bad] at e⟩
theorem cD9 {s : Str} {at_ : Nat} (hs : s.length ≤ 1000000) (ha : at_ ≤ s.length) : ∃ x, a67 s (at_ : Int) = some x ∧ agree x at_ (bq1 (s.drop at_)) := by
 unfold bq1
 have hn := aP7 aJ0 (s.drop at_)
 rw [length_drop] at hn
 obtain ⟨x, hx, hagree⟩ := ch5 hs ha hn
 refine ⟨x, ?_, hagree⟩
 unfold a67
 refine aq3 (σ := Nat) (fun t => au6 s (at_ : Int) t) (fun k => ((at_ + k : Nat) : Int)) (fun _ => x) (fun k => af5 aJ0 (s.drop at_) - k) (fun k => k ≤ af5 aJ0 (s.drop at_)) ?_ (s0 := 0) (zero_le _)
 intro k hk
 have key : ∀ c : UInt8, ((if (!az5 c) then (if (!decide (c = 61)) then (if (!decide (c = 63)) then some (!decide (c = 39)) else some false) else some false) else some false) : Option Bool) = some (!aJ0.contains c) := aS2 (by decide +kernel)
 have hsp : ∀ c : UInt8, aA2 (c.toNat : Int) = some (az5 c) := fun c => rfl
 rcases lt_or_ge k (af5 aJ0 (s.drop at_)) with hk2 | hk2
 ·have hlt : at_ + k < s.length := by omega
  have h1 := bf5 aJ0 (s.drop at_) k (by rw [length_drop]; omega) hk2
  rw [getElem_drop] at h1
  left
  refine ⟨k + 1, ?_, rfl, by omega, by omega⟩
  have hw : wrap .i64 (((at_ + k : Nat) : Int) + 1) = ((at_ + (k + 1) : Nat) : Int) := by rw [ab3 (by omega) (by omega)]; omega
  simp only [au6, dlt hlt, if_true, af7 hlt, Option.bind_some, hsp, is61, is63, b86, key, h1, Bool.not_false, hw]
 ·have hke : k = af5 aJ0 (s.drop at_) := by omega
  right
  rw [← hke] at hx
  rcases lt_or_ge (at_ + k) s.length with hlt | hge
  ·have h1 : aJ0.contains s[at_ + k] = true := by
    rcases ch3 aJ0 (s.drop at_) with h | ⟨c, r, h, hc⟩
    ·rw [← hke, drop_drop, drop_eq_getElem_cons hlt] at h; cases h
    ·rw [← hke, drop_drop, drop_eq_getElem_cons hlt] at h
     rw [(List.cons.inj h).1]; exact hc
   simp only [au6, dlt hlt, if_true, af7 hlt, Option.bind_some, hsp, is61, is63, b86, key, h1, Bool.not_true, false_eq_true, if_false, hx, map_some]
  ·have h3 : ¬ (((at_ + k : Nat) : Int) < (List.length s : Int)) := by omega
   simp only [au6, h3, decide_false, false_eq_true, if_false, Option.bind_some, hx, map_some]
def bf6 (out : List aa1) (o : aa1 × Nat × Int) : Int := if o.2.2 = 0 then chk out o.1 else o.2.2
def ap4 : Nat → List aa1 → Nat → Str → List aa1 × Int × Int
 | 0, out, _, _ => (out, 0, 0)
 | _ + 1, out, _, [] => (out, 0, 0)
 | f + 1, out, i, c :: r => if az5 c then ap4 f out (i + 1) r else if bf6 out (bq1 (c :: r)) = 0 then ap4 f (out ++ [(bq1 (c :: r)).1]) (i + (bq1 (c :: r)).2.1) ((c :: r).drop (bq1 (c :: r)).2.1) else ([], (i : Int), bf6 out (bq1 (c :: r)))
def af0 (s : Str) : List aa1 × Int × Int := ap4 (s.length + 1) [] 0 s
theorem bv5 {s : Str} {a : aa1} {n : Nat} (h : (fin s a n).2.2 = 0) : fin s a n = (a, n, 0) := by
 unfold fin at h ⊢
 split
 ·rfl
 ·rename_i hc; rw [if_neg hc] at h; simp [bad] at h
theorem bv6 {s : Str} (h : (bq1 s).2.2 = 0) : 1 ≤ (bq1 s).2.1 ∧ (bq1 s).2.1 ≤ s.length ∧ (bq1 s).1.Mz.length ≤ s.length ∧ (bq1 s).1.Value.length ≤ s.length := by
 unfold bq1 at h ⊢
 have hn := aP7 aJ0 s
 generalize af5 aJ0 s = n at hn h ⊢
 generalize hr : s.drop n = rest at h ⊢
 have hlen : rest.length = s.length - n := by rw [← hr, length_drop]
 cases rest with
 | nil => simp [cy7, bad] at h
 | cons c r =>
  simp only [length_cons] at hlen
  simp only [cy7] at h ⊢
  split at h
  ·rename_i hc
   rw [if_pos hc, bv5 h]; simp; omega
  ·rename_i hc
   rw [if_neg hc]
   split at h
   ·rename_i h61
    rw [if_pos h61]
    split at h
    ·rename_i hp
     rw [if_pos hp]
     cases hq : ah0 (r.drop 1) with
     | none => rw [hq] at h; simp [bad] at h
     | some x =>
      rw [hq] at h
      simp only at h ⊢
      have hx := aP9 _ x hq
      rw [length_drop] at hx
      rw [bv5 h]; simp; omega
    ·rename_i hp
     rw [if_neg hp]
     unfold cM2 at h ⊢
     have hu := aP7 [32, 9] r
     split at h
     ·simp [bad] at h
     ·rename_i hq
      rw [if_neg hq, bv5 h]; simp; omega
   ·simp [bad] at h
theorem bC7 {f i : Nat} {out : List aa1} {s : Str} (h : i < s.length) : ap4 (f + 1) out i (s.drop i) = if az5 s[i] then ap4 f out (i + 1) (s.drop (i + 1)) else
  if bf6 out (bq1 (s.drop i)) = 0 then ap4 f (out ++ [(bq1 (s.drop i)).1]) (i + (bq1 (s.drop i)).2.1) (s.drop (i + (bq1 (s.drop i)).2.1)) else ([], (i : Int), bf6 out (bq1 (s.drop i))) := by
 conv => lhs; rw [drop_eq_getElem_cons h, ap4]
 rw [← drop_eq_getElem_cons h, drop_drop]
theorem b87 {out : List aa1} {o : aa1 × Nat × Int} (h : bf6 out o = 0) : o.2.2 = 0 := by
 unfold bf6 at h
 split at h
 ·rename_i h1; exact h1
 ·rename_i h1; exact absurd h h1
theorem bH8 {s : Str} (hs : s.length ≤ 1000000) : aE8 s = some (af0 s) := by
 unfold aE8
 refine (aq3 (σ := Nat × Nat × List aa1) (fun x => az0 s x.1 x.2) (fun x => ((x.2.1 : Int), x.2.2)) (fun x => ap4 x.1 x.2.2 x.2.1 (s.drop x.2.1)) (fun x => x.1)
  (fun x => x.2.1 ≤ s.length ∧ s.length - x.2.1 < x.1 ∧ x.2.2.length ≤ x.2.1) ?_ (s0 := (s.length + 1, 0, [])) ⟨by simp, by simp, by simp⟩).trans ?_
 ·rintro ⟨f, i, out⟩ ⟨h1, h2, h3⟩
  simp only at h1 h2 h3
  obtain ⟨f, rfl⟩ : ∃ g, f = g + 1 := ⟨f - 1, by omega⟩
  have hb : ∀ c : UInt8, aT6 (c.toNat : Int) = some (az5 c) := fun c => rfl
  rcases lt_or_ge i s.length with h | h
  ·have hw : wrap .i64 ((i : Int) + 1) = ((i + 1 : Nat) : Int) := by rw [ab3 (by omega) (by omega)]; omega
   have hso : (s.drop i).length ≤ 1000000 := by rw [length_drop]; omega
   simp only [az0, dlt h, if_true, af7 h, Option.bind_some, hb, ax6 h1, cM3 hso, bC7 h]
   cases hbl : az5 s[i] with
   | true =>
    left
    refine ⟨(f, i + 1, out), ?_, rfl, ⟨by simp only; omega, by simp only; omega, by simp only; omega⟩, by simp⟩
    simp only [if_true, hw]
   | false =>
    simp only [false_eq_true, if_false]
    generalize ho : bq1 (s.drop i) = o
    have hof : o.2.2 = 0 → 1 ≤ o.2.1 ∧ o.2.1 ≤ (s.drop i).length ∧ o.1.Mz.length ≤ (s.drop i).length ∧ o.1.Value.length ≤ (s.drop i).length := by
     intro hz; rw [← ho] at hz ⊢; exact bv6 hz
    rw [length_drop] at hof
    by_cases hz : o.2.2 = 0
    ·obtain ⟨g1, g2, g3, g4⟩ := hof hz
     have hck : aL9 out o.1 = some (chk out o.1) := b21 (by omega) (by omega) (by omega)
     have hst : bf6 out o = chk out o.1 := by unfold bf6; rw [if_pos hz]
     have hw2 : wrap .i64 ((i : Int) + (o.2.1 : Int)) = ((i + o.2.1 : Nat) : Int) := by rw [ab3 (by omega) (by omega)]; omega
     have hap : aD8 40 out [o.1] = some (out ++ [o.1]) := af3 (by simp; omega) (by simp; omega)
     simp only [hz, decide_true, if_true, hck, Option.bind_some, ay9, hst, hap, hw2]
     by_cases hc : chk out o.1 = 0
     ·left
      refine ⟨(f, i + o.2.1, out ++ [o.1]), ?_, ?_, ⟨by simp only; omega, by simp only; omega, by simp; omega⟩, by simp⟩
      ·simp only [hc, decide_true, Bool.not_true, false_eq_true, if_false]
      ·simp only [hc, if_true]
     ·right
      simp only [hc, decide_false, Bool.not_false, if_true, if_false]
    ·right
     have hst : bf6 out o = o.2.2 := by unfold bf6; rw [if_neg hz]
     simp only [hz, decide_false, false_eq_true, if_false, ay9, Bool.not_false, if_true, hst]
  ·right
   have : i = s.length := by omega
   subst this
   simp only [az0, dge, false_eq_true, if_false, drop_length, ap4]
 ·rfl
def aL2 : Str → Nat
 | [] => 0
 | c :: r => if az5 c then aL2 r + 1 else 0
theorem ct4 (s : Str) : aL2 s ≤ s.length := by
 induction s with
 | nil => exact le_refl _
 | cons c r ih => unfold aL2; split <;> simp; omega
theorem bn0 : ∀ (s : Str) (i : Nat) (h : i < s.length), i < aL2 s → az5 s[i] = true
 | [], i, h, _ => by simp at h
 | c :: r, i, h, hi => by
  unfold aL2 at hi
  by_cases hc : az5 c = true
  ·rw [if_pos hc] at hi
   cases i with
   | zero => exact hc
   | succ i => exact bn0 r i (by simpa using h) (by omega)
  ·rw [if_neg hc] at hi; omega
theorem bH9 : ∀ (s : Str) (h : aL2 s < s.length), az5 s[aL2 s] = false
 | [], h => by simp at h
 | c :: r, h => by
  by_cases hc : az5 c = true
  ·have e : aL2 (c :: r) = aL2 r + 1 := by simp [aL2, hc]
   have h' : aL2 r < r.length := by rw [e] at h; simpa using h
   have := bH9 r h'
   simp only [e, List.getElem_cons_succ]; exact this
  ·have e : aL2 (c :: r) = 0 := by simp [aL2, hc]
   simp only [e, List.getElem_cons_zero]; simpa using hc
theorem bC8 : ∀ (s : Str) (f : Nat) (out : List aa1) (i : Nat), aL2 s < f → ap4 f out i s = ap4 (f - aL2 s) out (i + aL2 s) (s.drop (aL2 s))
 | [], f, out, i, h => by simp [aL2]
 | c :: r, f, out, i, h => by
  by_cases hc : az5 c = true
  ·have e : aL2 (c :: r) = aL2 r + 1 := by simp [aL2, hc]
   rw [e] at h ⊢
   obtain ⟨f, rfl⟩ : ∃ g, f = g + 1 := ⟨f - 1, by omega⟩
   rw [ap4, if_pos hc, bC8 r f out (i + 1) (by omega), drop_succ_cons, Nat.add_sub_add_right, add_assoc, Nat.add_comm 1]
  ·have e : aL2 (c :: r) = 0 := by simp [aL2, hc]
   rw [e]; rfl
theorem bb7 {s : Str} (hs : s.length ≤ 1000000) : aA3 s = some (af0 s) := by
 unfold aA3
 refine (aq3 (σ := Nat × Nat × List aa1) (fun x => aw5 s x.1 x.2) (fun x => ((x.2.1 : Int), x.2.2)) (fun x => ap4 x.1 x.2.2 x.2.1 (s.drop x.2.1)) (fun x => x.1)
  (fun x => x.2.1 ≤ s.length ∧ s.length - x.2.1 < x.1 ∧ x.2.2.length ≤ x.2.1) ?_ (s0 := (s.length + 1, 0, [])) ⟨by simp, by simp, by simp⟩).trans ?_
 ·rintro ⟨f, i, out⟩ ⟨h1, h2, h3⟩
  simp only at h1 h2 h3
  have hsp : ∀ c : UInt8, aA2 (c.toNat : Int) = some (az5 c) := fun c => rfl
  have hk := ct4 (s.drop i)
  rw [length_drop] at hk
  simp only
  rw [bC8 (s.drop i) f out i (by omega), drop_drop]
  generalize hkk : aL2 (s.drop i) = k at hk ⊢
  have hskip : ∀ X, am6 s out ((i + k : Nat) : Int) = some X → aw5 s (i : Int) out = some X := by
   intro X hX
   unfold aw5
   refine aq3 (σ := Nat) (fun t => aq9 s out t) (fun j => ((i + j : Nat) : Int)) (fun _ => X) (fun j => k - j) (fun j => j ≤ k) ?_ (s0 := 0) (zero_le _)
   intro j hj
   rcases lt_or_ge j k with hj2 | hj2
   ·have hlt : i + j < s.length := by omega
    have hb := bn0 (s.drop i) j (by rw [length_drop]; omega) (by omega)
    rw [getElem_drop] at hb
    have hw : wrap .i64 (((i + j : Nat) : Int) + 1) = ((i + (j + 1) : Nat) : Int) := by rw [ab3 (by omega) (by omega)]; omega
    left
    refine ⟨j + 1, ?_, rfl, by omega, by omega⟩
    simp only [aq9, dlt hlt, if_true, af7 hlt, Option.bind_some, hsp, hb, hw]
   ·have : j = k := by omega
    subst this
    right
    rcases lt_or_ge (i + j) s.length with hlt | hge
    ·have hb := bH9 (s.drop i) (by rw [length_drop, hkk]; omega)
     rw [getElem_drop] at hb
     simp only [hkk] at hb
     simp only [aq9, dlt hlt, if_true, af7 hlt, Option.bind_some, hsp, hb, false_eq_true, if_false, hX, map_some]
    ·have h4 : ¬ (((i + j : Nat) : Int) < (List.length s : Int)) := by omega
     simp only [aq9, h4, decide_false, false_eq_true, if_false, Option.bind_some, hX, map_some]
  obtain ⟨g, hg⟩ : ∃ g, f - k = g + 1 := ⟨f - k - 1, by omega⟩
  rw [hg]
  rcases lt_or_ge (i + k) s.length with h | h
  ·have hb := bH9 (s.drop i) (by rw [length_drop, hkk]; omega)
   rw [getElem_drop] at hb
   simp only [hkk] at hb
   rw [bC7 h, hb, if_neg (by simp)]
   obtain ⟨x, hx, hx1, hx2⟩ := cD9 hs (show i + k ≤ s.length by omega)
   have hne : ¬ (((i + k : Nat) : Int) = (List.length s : Int)) := by omega
   generalize ho : bq1 (s.drop (i + k)) = o at hx1 hx2 ⊢
   have hof : o.2.2 = 0 → 1 ≤ o.2.1 ∧ o.2.1 ≤ (s.drop (i + k)).length ∧ o.1.Mz.length ≤ (s.drop (i + k)).length ∧ o.1.Value.length ≤ (s.drop (i + k)).length := by
    intro hz; rw [← ho] at hz ⊢; exact bv6 hz
   rw [length_drop] at hof
   by_cases hz : o.2.2 = 0
   ·obtain ⟨g1, g2, g3, g4⟩ := hof hz
    obtain ⟨y1, y2⟩ := hx2 hz
    have hck : aT5 out o.1 = some (chk out o.1) := bN5 (by omega) (by omega) (by omega)
    have hst : bf6 out o = chk out o.1 := by unfold bf6; rw [if_pos hz]
    have hap : aD8 40 out [o.1] = some (out ++ [o.1]) := af3 (by simp; omega) (by simp; omega)
    rw [hst]
    by_cases hc : chk out o.1 = 0
    ·left
     refine ⟨(g, i + k + o.2.1, out ++ [o.1]), ?_, ?_, ⟨by simp only; omega, by simp only; omega, by simp; omega⟩, by simp only; omega⟩
     ·apply hskip
      simp only [am6, hne, decide_false, false_eq_true, if_false, hx, Option.bind_some, hx1, hz, decide_true, if_true, y1, hck, aq8, hc, Bool.not_true, hap, y2]
     ·simp only [hc, if_true]
    ·right
     rw [if_neg hc]
     apply hskip
     simp only [am6, hne, decide_false, false_eq_true, if_false, hx, Option.bind_some, hx1, hz, decide_true, if_true, y1, hck, aq8, hc, Bool.not_false]
   ·right
    have hst : bf6 out o = o.2.2 := by unfold bf6; rw [if_neg hz]
    rw [hst, if_neg hz]
    apply hskip
    simp only [am6, hne, decide_false, false_eq_true, if_false, hx, Option.bind_some, hx1, hz, aq8, Bool.not_false, if_true]
  ·right
   have he : i + k = s.length := by omega
   rw [he, drop_length, ap4]
   apply hskip
   rw [he]
   simp only [am6, decide_true, if_true]
 ·rfl
def bo0 (name : Str) (a : aa1) : Bool := !a.Qz && decide (a.Mz = name)
def aj3 (name : Str) : List aa1 → Str × Bool
 | [] => ([], false)
 | a :: r => if bo0 name a then (a.Value, true) else aj3 name r
theorem bf7 {α : Type} (p : α → Bool) (l : List α) : (bh6 p l = -1 ∧ ∀ a ∈ l, p a = false) ∨ ∃ i, ∃ h : i < l.length, bh6 p l = (i : Int) ∧ p l[i] = true ∧ ∀ a ∈ l.take i, p a = false := by
 induction l with
 | nil => left; exact ⟨rfl, by simp⟩
 | cons a r ih =>
  by_cases hp : p a = true
  ·right; exact ⟨0, by simp, b20 hp, hp, by simp⟩
  ·have hp' := eq_false_iff.2 hp
   rcases ih with ⟨h1, h2⟩ | ⟨i, h, h1, h2, h3⟩
   ·left
    refine ⟨by rw [bv3 hp, if_pos h1], ?_⟩
    intro x hx
    rcases mem_cons.1 hx with rfl | hx
    ·exact hp'
    ·exact h2 x hx
   ·right
    refine ⟨i + 1, by simpa using h, ?_, by simpa using h2, ?_⟩
    ·rw [bv3 hp, h1, if_neg (by omega)]; omega
    ·intro x hx
     rw [take_succ_cons] at hx
     rcases mem_cons.1 hx with rfl | hx
     ·exact hp'
     ·exact h3 x hx
theorem bO1 {name : Str} {a : aa1} {r : List aa1} (h : bo0 name a = true) : aj3 name (a :: r) = (a.Value, true) := by simp [aj3, h]
theorem bC9 {name : Str} {a : aa1} {r : List aa1} (h : ¬ bo0 name a = true) : aj3 name (a :: r) = aj3 name r := by simp [aj3, h]
theorem b88 {name : Str} {l : List aa1} (h : ∀ a ∈ l, bo0 name a = false) : aj3 name l = ([], false) := by
 induction l with
 | nil => rfl
 | cons a r ih => rw [aj3, h a (by simp), if_neg (by simp)]; exact ih fun x hx => h x (mem_cons_of_mem _ hx)
theorem b24 {name : Str} : ∀ {l : List aa1} {i : Nat} (h : i < l.length), bo0 name l[i] = true → (∀ a ∈ l.take i, bo0 name a = false) → aj3 name l = (l[i].Value, true)
 | [], _, h, _, _ => by simp at h
 | a :: r, 0, _, h1, _ => by
  simp only [List.getElem_cons_zero] at h1 ⊢
  rw [aj3, if_pos h1]
 | a :: r, i + 1, h, h1, h2 => by
  rw [aj3, h2 a (by simp), if_neg (by simp)]
  exact b24 (i := i) (by simpa using h) (by simpa using h1) fun x hx => h2 x (by rw [take_succ_cons]; exact mem_cons_of_mem _ hx)
theorem ct5 {l : List aa1} {name : Str} (hl : l.length ≤ 1000000) : a58 l name = some (bh6 (bo0 name) l) := by
 unfold a58
 rw [bT9]
 unfold ag8
 refine aY5 hl ?_ ?_
 ·intro i hi
  simp only [ac5, dlt hi, if_true, aa8 hi, Option.bind_some, a23]
  rfl
 ·simp [ac5]
theorem bk2 {l : List aa1} {name : Str} (hl : l.length ≤ 1000000) : aw0 l name = some (aj3 name l) := by
 unfold aw0
 rw [ct5 hl, Option.bind_some]
 rcases bf7 (bo0 name) l with ⟨h1, h2⟩ | ⟨i, h, h1, h2, h3⟩
 ·rw [h1, b88 h2]; rfl
 ·have : ¬ ((i : Int) < 0) := by omega
  rw [h1, b24 h h2 h3]
  simp only [this, decide_false, false_eq_true, if_false, aa8 h, Option.bind_some]
theorem aM5 {l : List aa1} {name : Str} (hl : l.length ≤ 1000000) : aA6 l name = some (aj3 name l) := by
 unfold aA6
 refine (ad1 l.length (fun (_ : Unit) i => i) (fun s => ax9 l name s) (fun i _ => aj3 name (l.drop i)) (fun _ _ => True) (s0 := ()) trivial ?_ ?_).trans rfl
 ·intro _ i hi _
  have hbody : ax9 l name (i : Int) = if bo0 name l[i] then some (.done (l[i].Value, true)) else some (.cont ((i : Int) + 1)) := by
   simp only [ax9, dlt hi, if_true, aa8 hi, Option.bind_some]
   rw [ab0 (by omega), show bo0 name l[i] = (!l[i].Qz && decide (l[i].Mz = name)) from rfl]
   by_cases h : l[i].Mz = name <;> cases hq : l[i].Qz <;> simp [h]
  rw [hbody, drop_eq_getElem_cons hi]
  by_cases hf : bo0 name l[i] = true
  ·right; rw [if_pos hf, bO1 hf]
  ·left; rw [if_neg hf, bC9 hf]; exact ⟨(), rfl, rfl, trivial⟩
 ·intro _ _
  simp [ax9, aj3]
def aK4 (l : List aa1) (a : aa1) : Bool := (aj3 a.Mz l).2 && (a.Qz || decide ((aj3 a.Mz l).1 = a.Value))
theorem bk3 {l pattern : List aa1} (hl : l.length ≤ 1000000) (hp : pattern.length ≤ 1000000) : aA7 l pattern = some (pattern.all (aK4 l)) := by
 unfold aA7
 refine (ad1 pattern.length (fun (_ : Unit) i => i) (fun s => aw1 l pattern s) (fun i _ => (pattern.drop i).all (aK4 l)) (fun _ _ => True) (s0 := ()) trivial ?_ ?_).trans rfl
 ·intro _ i hi _
  simp only [aw1, dlt hi, if_true, aa8 hi, Option.bind_some, bk2 hl, drop_eq_getElem_cons hi, all_cons, aK4]
  generalize aj3 pattern[i].Mz l = x
  cases x.2 <;> cases pattern[i].Qz <;> cases decide (x.1 = pattern[i].Value) <;> simp <;> (try rw [ab0 (by omega)])
 ·intro _ _
  simp [aw1]
theorem bf8 {l pattern : List aa1} (hl : l.length ≤ 1000000) (hp : pattern.length ≤ 1000000) : aD1 l pattern = some (pattern.all (aK4 l)) := by
 unfold aD1
 refine (ad1 pattern.length (fun (_ : Unit) i => i) (fun s => ar0 l pattern s) (fun i _ => (pattern.drop i).all (aK4 l)) (fun _ _ => True) (s0 := ()) trivial ?_ ?_).trans rfl
 ·intro _ i hi _
  simp only [ar0, dlt hi, if_true, aa8 hi, Option.bind_some, aM5 hl, drop_eq_getElem_cons hi, all_cons, aK4]
  generalize aj3 pattern[i].Mz l = x
  cases x.2 <;> cases pattern[i].Qz <;> cases decide (x.1 = pattern[i].Value) <;> simp <;> (try rw [ab0 (by omega)])
 ·intro _ _
  simp [ar0]
theorem aL3 {l : List aa1} (hl : l.length ≤ 1000000) : aa5 l = some l := by
 unfold aa5
 rw [af3 (by simp; omega) (by simp; omega)]; rfl
theorem b25 {α : Type} {p : α → Bool} {l : List α} {body : Int × Int × List α → Option (Step (Int × Int × List α) (List α))} (hl : l.length ≤ 1000000)
  (hb : ∀ (i j : Nat) (s : List α) (hi : i < s.length) (hj : j < s.length), body ((i : Int), (j : Int), s) = if !p s[j] then some (.cont (wrap .i64 ((i : Int) + 1), wrap .i64 ((j : Int) + 1), s.set i s[j])) else some (.cont ((i : Int), wrap .i64 ((j : Int) + 1), s)))
  (he : ∀ (i : Nat) (s : List α), i ≤ s.length → body ((i : Int), (s.length : Int), s) = some (.done (s.take i))) {i0 : Nat} (h0 : i0 < l.length) (hp0 : p l[i0] = true) (hbef : ∀ a ∈ l.take i0, p a = false) :
  ab1 body ((i0 : Int), wrap .i64 ((i0 : Int) + 1), l) = some (l.filter fun a => !p a) := by
 have hw0 : wrap .i64 ((i0 : Int) + 1) = ((i0 + 1 : Nat) : Int) := by rw [ab3 (by omega) (by omega)]; omega
 rw [hw0]
 have hf0 : (l.take (i0 + 1)).filter (fun a => !p a) = l.take i0 := by
  rw [take_succ_eq_append_getElem h0, filter_append, List.filter_eq_self.2 (fun a ha => by simp [hbef a ha])]
  simp [hp0]
 refine (aq3 (σ := Nat × Nat × List α) body (fun x => ((x.1 : Int), (x.2.1 : Int), x.2.2)) (fun _ => l.filter fun a => !p a) (fun x => l.length - x.2.1)
  (fun x => x.1 < x.2.1 ∧ x.2.1 ≤ l.length ∧ x.2.2.length = l.length ∧ x.2.2.take x.1 = (l.take x.2.1).filter (fun a => !p a) ∧ x.2.2.drop x.2.1 = l.drop x.2.1) ?_ (s0 := (i0, i0 + 1, l)) ⟨by simp, by simp only; omega, rfl, by simp only; exact hf0.symm, rfl⟩).trans rfl
 rintro ⟨i, j, s⟩ ⟨h1, h2, h3, h4, h5⟩
 simp only at h1 h2 h3 h4 h5
 rcases lt_or_ge j l.length with hj | hj
 ·left
  have hjs : j < s.length := by omega
  have hwi : wrap .i64 ((i : Int) + 1) = ((i + 1 : Nat) : Int) := by rw [ab3 (by omega) (by omega)]; omega
  have hwj : wrap .i64 ((j : Int) + 1) = ((j + 1 : Nat) : Int) := by rw [ab3 (by omega) (by omega)]; omega
  have hsj : s[j] = l[j] := by
   rw [drop_eq_getElem_cons hjs, drop_eq_getElem_cons hj] at h5
   exact (List.cons.inj h5).1
  have h5' : s.drop (j + 1) = l.drop (j + 1) := by
   rw [drop_eq_getElem_cons hjs, drop_eq_getElem_cons hj] at h5
   exact (List.cons.inj h5).2
  simp only
  rw [hb i j s (by omega) hjs]
  cases hp : p s[j] with
  | true =>
   refine ⟨(i, j + 1, s), ?_, by trivial, ⟨by simp only; omega, by simp only; omega, h3, ?_, h5'⟩, by simp only; omega⟩
   ·simp only [Bool.not_true, false_eq_true, if_false, hwj]
   ·simp only
    rw [h4, take_succ_eq_append_getElem hj, filter_append]
    simp [← hsj, hp]
  | false =>
   refine ⟨(i + 1, j + 1, s.set i s[j]), ?_, by trivial, ⟨by simp only; omega, by simp only; omega, by simp [h3], ?_, ?_⟩, by simp only; omega⟩
   ·simp only [Bool.not_false, if_true, hwi, hwj]
   ·simp only
    rw [take_succ_eq_append_getElem (by simp; omega), List.getElem_set_self, List.take_set_of_le (le_refl _), h4, take_succ_eq_append_getElem hj, filter_append]
    simp [← hsj, hp]
   ·simp only
    rw [List.drop_set_of_lt (by omega)]; exact h5'
 ·right
  have : j = s.length := by omega
  subst this
  simp only
  rw [he i s (by omega), h4, List.take_of_length_le hj]
theorem bv7 {l : List aa1} (hl : l.length ≤ 1000000) : aF0 l = some (l.filter fun a => !an3 a.Mz) := by
 unfold aF0
 rw [aL3 hl, Option.bind_some, bT9]
 unfold ag0
 have hp1 : ∀ a, aC7 a = some (an3 a.Mz) := by
  intro a; unfold aC7; rw [bf3]; rfl
 have hix : ae0 l = some (bh6 (fun a => an3 a.Mz) l) := by
  unfold ae0
  refine aY5 hl ?_ ?_
  ·intro i hi
   simp only [ac6, dlt hi, if_true, aa8 hi, Option.bind_some, hp1]
  ·simp [ac6]
 rw [hix, Option.bind_some]
 rcases bf7 (fun a => an3 a.Mz) l with ⟨h1, h2⟩ | ⟨i, h, h1, h2, h3⟩
 ·rw [h1, List.filter_eq_self.2 (fun a ha => by simp [h2 a ha])]; rfl
 ·have : ¬ ((i : Int) = -1) := by omega
  rw [h1]
  simp only [this, decide_false, false_eq_true, if_false]
  refine b25 (p := fun a => an3 a.Mz) hl ?_ ?_ h h2 h3
  ·intro i j s hi hj
   simp only [ab7, dlt hj, if_true, aa8 hj, aa8 hi, Option.bind_some, hp1, Int.toNat_natCast]
  ·intro i s hi
   simp only [ab7, dge, false_eq_true, if_false, ae4, aN5 hi, Option.bind_some, map_some]
theorem bD0 {l : List aa1} {name : Str} (hl : l.length ≤ 1000000) : aI1 l name = some (l.filter fun a => !decide (a.Mz = name)) := by
 unfold aI1
 rw [aL3 hl, Option.bind_some, bT9]
 unfold ag1
 have hp1 : ∀ a, aG6 a name = some (decide (a.Mz = name)) := fun a => rfl
 have hix : ae1 l name = some (bh6 (fun a => decide (a.Mz = name)) l) := by
  unfold ae1
  refine aY5 hl ?_ ?_
  ·intro i hi
   simp only [ac7, dlt hi, if_true, aa8 hi, Option.bind_some, hp1]
  ·simp [ac7]
 rw [hix, Option.bind_some]
 rcases bf7 (fun (a : aa1) => decide (a.Mz = name)) l with ⟨h1, h2⟩ | ⟨i, h, h1, h2, h3⟩
 ·rw [h1, List.filter_eq_self.2 (fun a ha => by simp only [h2 a ha, Bool.not_false])]; rfl
 ·have : ¬ ((i : Int) = -1) := by omega
  rw [h1]
  simp only [this, decide_false, false_eq_true, if_false]
  refine b25 (p := fun a => decide (a.Mz = name)) hl ?_ ?_ h h2 h3
  ·intro i j s hi hj
   simp only [ab8, dlt hj, if_true, aa8 hj, aa8 hi, Option.bind_some, hp1, Int.toNat_natCast]
  ·intro i s hi
   simp only [ab8, dge, false_eq_true, if_false, ae8, aN5 hi, Option.bind_some, map_some]
theorem a39 {l : List aa1} (hl : l.length ≤ 1000000) : ar5 l = some (l.filter fun a => !an3 a.Mz) := by
 unfold ar5
 refine (ad1 (τ := Int × List aa1) l.length (fun (x : List aa1) i => (i, x)) (fun s => av8 l s.1 s.2) (fun i x => x ++ (l.drop i).filter fun a => !an3 a.Mz) (fun i x => x.length ≤ i) (s0 := []) (by simp) ?_ ?_).trans (by simp)
 ·intro x i hi hx
  left
  have hap : aD8 40 x [l[i]] = some (x ++ [l[i]]) := af3 (by simp; omega) (by simp; omega)
  refine ⟨if an3 l[i].Mz then x else x ++ [l[i]], ?_, ?_, ?_⟩
  ·simp only [av8, dlt hi, if_true, aa8 hi, Option.bind_some, bN3, hap]
   rw [ab0 (by omega)]
   cases an3 l[i].Mz <;> rfl
  ·simp only [drop_eq_getElem_cons hi, List.filter_cons]
   cases an3 l[i].Mz <;> simp
  ·split <;> (try simp) <;> omega
 ·intro x hx
  simp [av8]
theorem bf9 {l : List aa1} {name : Str} (hl : l.length ≤ 1000000) : aD3 l name = some (l.filter fun a => !decide (a.Mz = name)) := by
 unfold aD3
 refine (ad1 (τ := Int × List aa1) l.length (fun (x : List aa1) i => (i, x)) (fun s => at5 l name s.1 s.2) (fun i x => x ++ (l.drop i).filter fun a => !decide (a.Mz = name)) (fun i x => x.length ≤ i) (s0 := []) (by simp) ?_ ?_).trans (by simp)
 ·intro x i hi hx
  left
  have hap : aD8 40 x [l[i]] = some (x ++ [l[i]]) := af3 (by simp; omega) (by simp; omega)
  refine ⟨if decide (l[i].Mz = name) then x else x ++ [l[i]], ?_, ?_, ?_⟩
  ·simp only [at5, dlt hi, if_true, aa8 hi, Option.bind_some, hap]
   rw [ab0 (by omega)]
   cases decide (l[i].Mz = name) <;> rfl
  ·simp only [drop_eq_getElem_cons hi, List.filter_cons]
   cases decide (l[i].Mz = name) <;> simp
  ·split <;> (try simp) <;> omega
 ·intro x hx
  simp [at5]
theorem ch6 {d : Nat} (h : d < 10) : cut ([48, 49, 50, 51, 52, 53, 54, 55, 56, 57, 97, 98, 99, 100, 101, 102] : Str) (d : Int) ((d : Int) + 1) = some [UInt8.ofNat (48 + d)] := by
 rcases (by omega : d = 0 ∨ d = 1 ∨ d = 2 ∨ d = 3 ∨ d = 4 ∨ d = 5 ∨ d = 6 ∨ d = 7 ∨ d = 8 ∨ d = 9) with rfl | rfl | rfl | rfl | rfl | rfl | rfl | rfl | rfl | rfl <;> rfl
theorem ct6 (u : Nat) (h : ¬ u < 10) : Go.Lib.decDigits u = Go.Lib.decDigits (u / 10) ++ [UInt8.ofNat (48 + u % 10)] := by
 rw [Go.Lib.decDigits, dif_neg h]
def cK7 (u : Nat) (s : Str) : Str := if u = 0 ∧ s ≠ [] then s else Go.Lib.decDigits u ++ s
theorem ch7 (u : Nat) (s : Str) (h : ¬ (u = 0 ∧ s ≠ [])) : cK7 u s = cK7 (u / 10) (UInt8.ofNat (48 + u % 10) :: s) := by
 unfold cK7
 rw [if_neg h]
 by_cases h10 : u < 10
 ·have : u / 10 = 0 := by omega
  rw [this, if_pos ⟨rfl, by simp⟩, Go.Lib.decDigits_one h10, Nat.mod_eq_of_lt h10]; rfl
 ·rw [if_neg (by omega), ct6 u h10, List.append_assoc]; rfl
theorem bk4 {u : Nat} {s : Str} (h : ¬ (u = 0 ∧ s ≠ [])) (hu : u ≤ 9223372036854775808) (hs : s.length ≤ 100) : ar1 10 (-(u : Int)) s = some (.cont (-((u / 10 : Nat) : Int), UInt8.ofNat (48 + u % 10) :: s)) := by
 unfold ar1
 have hc : (decide (-(u : Int) < 0) || decide (s = [])) = true := by
  rcases Nat.eq_zero_or_pos u with h0 | h0
  ·have : s = [] := Classical.byContradiction fun e => h ⟨h0, e⟩
   simp [this]
  ·have hn : -(u : Int) < 0 := by omega
   rw [decide_eq_true hn]; rfl
 have e1 : Int.tmod (-(u : Int)) 10 = -((u % 10 : Nat) : Int) := by rw [Int.neg_tmod]; rfl
 have e2 : Int.tdiv (-(u : Int)) 10 = -((u / 10 : Nat) : Int) := by rw [Int.neg_tdiv]; rfl
 have e3 : wrap .i64 (0 - -((u % 10 : Nat) : Int)) = ((u % 10 : Nat) : Int) := by rw [ab3 (by omega) (by omega)]; omega
 have e4 : wrap .i64 (((u % 10 : Nat) : Int) + 1) = ((u % 10 : Nat) : Int) + 1 := ab3 (by omega) (by omega)
 have e5 : wrap .i64 (-((u / 10 : Nat) : Int)) = -((u / 10 : Nat) : Int) := ab3 (by omega) (by omega)
 rw [if_pos hc]
 unfold remI cC7
 rw [if_neg (by decide), if_neg (by decide), Option.bind_some, e1, e3, e4, ch6 (by omega), Option.bind_some]
 rw [aa6 (by simp; omega), Option.bind_some, Option.bind_some, e2, e5]
 rfl
theorem ch8 {u n : Nat} (h1 : u * 10 ^ n ≤ 9223372036854775808) (h2 : 0 < u) : n ≤ 18 := by
 rcases lt_or_ge 18 n with h | h
 ·have h3 : 10 ^ 19 ≤ 10 ^ n := Nat.pow_le_pow_right (by omega) h
  have h4 : 1 * 10 ^ n ≤ u * 10 ^ n := Nat.mul_le_mul_right _ h2
  omega
 ·exact h
theorem a40 {u : Nat} (hu : u ≤ 9223372036854775808) : aI9 (-(u : Int)) 10 = some (Go.Lib.decDigits u) := by
 unfold aI9
 refine (aq3 (σ := Nat × Str) (fun s => ar1 10 s.1 s.2) (fun s => (-(s.1 : Int), s.2)) (fun s => cK7 s.1 s.2) (fun s => s.1 + (if s.2 = [] then 1 else 0)) (fun s => s.1 * 10 ^ s.2.length ≤ 9223372036854775808 ∧ s.2.length ≤ 20) (fun s hs => ?_) (s0 := (u, [])) ⟨by simpa using hu, by simp⟩).trans ?_
 ·obtain ⟨v, s⟩ := s
  obtain ⟨h1, h2⟩ := hs
  simp only at h1 h2 ⊢
  have hv : v ≤ 9223372036854775808 := by
   have : v * 1 ≤ v * 10 ^ s.length := Nat.mul_le_mul_left _ (Nat.one_le_pow _ _ (by omega))
   omega
  by_cases h : v = 0 ∧ s ≠ []
  ·right
   unfold ar1 cK7
   rw [if_pos h, h.1]
   have hs' : decide (s = []) = false := by simpa using h.2
   simp [hs', h.2]
  ·left
   refine ⟨(v / 10, UInt8.ofNat (48 + v % 10) :: s), bk4 h hv (by omega), ch7 v s h, ⟨?_, ?_⟩, ?_⟩
   ·simp only [length_cons, Nat.pow_succ]
    have e : v / 10 * (10 ^ s.length * 10) = v / 10 * 10 * 10 ^ s.length := by rw [Nat.mul_comm (10 ^ s.length) 10, Nat.mul_assoc]
    rw [e]
    exact Nat.le_trans (Nat.mul_le_mul_right _ (Nat.div_mul_le_self v 10)) h1
   ·simp only [length_cons]
    by_cases hs' : s = []
    ·subst hs'; simp
    ·have : 0 < v := Nat.pos_of_ne_zero fun e => h ⟨e, hs'⟩
     have := ch8 h1 this
     omega
   ·simp only [reduceCtorEq, if_false]
    by_cases hs' : s = []
    ·rw [if_pos hs']; omega
    ·rw [if_neg hs']
     have : 0 < v := Nat.pos_of_ne_zero fun e => h ⟨e, hs'⟩
     omega
 ·unfold cK7; simp
theorem bI0 {n : Int} (h0 : -9223372036854775808 ≤ n) (h1 : n ≤ 9223372036854775807) : aU5 n 10 = some (Go.Lib.itoa n) := by
 unfold aU5 bb5 Go.Lib.itoa
 by_cases hn : n < 0
 ·have e : n = -((n.natAbs : Nat) : Int) := by omega
  have hd := a40 (u := n.natAbs) (by omega)
  rw [← e] at hd
  have hl := Go.Lib.itoa_length_le n h0 h1
  unfold Go.Lib.itoa at hl
  rw [if_pos hn] at hl
  simp only [length_cons] at hl
  simp [hn, hd, aa6 (a := [45]) (b := Go.Lib.decDigits n.natAbs) (by simp; omega)]
 ·have hw : wrap .i64 (0 - n) = -((n.toNat : Nat) : Int) := by rw [ab3 (by omega) (by omega)]; omega
  have hd := a40 (u := n.toNat) (by omega)
  rw [hw, hd]
  simp [hn]
theorem bU7 {n : Int} (h0 : -9223372036854775808 ≤ n) (h1 : n ≤ 9223372036854775807) : be8 n 10 = some (Go.Lib.itoa n) := by
 unfold be8 bv0 aF3 a57
 rw [if_pos ⟨rfl, h0, h1⟩]; rfl
end Go.Proofs.YtiliognepodhnaaGreatDoor
