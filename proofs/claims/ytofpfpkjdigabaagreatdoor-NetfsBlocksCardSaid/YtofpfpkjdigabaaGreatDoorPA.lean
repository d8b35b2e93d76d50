import Derived.Test.YtofpfpkjdigabaaGreatDoorR
import Derived.Test.YtofpfpkjdigabaaGreatDoorVmQ
import Derived.Lib.ReplaceLaws
import Derived.KernelRfl
import Derived.Test.YtofpfpkjdigabaaGreatDoorVmI
import Derived.Lib.ItoaLen
namespace Go.Proofs.YtofpfpkjdigabaaGreatDoor
open Go.Vm
set_option autoImplicit false
set_option linter.unusedVariables false
set_option linter.unusedSimpArgs false
set_option maxRecDepth 100000
theorem bd0 {α : Type} {o : Option α} : (o.bind fun x => some x) = o := by cases o <;> rfl
theorem aa8 {i : Nat} (h : i ≤ 1000000) : IntKind.wrap .i64 ((i : Int) + 1) = (i : Int) + 1 := ag4 (by omega) (by omega)
theorem dlt {i n : Nat} (h : i < n) : decide ((i : Int) < (n : Int)) = true := by simp [h]
theorem dge {n : Nat} : decide ((n : Int) < (n : Int)) = false := by simp
def a41 (stops : Str) : Str → Nat
 | [] => 0
 | c :: r => if stops.contains c then 0 else a41 stops r + 1
theorem b85 (stops s : Str) : a41 stops s ≤ s.length := by
 induction s with
 | nil => exact Nat.le_refl _
 | cons c r ih => unfold a41; split <;> simp <;> omega
theorem bT8 {s stops : Str} (hm : s.length ≤ 1000000) : aP2 s stops = some (a41 stops s : Int) := by
 unfold aP2
 refine (ac5 s.length (fun (_ : Unit) i => i) (fun v => aA7 s stops v) (fun i _ => ((i + a41 stops (s.drop i) : Nat) : Int)) (fun _ _ => True) (s0 := ()) trivial ?_ ?_).trans ?_
 ·intro _ i hi _
  simp only [aA7, dlt hi, if_true, aj3 hi, Option.bind_some, strings_IndexByte, stringslite_IndexByte, aO7, bt5, cn7, List.drop_eq_getElem_cons hi, a41]
  by_cases hc : stops.contains s[i] = true
  ·right; rw [if_pos hc, if_pos hc]; rfl
  ·left
   refine ⟨(), ?_, ?_, trivial⟩
   ·rw [if_neg hc, aa8 (by omega)]
   ·rw [if_neg hc]; omega
 ·intro _ _
  simp [aA7, a41]
 ·simp
theorem bE4 {s p : Str} : stringslite_HasPrefix s p = some (p.isPrefixOf s) := by
 unfold stringslite_HasPrefix
 by_cases h : p.length ≤ s.length
 ·have h1 : ((List.length p : Int) ≤ (List.length s : Int)) := by omega
  simp only [h1, decide_true, if_true, a32 h, Option.bind_some]
  congr 1
  rw [Bool.eq_iff_iff, decide_eq_true_eq, List.isPrefixOf_iff_prefix]
  rw [List.prefix_iff_eq_take]; exact eq_comm
 ·have h1 : ¬ ((List.length p : Int) ≤ (List.length s : Int)) := by omega
  simp only [h1, decide_false, Bool.false_eq_true, if_false, Option.bind_some]
  congr 1
  symm
  rw [Bool.eq_false_iff]
  intro e
  exact h (List.isPrefixOf_iff_prefix.1 e).length_le
def bn3 (c : UInt8) : Bool := (decide (97 ≤ (c.toNat : Int)) && decide ((c.toNat : Int) ≤ 122)) || ((decide (48 ≤ (c.toNat : Int)) && decide ((c.toNat : Int) ≤ 57)) || (decide ((c.toNat : Int) = 45) || decide ((c.toNat : Int) = 95)))
def b21 (c : UInt8) : Bool := decide (97 ≤ (c.toNat : Int)) && decide ((c.toNat : Int) ≤ 122)
def bn4 (s : Str) : Bool := ([33] : Str).isPrefixOf s
def ci3 (s : Str) : Str := if bn4 s then s.drop 1 else s
def bT9 (s : Str) : Bool := match s with
 | [] => false
 | c :: r => b21 c && r.all bn3 && decide (s.length ≤ 32)
def bM4 (s : Str) : Bool := bT9 (ci3 s)
theorem bZ5 (c : UInt8) (h : b21 c = true) : bn3 c = true := by
 unfold b21 at h; unfold bn3; rw [h]; rfl
theorem bZ6 {c : UInt8} {r : Str} : bT9 (c :: r) = (b21 c && (c :: r).all bn3 && decide ((c :: r).length ≤ 32)) := by
 show (b21 c && r.all bn3 && decide _) = _
 cases h : b21 c
 ·rfl
 ·rw [List.all_cons, bZ5 c h]; rfl
theorem bU0 (s : Str) : (ci3 s).length ≤ s.length := by
 unfold ci3; split <;> simp
theorem by8 {s : Str} : strings_TrimPrefix s [33] = some (ci3 s) := by
 unfold strings_TrimPrefix stringslite_TrimPrefix
 rw [bE4 (s := s) (p := [33])]
 unfold ci3 bn4
 cases hp : ([33] : Str).isPrefixOf s with
 | false => simp
 | true =>
  have hl : 1 ≤ s.length := (List.isPrefixOf_iff_prefix.1 hp).length_le
  have := aR9 (l := s) (a := 1) hl
  simp only [Option.bind_some, if_true]
  rw [show (List.length ([33] : Str) : Int) = ((1 : Nat) : Int) from rfl, this]; rfl
theorem bM5 {s : Str} (hs : s.length ≤ 1000000) : aS0 s = some (bM4 s) := by
 unfold aS0 bM4
 rw [by8, Option.bind_some]
 have hl := bU0 s
 generalize ci3 s = x at hl ⊢
 cases x with
 | nil => rfl
 | cons c r =>
  have hat : ai6 (c :: r) 0 = some c := rfl
  simp only [reduceCtorEq, decide_false, Bool.false_eq_true, if_false, hat, Option.bind_some, bZ6]
  by_cases hlen : (32 : Int) < (List.length (c :: r) : Int)
  ·have : ¬ ((c :: r).length ≤ 32) := by omega
   simp only [hlen, decide_true, if_true, Option.bind_some, this, decide_false, Bool.and_false]
  ·have h32 : (c :: r).length ≤ 32 := by omega
   simp only [hlen, decide_false, Bool.false_eq_true, if_false, h32, decide_true, Bool.and_true]
   have hloop : ab0 (fun s => ao6 (c :: r) s) 0 = some ((c :: r).all bn3) := by
    refine (ac5 (c :: r).length (fun (_ : Unit) i => i) (fun v => ao6 (c :: r) v) (fun i _ => ((c :: r).drop i).all bn3) (fun _ _ => True) (s0 := ()) trivial ?_ ?_).trans rfl
    ·intro _ i hi _
     have key : ∀ c : UInt8, (bif (decide ((c.toNat : Int) < 97)) then (bif (decide ((c.toNat : Int) < 48)) then ((!decide ((c.toNat : Int) = 45)) && (!decide ((c.toNat : Int) = 95))) else ((decide (57 < (c.toNat : Int))) && ((!decide ((c.toNat : Int) = 45)) && (!decide ((c.toNat : Int) = 95))))) else ((decide (122 < (c.toNat : Int))) && (bif (decide ((c.toNat : Int) < 48)) then ((!decide ((c.toNat : Int) = 45)) && (!decide ((c.toNat : Int) = 95))) else ((decide (57 < (c.toNat : Int))) && ((!decide ((c.toNat : Int) = 45)) && (!decide ((c.toNat : Int) = 95))))))) = !bn3 c := aR8 (by decide +kernel)
     simp only [ao6, dlt hi, if_true, aj3 hi, Option.bind_some, List.drop_eq_getElem_cons hi, List.all_cons, key]
     cases hn : bn3 (c :: r)[i]
     ·right; simp
     ·left
      refine ⟨(), ?_, by simp, trivial⟩
      simp only [Bool.not_true, Bool.false_eq_true, if_false]
      rw [aa8 (by omega)]
    ·intro _ _
     simp [ao6]
   rw [hloop]
   have k1 : ∀ c : UInt8, b21 c = (!decide ((c.toNat : Int) < 97) && !decide (122 < (c.toNat : Int))) := aR8 (by decide +kernel)
   rw [k1]
   cases decide ((c.toNat : Int) < 97) <;> cases decide (122 < (c.toNat : Int)) <;> simp
theorem b86 {s : Str} : aM3 s = some (bn4 s) := by
 unfold aM3 bn4
 cases s with
 | nil => rfl
 | cons c r =>
  have h1 : (0 : Int) < (List.length (c :: r) : Int) := by simp only [List.length_cons]; omega
  have h2 : ai6 (c :: r) 0 = some c := rfl
  have h3 : decide ((c.toNat : Int) = 33) = decide (c = 33) := isC c 33
  simp only [h1, decide_true, if_true, h2, Option.bind_some, h3, List.isPrefixOf]
  have key : ∀ c : UInt8, decide (c = 33) = ((33 == c) && true) := aR8 (by decide +kernel)
  rw [key]
theorem bZ7 {s : Str} (hs : s.length ≤ 1000000) : aP4 s = some (bM4 s) := by
 have hk : aP4 s = aB3 (ci3 s) := by
  unfold aP4
  rw [b86, Option.bind_some]
  unfold ci3
  cases hp : bn4 s with
  | false => simp
  | true =>
   have hl : 1 ≤ s.length := (List.isPrefixOf_iff_prefix.1 hp).length_le
   have := aR9 (l := s) (a := 1) hl
   simp only [if_true]
   rw [show (1 : Int) = ((1 : Nat) : Int) from rfl, this]; rfl
 rw [hk]
 unfold bM4
 have hl := bU0 s
 generalize ci3 s = x at hl ⊢
 unfold aB3
 let tail (i : Nat) (x : Str) : Bool := match i with
  | 0 => bT9 x
  | _ => (x.drop i).all bn3 && (decide (1 ≤ (List.length x : Int)) && decide ((List.length x : Int) ≤ 32))
 refine (ac5 x.length (fun (_ : Unit) i => i) (fun v => ax9 x v) (fun i _ => tail i x) (fun _ _ => True) (s0 := ()) trivial ?_ ?_).trans rfl
 ·intro _ i hi _
  have key : ∀ c : UInt8, ((if (decide (97 ≤ (c.toNat : Int))) then some (decide ((c.toNat : Int) ≤ 122)) else some false) : Option Bool) = some (b21 c) := by
   intro c; unfold b21; cases decide (97 ≤ (c.toNat : Int)) <;> rfl
  have key2 : ∀ c : UInt8, (if (decide (48 ≤ (c.toNat : Int))) then (if (decide ((c.toNat : Int) ≤ 57)) then some false else (if (decide ((c.toNat : Int) = 45)) then some false else some (!(decide ((c.toNat : Int) = 95))))) else (if (decide ((c.toNat : Int) = 45)) then some false else some (!(decide ((c.toNat : Int) = 95)))) : Option Bool) = some (!(decide (48 ≤ (c.toNat : Int)) && decide ((c.toNat : Int) ≤ 57) || (decide ((c.toNat : Int) = 45) || decide ((c.toNat : Int) = 95)))) := aR8 (by decide +kernel)
  have key3 : ∀ c : UInt8, bn3 c = (b21 c || ((decide (48 ≤ (c.toNat : Int)) && decide ((c.toNat : Int) ≤ 57)) || (decide ((c.toNat : Int) = 45) || decide ((c.toNat : Int) = 95)))) := fun c => rfl
  simp only [ax9, dlt hi, if_true, aj3 hi, Option.bind_some, key]
  have hlen1 : (1 : Int) ≤ (List.length x : Int) := by omega
  cases i with
  | zero =>
   cases x with
   | nil => simp at hi
   | cons c r =>
    simp only [List.getElem_cons_zero, tail, bT9]
    cases hlow : b21 c with
    | false => right; simp
    | true =>
     left
     refine ⟨(), ?_, ?_, trivial⟩
     ·simp only [Bool.not_true, Bool.false_eq_true, if_false, Option.bind_some]
      rw [aa8 (by omega)]
     ·simp only [Bool.true_and, List.drop_succ_cons, List.drop_zero, hlen1, decide_true]
      congr 1
      rw [Bool.eq_iff_iff, decide_eq_true_eq, decide_eq_true_eq]; omega
  | succ i =>
   have h0 : decide (((i + 1 : Nat) : Int) = 0) = false := by simp; omega
   simp only [tail, List.drop_eq_getElem_cons hi, List.all_cons, h0, Bool.false_eq_true, if_false, key2]
   rw [key3]
   cases hlow : b21 x[i + 1] with
   | true =>
    left
    refine ⟨(), ?_, by simp, trivial⟩
    simp only [Bool.not_true, Bool.false_eq_true, if_false, Option.bind_some]
    rw [aa8 (by omega)]
   | false =>
    simp only [Bool.not_false, if_true, Option.bind_some, Bool.false_or]
    generalize (decide (48 ≤ (x[i + 1].toNat : Int)) && decide ((x[i + 1].toNat : Int) ≤ 57) || (decide ((x[i + 1].toNat : Int) = 45) || decide ((x[i + 1].toNat : Int) = 95))) = q
    cases q with
    | false => right; simp
    | true =>
     left
     refine ⟨(), ?_, by simp, trivial⟩
     simp only [Bool.not_true, Bool.false_eq_true, if_false]
     rw [aa8 (by omega)]
 ·intro _ _
  simp only [ax9, dge, Bool.false_eq_true, if_false]
  cases x with
  | nil => rfl
  | cons c r => simp [tail]
def ba0 (v : Str) : Bool := v.all fun c => !([0, 10, 13] : Str).contains c
theorem bE5 (stops s : Str) : decide ((a41 stops s : Int) < (List.length s : Int)) = !(s.all fun c => !stops.contains c) := by
 induction s with
 | nil => rfl
 | cons c r ih =>
  unfold a41
  by_cases hc : stops.contains c = true
  ·rw [if_pos hc]; simp only [List.all_cons, hc]; simp
  ·have hc' : stops.contains c = false := by simpa using hc
   rw [if_neg hc, List.all_cons, hc', Bool.not_false, Bool.true_and, ← ih]
   congr 1
   simp only [List.length_cons, eq_iff_iff]; omega
theorem bM6 {v : Str} (hv : v.length ≤ 1000000) : aK3 v = some (ba0 v) := by
 unfold aK3
 refine (ac5 v.length (fun (_ : Unit) i => i) (fun s => au5 v s) (fun i _ => ba0 (v.drop i)) (fun _ _ => True) (s0 := ()) trivial ?_ ?_).trans rfl
 ·intro _ i hi _
  have key : ∀ c : UInt8, ((if (decide ((c.toNat : Int) = 0)) then some true else (if (decide ((c.toNat : Int) = 10)) then some true else some (decide ((c.toNat : Int) = 13)))) : Option Bool) = some (([0, 10, 13] : Str).contains c) := aR8 (by decide +kernel)
  simp only [au5, dlt hi, if_true, aj3 hi, Option.bind_some, key, ba0, List.drop_eq_getElem_cons hi, List.all_cons]
  cases ([0, 10, 13] : Str).contains v[i] with
  | true => right; simp
  | false =>
   left
   refine ⟨(), ?_, by simp, trivial⟩
   simp only [Bool.false_eq_true, if_false]
   rw [aa8 (by omega)]
 ·intro _ _
  simp [au5, ba0]
def aX7 (l : List aa4) (n : Str) : Bool := l.any fun b => decide (b.Name = n)
def chk (before : List aa4) (a : aa4) : Int :=
 if (32 : Int) ≤ (List.length before : Int) then 22 else if bM4 a.Name = false then 6 else if (a.Query && !decide (a.Value = [])) = true ∨ ba0 a.Value = false then 2 else if (1024 : Int) < (List.length a.Value : Int) then 4 else if aX7 before a.Name = true then 7 else 0
def aV2 {α : Type} (p : α → Bool) : List α → Int
 | [] => -1
 | a :: r => if p a then 0 else if aV2 p r = -1 then -1 else aV2 p r + 1
theorem bM7 {α : Type} (p : α → Bool) (l : List α) : -1 ≤ aV2 p l := by
 induction l with
 | nil => exact Int.le_refl _
 | cons a r ih => simp only [aV2]; split <;> (try split) <;> omega
theorem bU1 {α : Type} (p : α → Bool) (l : List α) : 0 ≤ aV2 p l ↔ l.any p = true := by
 induction l with
 | nil => simp [aV2]
 | cons a r ih =>
  have := bM7 p r
  rw [List.any_cons, Bool.or_eq_true, ← ih]
  simp only [aV2]
  by_cases hp : p a = true
  ·simp [hp]
  ·rw [if_neg hp]
   split
   ·rename_i h; rw [h]; simp [hp]
   ·simp only [hp, false_or]; omega
theorem aT7 {α : Type} (p : α → Bool) (l : List α) : decide (0 ≤ aV2 p l) = l.any p := by
 rw [Bool.eq_iff_iff, decide_eq_true_eq, bU1]
theorem by9 {α : Type} {p : α → Bool} {a : α} {r : List α} (h : p a = true) : aV2 p (a :: r) = 0 := by simp [aV2, h]
theorem ba1 {α : Type} {p : α → Bool} {a : α} {r : List α} (h : ¬ p a = true) : aV2 p (a :: r) = if aV2 p r = -1 then -1 else aV2 p r + 1 := by simp [aV2, h]
theorem aw9 {α : Type} {p : α → Bool} {l : List α} {body : Int → Option (Step Int Int)} (hl : l.length ≤ 1000000)
  (hb : ∀ i (h : i < l.length), body (i : Int) = if p l[i] then some (.done (i : Int)) else some (.cont (IntKind.wrap .i64 ((i : Int) + 1)))) (he : body (l.length : Int) = some (.done (-1))) : ab0 body 0 = some (aV2 p l) := by
 refine (ac5 l.length (fun (_ : Unit) i => i) body (fun i _ => if aV2 p (l.drop i) = -1 then -1 else (i : Int) + aV2 p (l.drop i)) (fun _ _ => True) (s0 := ()) trivial ?_ ?_).trans ?_
 ·intro _ i hi _
  rw [hb i hi, List.drop_eq_getElem_cons hi]
  have := bM7 p (l.drop (i + 1))
  by_cases hp : p l[i] = true
  ·right; rw [if_pos hp, by9 hp]; simp
  ·left
   refine ⟨(), ?_, ?_, trivial⟩
   ·rw [if_neg hp, aa8 (by omega)]
   ·rw [ba1 hp]
    by_cases h : aV2 p (l.drop (i + 1)) = -1
    ·simp [h]
    ·rw [if_neg h, if_neg (by omega), if_neg h]; omega
 ·intro _ _
  rw [he]; simp [aV2]
 ·simp only [List.drop_zero]
  congr 1
  split
  ·rename_i h; exact h.symm
  ·simp
theorem ci4 {before : List aa4} {a : aa4} (hb : before.length ≤ 1000000) (hn : a.Name.length ≤ 1000000) (hv : a.Value.length ≤ 1000000) : a04 before a = some (chk before a) := by
 unfold a04 chk
 have hix : ae1 before a = some (aV2 (fun b => decide (b.Name = a.Name)) before) := by
  unfold ae1
  refine aw9 hb ?_ ?_
  ·intro i hi
   simp only [ad1, dlt hi, if_true, aa6 hi, Option.bind_some, aX2]
  ·simp [ad1]
 have hc : ad2 before a = some (aX7 before a.Name) := by
  unfold ad2 aX7
  rw [hix, Option.bind_some, aT7]
 simp only [bM5 hn, Option.bind_some, bT8 hv, hc, bE5]
 by_cases h1 : (32 : Int) ≤ (List.length before : Int)
 ·simp [h1]
 ·simp only [h1, decide_false, Bool.false_eq_true, if_false]
  cases bM4 a.Name with
  | false => simp
  | true =>
   simp only [Bool.not_true, Bool.false_eq_true, if_false, Bool.true_eq_false]
   cases a.Query && !decide (a.Value = []) with
   | true => simp
   | false =>
    change (if (!ba0 a.Value) = true then _ else _) = _
    cases ba0 a.Value with
    | false => simp
    | true =>
     simp only [Bool.not_true, Bool.false_eq_true, if_false, Bool.true_eq_false, or_self]
     by_cases h4 : (1024 : Int) < (List.length a.Value : Int)
     ·simp [h4]
     ·simp only [h4, decide_false, Bool.false_eq_true, if_false]
      cases aX7 before a.Name <;> simp
theorem b87 {before : List aa4} {a : aa4} (hb : before.length ≤ 1000000) (hn : a.Name.length ≤ 1000000) (hv : a.Value.length ≤ 1000000) : a97 before a = some (chk before a) := by
 unfold a97 chk
 have hloop : ab0 (fun s => aw3 before a s) 0 = some (if aX7 before a.Name = true then (7 : Int) else 0) := by
  refine (ac5 before.length (fun (_ : Unit) i => i) (fun s => aw3 before a s) (fun i _ => if aX7 (before.drop i) a.Name = true then (7 : Int) else 0) (fun _ _ => True) (s0 := ()) trivial ?_ ?_).trans rfl
  ·intro _ i hi _
   simp only [aw3, dlt hi, if_true, aa6 hi, Option.bind_some, aX7, List.drop_eq_getElem_cons hi, List.any_cons]
   by_cases h : before[i].Name = a.Name
   ·right; simp [h]
   ·left
    refine ⟨(), ?_, by simp [h], trivial⟩
    simp only [h, decide_false, Bool.false_eq_true, if_false]
    rw [aa8 (by omega)]
  ·intro _ _
   simp [aw3, aX7]
 simp only [bZ7 hn, Option.bind_some, bM6 hv, hloop]
 by_cases h1 : (32 : Int) ≤ (List.length before : Int)
 ·simp [h1]
 ·simp only [h1, decide_false, Bool.false_eq_true, if_false]
  cases bM4 a.Name with
  | false => simp
  | true =>
   simp only [Bool.not_true, Bool.false_eq_true, if_false, Bool.true_eq_false]
   by_cases h4 : (1024 : Int) < (List.length a.Value : Int)
   ·cases a.Query <;> cases hd : decide (a.Value = []) <;> cases ba0 a.Value <;> simp [h4]
   ·cases a.Query <;> cases hd : decide (a.Value = []) <;> cases ba0 a.Value <;> simp [h4]
def okA (a : aa4) : Prop := a.Name.length ≤ 5000 ∧ a.Value.length ≤ 5000
def okL (l : List aa4) : Prop := l.length ≤ 5000 ∧ ∀ a ∈ l, okA a
def bE6 (before : List aa4) : List aa4 → Int
 | [] => 0
 | a :: r => if chk before a = 0 then bE6 (before ++ [a]) r else chk before a
def bM8 (l : List aa4) : Int := bE6 [] l
theorem okL.get {l : List aa4} (h : okL l) {i : Nat} (hi : i < l.length) : okA l[i] := h.2 _ (List.getElem_mem hi)
theorem ci5 {l : List aa4} (h : okL l) : a05 l = some (bM8 l) := by
 unfold a05
 refine (ac5 l.length (fun (_ : Unit) i => i) (fun s => aA8 l s) (fun i _ => bE6 (l.take i) (l.drop i)) (fun _ _ => True) (s0 := ()) trivial ?_ ?_).trans ?_
 ·intro _ i hi _
  have ha := h.get hi
  have h1 := h.1
  simp only [aA8, dlt hi, if_true, aa6 hi, Option.bind_some, a32 (Nat.le_of_lt hi), ci4 (before := l.take i) (a := l[i]) (by simp; omega) (by have := ha.1; omega) (by have := ha.2; omega), List.drop_eq_getElem_cons hi, bE6]
  by_cases hz : chk (l.take i) l[i] = 0
  ·left
   refine ⟨(), ?_, ?_, trivial⟩
   ·simp only [hz, decide_true, Bool.not_true, Bool.false_eq_true, if_false]
    rw [aa8 (by omega)]
   ·simp only [hz, if_true]
    rw [List.take_succ_eq_append_getElem hi]
  ·right; simp [hz]
 ·intro _ _
  simp [aA8, bE6]
 ·simp [bM8]
theorem bM9 {l : List aa4} (h : okL l) : aS1 l = some (bM8 l) := by
 unfold aS1
 refine (ac5 l.length (fun (_ : Unit) i => i) (fun s => ay0 l s) (fun i _ => bE6 (l.take i) (l.drop i)) (fun _ _ => True) (s0 := ()) trivial ?_ ?_).trans ?_
 ·intro _ i hi _
  have ha := h.get hi
  have h1 := h.1
  simp only [ay0, dlt hi, if_true, aa6 hi, Option.bind_some, a32 (Nat.le_of_lt hi), b87 (before := l.take i) (a := l[i]) (by simp; omega) (by have := ha.1; omega) (by have := ha.2; omega), List.drop_eq_getElem_cons hi, bE6]
  by_cases hz : chk (l.take i) l[i] = 0
  ·left
   refine ⟨(), ?_, ?_, trivial⟩
   ·simp only [hz, decide_true, Bool.not_true, Bool.false_eq_true, if_false]
    rw [aa8 (by omega)]
   ·simp only [hz, if_true]
    rw [List.take_succ_eq_append_getElem hi]
  ·right; simp [hz]
 ·intro _ _
  simp [ay0, bE6]
 ·simp [bM8]
def dbl (s : Str) : Str := s.flatMap fun c => if c = 39 then [39, 39] else [c]
def oddB (s : Str) : Bool := decide (s = []) || s.any fun c => ([32, 9, 39] : Str).contains c
def aX8 (s : Str) : Str := if oddB s then [39] ++ dbl s ++ [39] else s
theorem b88 (s : Str) : (dbl s).length ≤ 2 * s.length := by
 induction s with
 | nil => exact Nat.le_refl _
 | cons c r ih =>
  unfold dbl at ih ⊢
  rw [List.flatMap_cons, List.length_append, List.length_cons]
  split <;> simp only [List.length_cons, List.length_nil] <;> omega
theorem bd1 (s : Str) : (aX8 s).length ≤ 2 * s.length + 2 := by
 have := b88 s
 unfold aX8
 split <;> simp <;> omega
theorem bz0 {c : UInt8} (hc : c ≠ 39) (k : Nat) (s : Str) (hk : k ≤ Go.Lib.count s [39]) : Go.Lib.replaceK [39] [39, 39] k (c :: s) = c :: Go.Lib.replaceK [39] [39, 39] k s := by
 cases k with
 | zero => rfl
 | succ k =>
  obtain ⟨i, hi⟩ := Go.Lib.index_of_count (s := s) (old := [39]) (by omega)
  have hi' : Go.Lib.index (c :: s) [39] = ((i + 1 : Nat) : Int) := by
   have hp : ([39] : Str).isPrefixOf (c :: s) = false := by simp [List.isPrefixOf, Ne.symm hc]
   rw [Go.Lib.index, hp, hi]
   have : ((i : Int) == -1) = false := by rw [beq_eq_false_iff_ne]; omega
   simp [this]
  rw [Go.Lib.replaceK_hit _ _ _ _ _ hi, Go.Lib.replaceK_hit _ _ _ _ _ hi']
  simp [Nat.add_right_comm]
theorem bN0 (s : Str) : Go.Lib.replaceK [39] [39, 39] (Go.Lib.count s [39]) s = dbl s := by
 induction s with
 | nil => rw [Go.Lib.count_one]; rfl
 | cons c r ih =>
  by_cases hc : c = 39
  ·subst hc
   have hi : Go.Lib.index (39 :: r) [39] = ((0 : Nat) : Int) := by rw [Go.Lib.index]; simp [List.isPrefixOf]
   rw [Go.Lib.count_cons_eq, Nat.add_comm 1, Go.Lib.replaceK_hit _ _ _ _ _ hi]
   simp only [List.take_zero, List.nil_append, Nat.zero_add, List.length_cons, List.length_nil, List.drop_succ_cons, List.drop_zero, ih]
   unfold dbl
   rw [List.flatMap_cons, if_pos rfl]
  ·rw [Go.Lib.count_cons_ne _ _ _ hc, bz0 hc _ _ (Nat.le_refl _), ih]
   unfold dbl
   rw [List.flatMap_cons, if_neg hc]; rfl
theorem bz1 {s : Str} (hs : s.length ≤ 1000000) : strings_ReplaceAll s [39] [39, 39] = some (dbl s) := by
 have hc : Go.Lib.count s [39] ≤ s.length := by rw [Go.Lib.count_one]; exact List.count_le_length
 unfold strings_ReplaceAll aR7
 rw [if_pos ⟨by omega, by simp, by simp; omega⟩]
 unfold Go.Lib.replaceAll Go.Lib.replace
 rw [if_neg (by decide)]
 have : Go.Lib.replaceNum s [39] (-1) = Go.Lib.count s [39] := by unfold Go.Lib.replaceNum; rw [if_pos (Or.inl (by omega))]
 rw [this, bN0]
theorem ci6 {s : Str} (hs : s.length ≤ 1000000) : a06 s = some (aX8 s) := by
 unfold a06
 have hd := b88 s
 have c1 : ax3 [39] (dbl s) = some ([39] ++ dbl s) := ac3 (by simp; omega)
 have c2 : ax3 ([39] ++ dbl s) [39] = some ([39] ++ dbl s ++ [39]) := ac3 (by simp; omega)
 have hu := b85 [32, 9, 39] s
 have ha := bE5 [32, 9, 39] s
 have hany : (s.any fun c => ([32, 9, 39] : Str).contains c) = !(s.all fun c => !([32, 9, 39] : Str).contains c) := by
  rw [List.any_eq_not_all_not]
 have hdd : decide ((a41 [32, 9, 39] s : Int) = (List.length s : Int)) = (s.all fun c => !([32, 9, 39] : Str).contains c) := by
  cases h : s.all fun c => !([32, 9, 39] : Str).contains c with
  | true => rw [h] at ha; simp only [Bool.not_true, decide_eq_false_iff_not] at ha; simp; omega
  | false => rw [h] at ha; simp only [Bool.not_false, decide_eq_true_eq] at ha; simp; omega
 simp only [bT8 hs, Option.bind_some, bz1 hs, c1, c2, hdd]
 unfold aX8 oddB
 rw [hany]
 cases h : s.all fun c => !([32, 9, 39] : Str).contains c <;> cases hn : decide (s = []) <;> simp
theorem bN1 {s : Str} (hs : s.length ≤ 1000000) : aS2 s = some (aX8 s) := by
 unfold aS2
 refine (ac5 (τ := Str × Bool × Int) s.length (fun (x : Str × Bool) i => (x.1, x.2, i)) (fun x => au6 s x.1 x.2.1 x.2.2)
  (fun i x => if x.2 || (s.drop i).any (fun c => ([32, 9, 39] : Str).contains c) then [39] ++ (x.1 ++ dbl (s.drop i)) ++ [39] else s) (fun i x => x.1.length ≤ 2 * i) (s0 := ([], decide (s = []))) (by simp) ?_ ?_).trans ?_
 ·rintro ⟨out, odd⟩ i hi hv
  simp only at hv
  left
  have key : ∀ c : UInt8, ((if (decide ((c.toNat : Int) = 32)) then some true else (if (decide ((c.toNat : Int) = 9)) then some true else some (decide (c = 39)))) : Option Bool) = some (([32, 9, 39] : Str).contains c) := aR8 (by decide +kernel)
  have hw : IntKind.wrap .i64 ((i : Int) + 1) = (i : Int) + 1 := aa8 (by omega)
  have c1 : ax3 out [s[i]] = some (out ++ [s[i]]) := ac3 (by simp; omega)
  have c2 : ax3 (out ++ [s[i]]) [39] = some (out ++ [s[i]] ++ [39]) := ac3 (by simp; omega)
  have h39 : decide ((s[i].toNat : Int) = 39) = decide (s[i] = 39) := isC s[i] 39
  have hor : ((if odd = true then some true else some (([32, 9, 39] : Str).contains s[i])) : Option Bool) = some (odd || ([32, 9, 39] : Str).contains s[i]) := by cases odd <;> rfl
  refine ⟨(if s[i] = 39 then out ++ [s[i]] ++ [39] else out ++ [s[i]], odd || ([32, 9, 39] : Str).contains s[i]), ?_, ?_, ?_⟩
  ·simp only [au6, dlt hi, if_true, aj3 hi, Option.bind_some, key, hor, hw, cs7 hi, c1, c2, h39]
   by_cases h : s[i] = 39
   ·simp only [h, decide_true, if_true]
   ·simp only [h, decide_false, Bool.false_eq_true, if_false]
  ·simp only [List.drop_eq_getElem_cons hi, List.any_cons, Bool.or_assoc]
   have : dbl (s[i] :: s.drop (i + 1)) = (if s[i] = 39 then [39, 39] else [s[i]]) ++ dbl (s.drop (i + 1)) := by unfold dbl; rw [List.flatMap_cons]
   rw [this]
   by_cases h : s[i] = 39
   ·simp only [h, if_true]; simp
   ·simp only [h, if_false]; simp
  ·simp only
   split <;> simp <;> omega
 ·rintro ⟨out, odd⟩ hv
  simp only at hv
  have c1 : ax3 [39] out = some ([39] ++ out) := ac3 (by simp; omega)
  have c2 : ax3 ([39] ++ out) [39] = some ([39] ++ out ++ [39]) := ac3 (by simp; omega)
  simp only [au6, dge, Bool.false_eq_true, if_false, aK4, c1, c2, Option.bind_some, List.drop_length]
  cases odd <;> simp [dbl]
 ·simp [aX8, oddB]
def bz2 (a : aa4) : Str := if a.Query then a.Name ++ [63] else a.Name ++ [61] ++ aX8 a.Value
theorem ci7 {a : aa4} (h : okA a) : (bz2 a).length ≤ 15003 := by
 have := bd1 a.Value
 have h1 := h.1
 have h2 := h.2
 unfold bz2
 split <;> simp <;> omega
def aC1 (l : List aa4) : Str := Go.Lib.join (l.map bz2) [32]
theorem b89 (xs : List Str) (x sep : Str) : Go.Lib.join (xs ++ [x]) sep = if xs = [] then x else Go.Lib.join xs sep ++ sep ++ x := by
 cases xs with
 | nil => simp [Go.Lib.join_one]
 | cons y r =>
  rw [List.cons_append, Go.Lib.join_cons, Go.Lib.join_cons, if_neg (by simp)]
  simp [Go.Lib.joinTail]
theorem ci8 {K : Nat} {sep : Str} : ∀ {l : List Str}, (∀ x ∈ l, x.length ≤ K) → (Go.Lib.join l sep).length ≤ l.length * (K + sep.length)
 | [], _ => by simp [Go.Lib.join_nil]
 | x :: r, h => by
  rw [Go.Lib.join_cons, List.length_append]
  have hx := h x (by simp)
  have : ∀ r : List Str, (∀ y ∈ r, y.length ≤ K) → (Go.Lib.joinTail sep r).length ≤ r.length * (K + sep.length) := by
   intro r
   induction r with
   | nil => intro _; simp [Go.Lib.joinTail]
   | cons y r ih =>
    intro h
    have h1 := ih fun z hz => h z (List.mem_cons_of_mem _ hz)
    have h2 := h y (by simp)
    unfold Go.Lib.joinTail at h1 ⊢
    rw [List.map_cons, List.flatten_cons, List.length_append, List.length_append, List.length_cons, Nat.add_mul, Nat.one_mul]
    omega
  have := this r fun z hz => h z (List.mem_cons_of_mem _ hz)
  rw [List.length_cons, Nat.add_mul, Nat.one_mul]
  omega
theorem bn5 {l : List aa4} (h : okL l) (i : Nat) : (Go.Lib.join ((l.take i).map bz2) [32]).length ≤ 75020000 := by
 have h1 := ci8 (K := 15003) (sep := [32]) (l := (l.take i).map bz2) (by
  intro x hx
  obtain ⟨a, ha, rfl⟩ := List.mem_map.1 hx
  exact ci7 (h.2 a (List.mem_of_mem_take ha)))
 have h2 := h.1
 simp only [List.length_map, List.length_take, List.length_cons, List.length_nil] at h1
 have : min i l.length * (15003 + (0 + 1)) ≤ 5000 * 15004 := Nat.mul_le_mul (by omega) (by omega)
 omega
theorem ci9 {l : List aa4} (h : okL l) : a07 l = some (if bM8 l = 0 then (aC1 l, 0) else ([], bM8 l)) := by
 unfold a07
 rw [ci5 h, Option.bind_some]
 by_cases hz : bM8 l = 0
 ·have hl := h.1
  have hmk : mkC 16 ([] : Str) 0 (List.length l : Int) = some [] := by
   unfold mkC
   rw [if_pos ⟨by omega, by omega, by omega, by omega⟩]; rfl
  simp only [hz, decide_true, Bool.not_true, Bool.false_eq_true, if_false, if_true, hmk, Option.bind_some]
  refine (ac5 (τ := Int × List Str) l.length (fun (x : List Str) i => (i, x)) (fun x => ax7 l x.1 x.2) (fun i _ => (aC1 l, 0)) (fun i x => x = (l.take i).map bz2) (s0 := []) (by simp) ?_ ?_).trans rfl
  ·rintro x i hi rfl
   left
   have ha := h.get hi
   have h1 := ha.1
   have h2 := ha.2
   have hw : IntKind.wrap .i64 ((i : Int) + 1) = (i : Int) + 1 := aa8 (by omega)
   have hq := bd1 l[i].Value
   have c1 : ax3 l[i].Name [63] = some (l[i].Name ++ [63]) := ac3 (by simp; omega)
   have c2 : ax3 l[i].Name [61] = some (l[i].Name ++ [61]) := ac3 (by simp; omega)
   have c3 : ax3 (l[i].Name ++ [61]) (aX8 l[i].Value) = some (l[i].Name ++ [61] ++ aX8 l[i].Value) := ac3 (by simp; omega)
   have ap : ∀ y : Str, ar7 16 ((l.take i).map bz2) [y] = some ((l.take i).map bz2 ++ [y]) := fun y => ac2 (by simp; omega) (by simp; omega)
   refine ⟨(l.take (i + 1)).map bz2, ?_, rfl, rfl⟩
   simp only [ax7, dlt hi, if_true, aa6 hi, Option.bind_some, c1, c2, ci6 (s := l[i].Value) (by omega), c3, ap, hw]
   rw [List.take_succ_eq_append_getElem hi, List.map_append, List.map_cons, List.map_nil]
   unfold bz2
   cases l[i].Query <;> simp
  ·rintro x rfl
   have hj : strings_Join (l.map bz2) [32] = some (aC1 l) := by
    unfold strings_Join aC1
    have := bn5 h l.length
    rw [List.take_length] at this
    exact bL9 (by simp; omega) (by omega)
   simp only [ax7, dge, Bool.false_eq_true, if_false, aN7, List.take_length, hj, Option.bind_some, Option.map_some]
 ·simp [hz]
theorem bN2 {l : List aa4} (h : okL l) : aS3 l = some (if bM8 l = 0 then (aC1 l, 0) else ([], bM8 l)) := by
 unfold aS3
 rw [bM9 h, Option.bind_some]
 by_cases hz : bM8 l = 0
 ·have hl := h.1
  simp only [hz, decide_true, Bool.not_true, Bool.false_eq_true, if_false, if_true]
  refine (ac5 (τ := Str × Int) l.length (fun (x : Str) i => (x, i)) (fun x => au8 l x.1 x.2) (fun i _ => (aC1 l, 0)) (fun i x => x = Go.Lib.join ((l.take i).map bz2) [32]) (s0 := []) (by simp [Go.Lib.join_nil]) ?_ ?_).trans rfl
  ·rintro x i hi rfl
   left
   have ha := h.get hi
   have h1 := ha.1
   have h2 := ha.2
   have hw : IntKind.wrap .i64 ((i : Int) + 1) = (i : Int) + 1 := aa8 (by omega)
   have hq := bd1 l[i].Value
   have hlen := bn5 h i
   refine ⟨Go.Lib.join ((l.take (i + 1)).map bz2) [32], ?_, rfl, rfl⟩
   generalize hp : Go.Lib.join ((l.take i).map bz2) [32] = p at hlen
   have hk : ∀ q : Str, q.length ≤ 75020001 → au7 l i q = some (.cont (q ++ bz2 l[i], (i : Int) + 1)) := by
    intro q hq2
    have c1 : ax3 q l[i].Name = some (q ++ l[i].Name) := ac3 (by omega)
    have c2 : ax3 (q ++ l[i].Name) [63] = some (q ++ l[i].Name ++ [63]) := ac3 (by simp; omega)
    have c3 : ax3 (q ++ l[i].Name) [61] = some (q ++ l[i].Name ++ [61]) := ac3 (by simp; omega)
    have c4 : ax3 (q ++ l[i].Name ++ [61]) (aX8 l[i].Value) = some (q ++ l[i].Name ++ [61] ++ aX8 l[i].Value) := ac3 (by simp; omega)
    simp only [au7, aa6 hi, Option.bind_some, c1, c2, c3, bN1 (s := l[i].Value) (by omega), c4, hw]
    unfold bz2
    cases l[i].Query <;> simp
   have hsn : Go.Lib.join ((l.take (i + 1)).map bz2) [32] = if i = 0 then bz2 l[i] else p ++ [32] ++ bz2 l[i] := by
    rw [List.take_succ_eq_append_getElem hi, List.map_append, List.map_cons, List.map_nil, b89, hp]
    by_cases h0 : i = 0
    ·subst h0; simp
    ·rw [if_neg, if_neg h0]
     simp only [List.map_eq_nil_iff, List.take_eq_nil_iff, not_or]
     exact ⟨h0, by intro e; rw [e] at hi; simp at hi⟩
   have c5 : ax3 p [32] = some (p ++ [32]) := ac3 (by simp; omega)
   simp only [au8, dlt hi, if_true]
   rw [hsn]
   by_cases h0 : i = 0
   ·have hp0 : p = [] := by rw [← hp, h0]; simp [Go.Lib.join_nil]
    rw [hk p (by omega), hp0]
    simp [h0]
   ·have : (0 : Int) < (i : Int) := by omega
    simp only [this, decide_true, if_true, c5, Option.bind_some, h0, if_false]
    rw [hk _ (by simp; omega)]
  ·rintro x rfl
   simp only [au8, dge, Bool.false_eq_true, if_false, List.take_length]
   rfl
 ·simp [hz]
def cB0 (c : UInt8) : Bool := decide ((c.toNat : Int) = 32) || decide ((c.toNat : Int) = 9)
def endsB (s : Str) : Bool := match s with
 | [] => true
 | c :: _ => cB0 c
def bad (e : Int) : aa4 × Nat × Int := (⟨[], [], false⟩, 0, e)
def fin (s : Str) (a : aa4) (n : Nat) : aa4 × Nat × Int := if endsB (s.drop n) then (a, n, 0) else bad 2
def agree (x : aa4 × Int × Int) (at_ : Nat) (o : aa4 × Nat × Int) : Prop := x.2.2 = o.2.2 ∧ (o.2.2 = 0 → x.1 = o.1 ∧ x.2.1 = ((at_ + o.2.1 : Nat) : Int))
def bg5 (name : Str) (a : aa4) : Bool := !a.Query && decide (a.Name = name)
def at1 (name : Str) : List aa4 → Str × Bool
 | [] => ([], false)
 | a :: r => if bg5 name a then (a.Value, true) else at1 name r
theorem bE7 {α : Type} (p : α → Bool) (l : List α) : (aV2 p l = -1 ∧ ∀ a ∈ l, p a = false) ∨ ∃ i, ∃ h : i < l.length, aV2 p l = (i : Int) ∧ p l[i] = true ∧ ∀ a ∈ l.take i, p a = false := by
 induction l with
 | nil => left; exact ⟨rfl, by simp⟩
 | cons a r ih =>
  by_cases hp : p a = true
  ·right; exact ⟨0, by simp, by9 hp, hp, by simp⟩
  ·have hp' := Bool.eq_false_iff.2 hp
   rcases ih with ⟨h1, h2⟩ | ⟨i, h, h1, h2, h3⟩
   ·left
    refine ⟨by rw [ba1 hp, if_pos h1], ?_⟩
    intro x hx
    rcases List.mem_cons.1 hx with rfl | hx
    ·exact hp'
    ·exact h2 x hx
   ·right
    refine ⟨i + 1, by simpa using h, ?_, by simpa using h2, ?_⟩
    ·rw [ba1 hp, h1, if_neg (by omega)]; omega
    ·intro x hx
     rw [List.take_succ_cons] at hx
     rcases List.mem_cons.1 hx with rfl | hx
     ·exact hp'
     ·exact h3 x hx
theorem bE8 {name : Str} {a : aa4} {r : List aa4} (h : bg5 name a = true) : at1 name (a :: r) = (a.Value, true) := by simp [at1, h]
theorem bt8 {name : Str} {a : aa4} {r : List aa4} (h : ¬ bg5 name a = true) : at1 name (a :: r) = at1 name r := by simp [at1, h]
theorem bZ8 {name : Str} {l : List aa4} (h : ∀ a ∈ l, bg5 name a = false) : at1 name l = ([], false) := by
 induction l with
 | nil => rfl
 | cons a r ih => rw [at1, h a (by simp), if_neg (by simp)]; exact ih fun x hx => h x (List.mem_cons_of_mem _ hx)
theorem bU2 {name : Str} : ∀ {l : List aa4} {i : Nat} (h : i < l.length), bg5 name l[i] = true → (∀ a ∈ l.take i, bg5 name a = false) → at1 name l = (l[i].Value, true)
 | [], _, h, _, _ => by simp at h
 | a :: r, 0, _, h1, _ => by
  simp only [List.getElem_cons_zero] at h1 ⊢
  rw [at1, if_pos h1]
 | a :: r, i + 1, h, h1, h2 => by
  rw [at1, h2 a (by simp), if_neg (by simp)]
  exact bU2 (i := i) (by simpa using h) (by simpa using h1) fun x hx => h2 x (by rw [List.take_succ_cons]; exact List.mem_cons_of_mem _ hx)
theorem cj0 {l : List aa4} {name : Str} (hl : l.length ≤ 1000000) : a02 l name = some (aV2 (bg5 name) l) := by
 unfold a02
 rw [bd0]
 unfold ag6
 refine aw9 hl ?_ ?_
 ·intro i hi
  simp only [ac9, dlt hi, if_true, aa6 hi, Option.bind_some, aX0]
  rfl
 ·simp [ac9]
theorem b90 {l : List aa4} {name : Str} (hl : l.length ≤ 1000000) : aX1 l name = some (at1 name l) := by
 unfold aX1
 rw [cj0 hl, Option.bind_some]
 rcases bE7 (bg5 name) l with ⟨h1, h2⟩ | ⟨i, h, h1, h2, h3⟩
 ·rw [h1, bZ8 h2]; rfl
 ·have : ¬ ((i : Int) < 0) := by omega
  rw [h1, bU2 h h2 h3]
  simp only [this, decide_false, Bool.false_eq_true, if_false, aa6 h, Option.bind_some]
theorem bt9 {l : List aa4} {name : Str} (hl : l.length ≤ 1000000) : aP6 l name = some (at1 name l) := by
 unfold aP6
 refine (ac5 l.length (fun (_ : Unit) i => i) (fun s => aw6 l name s) (fun i _ => at1 name (l.drop i)) (fun _ _ => True) (s0 := ()) trivial ?_ ?_).trans rfl
 ·intro _ i hi _
  have hbody : aw6 l name (i : Int) = if bg5 name l[i] then some (.done (l[i].Value, true)) else some (.cont ((i : Int) + 1)) := by
   simp only [aw6, dlt hi, if_true, aa6 hi, Option.bind_some]
   rw [aa8 (by omega), show bg5 name l[i] = (!l[i].Query && decide (l[i].Name = name)) from rfl]
   by_cases h : l[i].Name = name <;> cases hq : l[i].Query <;> simp [h]
  rw [hbody, List.drop_eq_getElem_cons hi]
  by_cases hf : bg5 name l[i] = true
  ·right; rw [if_pos hf, bE8 hf]
  ·left; rw [if_neg hf, bt8 hf]; exact ⟨(), rfl, rfl, trivial⟩
 ·intro _ _
  simp [aw6, at1]
theorem cj1 {α : Type} {p : α → Bool} {l : List α} {body : Int × Int × List α → Option (Step (Int × Int × List α) (List α))} (hl : l.length ≤ 1000000)
  (hb : ∀ (i j : Nat) (s : List α) (hi : i < s.length) (hj : j < s.length), body ((i : Int), (j : Int), s) = if !p s[j] then some (.cont (IntKind.wrap .i64 ((i : Int) + 1), IntKind.wrap .i64 ((j : Int) + 1), s.set i s[j])) else some (.cont ((i : Int), IntKind.wrap .i64 ((j : Int) + 1), s)))
  (he : ∀ (i : Nat) (s : List α), i ≤ s.length → body ((i : Int), (s.length : Int), s) = some (.done (s.take i))) {i0 : Nat} (h0 : i0 < l.length) (hp0 : p l[i0] = true) (hbef : ∀ a ∈ l.take i0, p a = false) :
  ab0 body ((i0 : Int), IntKind.wrap .i64 ((i0 : Int) + 1), l) = some (l.filter fun a => !p a) := by
 have hw0 : IntKind.wrap .i64 ((i0 : Int) + 1) = ((i0 + 1 : Nat) : Int) := by rw [ag4 (by omega) (by omega)]; omega
 rw [hw0]
 have hf0 : (l.take (i0 + 1)).filter (fun a => !p a) = l.take i0 := by
  rw [List.take_succ_eq_append_getElem h0, List.filter_append, List.filter_eq_self.2 (fun a ha => by simp [hbef a ha])]
  simp [hp0]
 refine (bt4 (σ := Nat × Nat × List α) body (fun x => ((x.1 : Int), (x.2.1 : Int), x.2.2)) (fun _ => l.filter fun a => !p a) (fun x => l.length - x.2.1)
  (fun x => x.1 < x.2.1 ∧ x.2.1 ≤ l.length ∧ x.2.2.length = l.length ∧ x.2.2.take x.1 = (l.take x.2.1).filter (fun a => !p a) ∧ x.2.2.drop x.2.1 = l.drop x.2.1) ?_ (s0 := (i0, i0 + 1, l)) ⟨by simp, by simp only; omega, rfl, by simp only; exact hf0.symm, rfl⟩).trans rfl
 rintro ⟨i, j, s⟩ ⟨h1, h2, h3, h4, h5⟩
 simp only at h1 h2 h3 h4 h5
 rcases Nat.lt_or_ge j l.length with hj | hj
 ·left
  have hjs : j < s.length := by omega
  have hwi : IntKind.wrap .i64 ((i : Int) + 1) = ((i + 1 : Nat) : Int) := by rw [ag4 (by omega) (by omega)]; omega
  have hwj : IntKind.wrap .i64 ((j : Int) + 1) = ((j + 1 : Nat) : Int) := by rw [ag4 (by omega) (by omega)]; omega
  have hsj : s[j] = l[j] := by
   rw [List.drop_eq_getElem_cons hjs, List.drop_eq_getElem_cons hj] at h5
   exact (List.cons.inj h5).1
  have h5' : s.drop (j + 1) = l.drop (j + 1) := by
   rw [List.drop_eq_getElem_cons hjs, List.drop_eq_getElem_cons hj] at h5
   exact (List.cons.inj h5).2
  simp only
  rw [hb i j s (by omega) hjs]
  cases hp : p s[j] with
  | true =>
   refine ⟨(i, j + 1, s), ?_, by trivial, ⟨by simp only; omega, by simp only; omega, h3, ?_, h5'⟩, by simp only; omega⟩
   ·simp only [Bool.not_true, Bool.false_eq_true, if_false, hwj]
   ·simp only
    rw [h4, List.take_succ_eq_append_getElem hj, List.filter_append]
    simp [← hsj, hp]
  | false =>
   refine ⟨(i + 1, j + 1, s.set i s[j]), ?_, by trivial, ⟨by simp only; omega, by simp only; omega, by simp [h3], ?_, ?_⟩, by simp only; omega⟩
   ·simp only [Bool.not_false, if_true, hwi, hwj]
   ·simp only
    rw [List.take_succ_eq_append_getElem (by simp; omega), List.getElem_set_self, List.take_set_of_le (Nat.le_refl _), h4, List.take_succ_eq_append_getElem hj, List.filter_append]
    simp [← hsj, hp]
   ·simp only
    rw [List.drop_set_of_lt (by omega)]; exact h5'
 ·right
  have : j = s.length := by omega
  subst this
  simp only
  rw [he i s (by omega), h4, List.take_of_length_le hj]
theorem cB1 (l : List UInt8) (c : UInt8) : decide (Go.Lib.indexByte l c < 0) = !l.contains c := by
 rw [← cn7, Bool.eq_iff_iff]
 simp
theorem bE9 (l : Str) (c : UInt8) : strings_IndexByte l (c.toNat : Int) = some (Go.Lib.indexByte l c) := by
 unfold strings_IndexByte stringslite_IndexByte aO7
 rw [bt5]; rfl
def dC (more : Str) (c : UInt8) : Bool := ((decide (97 ≤ (c.toNat : Int)) && decide ((c.toNat : Int) ≤ 122)) || (decide (48 ≤ (c.toNat : Int)) && decide ((c.toNat : Int) ≤ 57))) || more.contains c
def an6 (s more : Str) (most : Nat) : Bool := !decide (s = []) && (decide (s.length ≤ most) && s.all (dC more))
theorem bN3 {s more : Str} {most : Nat} (hm : most ≤ 1000000) : aO9 s (most : Int) more = some (an6 s more most) := by
 unfold aO9 an6
 by_cases h0 : s = []
 ·simp [h0]
 by_cases h1 : s.length ≤ most
 ·have h2 : ¬ ((most : Int) < (List.length s : Int)) := by omega
  simp only [h0, h2, decide_false, Bool.or_self, Bool.false_eq_true, if_false, h1, decide_true, Bool.not_false, Bool.true_and]
  refine (ac5 s.length (fun (_ : Unit) i => i) (fun v => aA3 s more v) (fun i _ => (s.drop i).all (dC more)) (fun _ _ => True) (s0 := ()) trivial ?_ ?_).trans rfl
  ·intro _ i hi _
   have key : ∀ (b : Bool) (c : UInt8), ((if (decide ((c.toNat : Int) < 97)) then (if (decide ((c.toNat : Int) < 48)) then some (!b) else (if (decide (57 < (c.toNat : Int))) then some (!b) else some false)) else (if (decide (122 < (c.toNat : Int))) then (if (decide ((c.toNat : Int) < 48)) then some (!b) else (if (decide (57 < (c.toNat : Int))) then some (!b) else some false)) else some false)) : Option Bool)
     = some (!(((decide (97 ≤ (c.toNat : Int)) && decide ((c.toNat : Int) ≤ 122)) || (decide (48 ≤ (c.toNat : Int)) && decide ((c.toNat : Int) ≤ 57))) || b)) := by
    intro b
    cases b
    ·exact aR8 (by decide +kernel)
    ·exact aR8 (by decide +kernel)
   simp only [aA3, dlt hi, if_true, aj3 hi, Option.bind_some, bE9, cB1, key, List.drop_eq_getElem_cons hi, List.all_cons]
   change (∃ s', (if (!dC more s[i]) = true then _ else _) = _ ∧ _ ∧ _) ∨ (if (!dC more s[i]) = true then _ else _) = _
   cases dC more s[i] with
   | false => right; simp
   | true =>
    left
    refine ⟨(), ?_, by simp, trivial⟩
    simp only [Bool.not_true, Bool.false_eq_true, if_false]
    rw [aa8 (by omega)]
  ·intro _ _
   simp [aA3]
 ·have h2 : ((most : Int) < (List.length s : Int)) := by omega
  simp [h0, h1, h2]
theorem bz3 {s more : Str} {i : Nat} (hi : i < s.length) (hl : s.length ≤ 1000000) (hm : more.length ≤ 1000000) (ok : Bool) :
  ab0 (fun x => ak4 s more (i : Int) x.1 x.2) (ok, 0) = some (if (ok || more.contains s[i]) = true then Step.cont ((i : Int) + 1) else Step.done false) := by
 refine (ac5 (τ := Bool × Int) more.length (fun (x : Bool) k => (x, k)) (fun x => ak4 s more (i : Int) x.1 x.2) (fun k x => if (x || (more.drop k).contains s[i]) = true then Step.cont ((i : Int) + 1) else Step.done false) (fun _ _ => True) (s0 := ok) trivial ?_ ?_).trans (by simp)
 ·intro x k hk _
  left
  refine ⟨x || decide (s[i] = more[k]), ?_, ?_, trivial⟩
  ·simp only [ak4, dlt hk, if_true, aj3 hi, aj3 hk, Option.bind_some, isC]
   rw [aa8 (by omega)]
   cases x <;> rfl
  ·simp only [List.drop_eq_getElem_cons hk, List.contains_cons]
   have : (s[i] == more[k]) = decide (s[i] = more[k]) := by rw [Bool.eq_iff_iff]; simp
   rw [this, Bool.or_assoc]
 ·intro x _
  simp only [ak4, dge, Bool.false_eq_true, if_false, aD0, List.drop_length]
  rw [aa8 (by omega)]
  cases x <;> simp
theorem bd2 {s more : Str} {most : Nat} (hs : s.length ≤ 1000000) (hm : more.length ≤ 1000000) : ar3 s more (most : Int) = some (an6 s more most) := by
 unfold ar3
 refine (ac5 s.length (fun (_ : Unit) i => i) (fun v => ao9 s more (most : Int) v) (fun i _ => (s.drop i).all (dC more) && (!decide (s = []) && decide (s.length ≤ most))) (fun _ _ => True) (s0 := ()) trivial ?_ ?_).trans ?_
 ·intro _ i hi _
  have key : ∀ c : UInt8, ((if (decide (97 ≤ (c.toNat : Int))) then (if (decide ((c.toNat : Int) ≤ 122)) then some true else (if (decide (48 ≤ (c.toNat : Int))) then some (decide ((c.toNat : Int) ≤ 57)) else some false)) else (if (decide (48 ≤ (c.toNat : Int))) then some (decide ((c.toNat : Int) ≤ 57)) else some false)) : Option Bool)
    = some ((decide (97 ≤ (c.toNat : Int)) && decide ((c.toNat : Int) ≤ 122)) || (decide (48 ≤ (c.toNat : Int)) && decide ((c.toNat : Int) ≤ 57))) := aR8 (by decide +kernel)
  simp only [ao9, dlt hi, if_true, aj3 hi, Option.bind_some, key, bz3 hi hs hm, List.drop_eq_getElem_cons hi, List.all_cons]
  change (∃ s', some (if dC more s[i] = true then _ else _) = _ ∧ _ ∧ _) ∨ some (if dC more s[i] = true then _ else _) = _
  cases dC more s[i] with
  | false => right; simp
  | true => left; exact ⟨(), by simp, by simp, trivial⟩
 ·intro _ _
  simp only [ao9, dge, Bool.false_eq_true, if_false, List.drop_length, List.all_nil, Bool.true_and]
  congr 2
  cases s with
  | nil => rfl
  | cons c r =>
   have : decide ((1 : Int) ≤ (List.length (c :: r) : Int)) = true := by simp only [List.length_cons, decide_eq_true_eq]; omega
   rw [this]
   have e : decide ((List.length (c :: r) : Int) ≤ (most : Int)) = decide (List.length (c :: r) ≤ most) := by rw [Bool.eq_iff_iff]; simp only [decide_eq_true_eq]; omega
   rw [e]; simp
 ·simp only [List.drop_zero, an6]
  congr 1
  cases s.all (dC more) <;> cases decide (s = []) <;> cases decide (s.length ≤ most) <;> rfl
def bN4 (s : Str) : Bool := an6 s [45, 95] 32 && (match s with | c :: _ => decide (97 ≤ (c.toNat : Int)) | [] => false)
def aQ4 (s : Str) : Bool := an6 s [45, 95, 46] 64
def svcB (s : Str) : Bool := decide (s = []) || an6 s [45, 95] 32
def at0 (a : aa2) : Bool := bN4 a.Net && ((decide (a.Host = [42]) || aQ4 a.Host) && svcB a.Service)
theorem bU3 (s : Str) : aP0 s = some (bN4 s) := by
 unfold aP0 bN4
 have h := bN3 (s := s) (more := [45, 95]) (most := 32) (by omega)
 rw [show ((32 : Nat) : Int) = 32 from rfl] at h
 rw [h, Option.bind_some]
 cases hl : an6 s [45, 95] 32 with
 | false => simp
 | true =>
  cases s with
  | nil => simp [an6] at hl
  | cons c r =>
   have hat : ai6 (c :: r) 0 = some c := rfl
   have hd : dC [45, 95] c = true := by
    unfold an6 at hl
    simp only [Bool.and_eq_true, List.all_cons] at hl
    exact hl.2.2.1
   have key : ∀ c : UInt8, (!dC [45, 95] c || !decide (97 ≤ (c.toNat : Int)) || decide ((c.toNat : Int) ≤ 122)) = true := aZ9 (by decide +kernel)
   have k := key c
   rw [hd] at k
   simp only [if_true, hat, Option.bind_some, Bool.true_and]
   cases h97 : decide (97 ≤ (c.toNat : Int)) with
   | false => simp
   | true => rw [h97] at k; simp only [Bool.not_true, Bool.false_or] at k; simp [k]
theorem bn6 (s : Str) : aC7 s = some (aQ4 s) := by
 unfold aC7 aQ4
 have h := bN3 (s := s) (more := [45, 95, 46]) (most := 64) (by omega)
 rw [show ((64 : Nat) : Int) = 64 from rfl] at h
 rw [h]; rfl
theorem bF0 {s : Str} (hs : s.length ≤ 1000000) : aX4 s = some (bN4 s) := by
 unfold aX4 bN4
 have h := bd2 (s := s) (more := [45, 95]) (most := 32) hs (by simp)
 rw [show ((32 : Nat) : Int) = 32 from rfl] at h
 rw [h, Option.bind_some]
 cases hl : an6 s [45, 95] 32 with
 | false => simp
 | true =>
  cases s with
  | nil => simp [an6] at hl
  | cons c r =>
   have hat : ai6 (c :: r) 0 = some c := rfl
   simp [hat]
theorem bu0 {s : Str} (hs : s.length ≤ 1000000) : aP5 s = some (aQ4 s) := by
 unfold aP5 aQ4
 have h := bd2 (s := s) (more := [45, 95, 46]) (most := 64) hs (by simp)
 rw [show ((64 : Nat) : Int) = 64 from rfl] at h
 rw [h]; rfl
theorem bi4 (a : aa2) : aI6 a = some (at0 a) := by
 unfold aI6 at0 svcB
 have h := bN3 (s := a.Service) (more := [45, 95]) (most := 32) (by omega)
 rw [show ((32 : Nat) : Int) = 32 from rfl] at h
 simp only [h, bU3, bn6, Option.bind_some]
 cases bN4 a.Net <;> cases h1 : decide (a.Host = [42]) <;> cases aQ4 a.Host <;> cases h2 : decide (a.Service = []) <;> cases an6 a.Service [45, 95] 32 <;> simp
theorem aT8 {a : aa2} (h1 : a.Net.length ≤ 1000000) (h2 : a.Host.length ≤ 1000000) (h3 : a.Service.length ≤ 1000000) : aD1 a = some (at0 a) := by
 unfold aD1 at0 svcB
 have h := bd2 (s := a.Service) (more := [45, 95]) (most := 32) h3 (by simp)
 rw [show ((32 : Nat) : Int) = 32 from rfl] at h
 simp only [h, bF0 h1, bu0 h2, Option.bind_some]
 cases bN4 a.Net <;> cases h1 : decide (a.Host = [42]) <;> cases aQ4 a.Host <;> cases h2 : decide (a.Service = []) <;> cases an6 a.Service [45, 95] 32 <;> simp
def av4 (sep : UInt8) : Str → Str → List Str
 | acc, [] => [acc]
 | acc, c :: r => if c = sep then acc :: av4 sep [] r else av4 sep (acc ++ [c]) r
theorem bN5 {sep : UInt8} {a : Str} (h : sep ∉ a) (acc : Str) : av4 sep acc a = [acc ++ a] := by
 induction a generalizing acc with
 | nil => simp [av4]
 | cons c r ih =>
  simp only [List.mem_cons, not_or] at h
  rw [av4, if_neg (fun e => h.1 e.symm), ih h.2]
  simp
theorem bZ9 {sep : UInt8} {a b : Str} (h : sep ∉ a) (acc : Str) : av4 sep acc (a ++ sep :: b) = (acc ++ a) :: av4 sep [] b := by
 induction a generalizing acc with
 | nil => simp [av4]
 | cons c r ih =>
  simp only [List.mem_cons, not_or] at h
  rw [List.cons_append, av4, if_neg (fun e => h.1 e.symm), ih h.2]
  simp
theorem bd3 {sep : UInt8} : ∀ (p acc : Str), ∀ x ∈ av4 sep acc p, x.length ≤ acc.length + p.length
 | [], acc, x, h => by simp [av4] at h; subst h; simp
 | c :: r, acc, x, h => by
  unfold av4 at h
  split at h
  ·rcases List.mem_cons.1 h with rfl | h
   ·omega
   ·have := bd3 r [] x h
    simp at this ⊢; omega
  ·have := bd3 r (acc ++ [c]) x h
   simp at this ⊢; omega
theorem bN6 (l : Str) (c : UInt8) : (c ∉ l ∧ Go.Lib.indexByte l c = -1) ∨ ∃ a b, l = a ++ c :: b ∧ c ∉ a ∧ Go.Lib.indexByte l c = (a.length : Int) := by
 induction l with
 | nil => exact .inl ⟨by simp, rfl⟩
 | cons x r ih =>
  by_cases hx : x = c
  ·subst hx
   exact .inr ⟨[], r, rfl, by simp, by simp [Go.Lib.indexByte]⟩
  ·have hx' : (x == c) = false := by simpa using hx
   rcases ih with ⟨h1, h2⟩ | ⟨a, b, h1, h2, h3⟩
   ·refine .inl ⟨by simp [h1, Ne.symm hx], ?_⟩
    simp [Go.Lib.indexByte, hx', h2]
   ·refine .inr ⟨x :: a, b, by rw [h1]; rfl, by simp [h2, Ne.symm hx], ?_⟩
    have : ¬ ((a.length : Int) = -1) := by omega
    simp [Go.Lib.indexByte, hx', h3, this]
theorem bN7 {p : Str} {sep : UInt8} (h : p.length ≤ 1000000000) : ay6 p [sep] 0 (-1) = some (av4 sep [] p) := by
 unfold ay6
 simp only [show decide ((-1 : Int) = 0) = false from rfl, show decide (([sep] : Str) = []) = false by simp, show decide ((-1 : Int) < 0) = true from rfl, if_true, Bool.false_eq_true, if_false]
 have hcnt : strings_Count p [sep] = some ((p.count sep : Nat) : Int) := rfl
 have hle : p.count sep ≤ p.length := List.count_le_length
 rw [hcnt, Option.bind_some, ag4 (by omega) (by omega)]
 unfold aq7
 have hmin : min ((p.count sep : Int) + 1) (IntKind.wrap .i64 ((List.length p : Int) + 1)) = ((p.count sep + 1 : Nat) : Int) := by
  rw [ag4 (by omega) (by omega)]; omega
 have hmk : mkC 16 ([] : Str) (((p.count sep + 1 : Nat) : Int)) (((p.count sep + 1 : Nat) : Int)) = some (List.replicate (p.count sep + 1) []) := by
  unfold mkC
  rw [if_pos ⟨by omega, by omega, by omega, by omega⟩, Int.toNat_natCast]
 have hlim : IntKind.wrap .i64 (((p.count sep + 1 : Nat) : Int) - 1) = ((p.count sep : Nat) : Int) := by rw [ag4 (by omega) (by omega)]; omega
 rw [hmin, hmk, Option.bind_some]
 refine (ac5 (τ := Str × Int × List Str) (p.count sep) (fun (s : Str × List Str) i => (s.1, i, s.2)) (fun s => ak0 p [sep] 0 ((p.count sep : Int) + 1) s.1 s.2.1 s.2.2)
  (fun i s => s.2.take i ++ av4 sep [] s.1) (fun i s => i + s.1.count sep = p.count sep ∧ s.2.length = p.count sep + 1 ∧ s.1.length ≤ p.length) (s0 := (p, List.replicate (p.count sep + 1) [])) ⟨by simp, by simp, Nat.le_refl _⟩ ?_ ?_).trans ?_
 ·rintro ⟨s, a⟩ i hi ⟨h1, h2, h3⟩
  simp only at h1 h2 h3
  left
  rcases bN6 s sep with ⟨hn, _⟩ | ⟨x, y, rfl, hx, hix⟩
  ·have : s.count sep = 0 := List.count_eq_zero.2 hn
   omega
  ·have hidx : strings_Index (x ++ sep :: y) [sep] = some (x.length : Int) := by
    show some _ = _
    rw [hix]
   simp only [List.length_append, List.length_cons] at h3
   have hia : i < a.length := by omega
   have e1 : cut (x ++ sep :: y) 0 (IntKind.wrap .i64 ((x.length : Int) + 0)) = some x := by
    rw [ag4 (by omega) (by omega), Int.add_zero, a32 (by simp)]
    simp
   have e2 : cut (x ++ sep :: y) (IntKind.wrap .i64 ((x.length : Int) + (List.length ([sep] : Str) : Int))) (List.length (x ++ sep :: y) : Int) = some y := by
    have hw : IntKind.wrap .i64 ((x.length : Int) + (List.length ([sep] : Str) : Int)) = ((x.length + 1 : Nat) : Int) := by
     rw [ag4 (by simp; omega) (by simp; omega)]; simp
    rw [hw, aR9 (by simp)]
    rw [show (x ++ sep :: y) = (x ++ [sep]) ++ y by simp, List.drop_left' (by simp)]
   have hneg : ¬ ((x.length : Int) < 0) := by omega
   have hcond : (i : Int) < ((p.count sep : Nat) : Int) := by omega
   refine ⟨(y, a.set i x), ?_, ?_, ?_, by simp [h2], by simp; omega⟩
   ·simp only [ak0, hmin, hlim, hcond, decide_true, if_true, hidx, Option.bind_some, hneg, decide_false, Bool.false_eq_true, if_false, e1, e2, aa6 hia, Int.toNat_natCast]
    rw [b74 hi (by unfold maxLen; omega)]
   ·simp only
    rw [bZ9 hx, List.take_succ_eq_append_getElem (by simp; omega), List.getElem_set_self, List.take_set_of_le (Nat.le_refl _)]
    simp
   ·simp only [List.count_append, List.count_cons, List.count_eq_zero.2 hx] at h1
    simp at h1 ⊢
    omega
 ·rintro ⟨s, a⟩ ⟨h1, h2, h3⟩
  simp only at h1 h2 h3
  have hc : s.count sep = 0 := by omega
  have hia : p.count sep < a.length := by omega
  have hcond : ¬ (((p.count sep : Nat) : Int) < ((p.count sep : Nat) : Int)) := by omega
  have e1 : cut (List.set a (p.count sep) s) 0 (IntKind.wrap .i64 (((p.count sep : Nat) : Int) + 1)) = some (List.take (p.count sep) a ++ [s]) := by
   rw [ag4 (by omega) (by omega)]
   have := a32 (l := List.set a (p.count sep) s) (b := p.count sep + 1) (by simp; omega)
   rw [show ((p.count sep + 1 : Nat) : Int) = ((p.count sep : Nat) : Int) + 1 by omega] at this
   rw [this, List.take_succ_eq_append_getElem (by simp; omega), List.getElem_set_self, List.take_set_of_le (Nat.le_refl _)]
  simp only [ak0, aq6, hmin, hlim, hcond, decide_false, Bool.false_eq_true, if_false, aa6 hia, Option.bind_some, Int.toNat_natCast, e1, Option.map_some]
  rw [bN5 (List.count_eq_zero.1 hc)]
  rfl
 ·simp
theorem cj2 {p : Str} {sep : UInt8} (h : p.length ≤ 1000000000) : aH6 p [sep] = some (av4 sep [] p) := by
 unfold aH6
 rw [bN7 h]; rfl
theorem is33 (c : UInt8) : decide ((c.toNat : Int) = 33) = decide (c = 33) := isC c 33
theorem bN8 {p : Str} (h : p.length ≤ 50000) : aS8 p = some (av4 33 [] p) := by
 unfold aS8
 refine (ac5 (τ := Int × Int × List Str) (p.length + 1) (fun (s : Nat × List Str) i => ((s.1 : Int), i, s.2)) (fun s => al1 p s.1 s.2.1 s.2.2)
  (fun i s => if i = p.length + 1 then s.2 else s.2 ++ av4 33 ((p.take i).drop s.1) (p.drop i)) (fun i s => s.1 ≤ i ∧ s.2.length ≤ i) (s0 := (0, [])) ⟨by simp, by simp⟩ ?_ ?_).trans ?_
 ·rintro ⟨from', out⟩ i hi ⟨h1, h2⟩
  simp only at h1 h2
  left
  have hle : (i : Int) ≤ (List.length p : Int) := by omega
  have hcut : cut p (from' : Int) (i : Int) = some ((p.take i).drop from') := aW6 h1 (by omega)
  have happ : ar7 16 out [(p.take i).drop from'] = some (out ++ [(p.take i).drop from']) := ac2 (by simp; omega) (by simp; omega)
  have hw : IntKind.wrap .i64 ((i : Int) + 1) = (i : Int) + 1 := ag4 (by omega) (by omega)
  by_cases hi2 : i = p.length
  ·have hi3 : (i : Int) = (List.length p : Int) := by omega
   refine ⟨(i + 1, out ++ [(p.take i).drop from']), ?_, ?_, by simp, by simp; omega⟩
   ·simp only [al1, hle, hi3, decide_true, if_true, Option.bind_some]
    rw [← hi3, hcut, Option.bind_some, happ, Option.bind_some, hw]
    simp
   ·simp only
    rw [if_neg (by omega), if_pos (by omega), hi2]
    simp [av4]
  ·have hi3 : ¬ (i : Int) = (List.length p : Int) := by omega
   have hlt : i < p.length := by omega
   by_cases hs : p[i] = 33
   ·refine ⟨(i + 1, out ++ [(p.take i).drop from']), ?_, ?_, by simp, by simp; omega⟩
    ·simp only [al1, hle, hi3, decide_true, decide_false, if_true, Bool.false_eq_true, if_false, aj3 hlt, Option.bind_some, is33, hs, hcut, happ, hw]
     rfl
    ·simp only
     rw [if_neg (by omega), if_neg (by omega), List.drop_eq_getElem_cons hlt, av4, if_pos hs]
     have : (p.take (i + 1)).drop (i + 1) = [] := List.drop_of_length_le (by simp; omega)
     rw [this, List.append_assoc]; rfl
   ·refine ⟨(from', out), ?_, ?_, by simp; omega, by simp; omega⟩
    ·simp only [al1, hle, hi3, decide_true, decide_false, if_true, Bool.false_eq_true, if_false, aj3 hlt, Option.bind_some, is33, hs, hw]
    ·simp only
     rw [if_neg (by omega), if_neg (by omega), List.drop_eq_getElem_cons hlt, av4, if_neg hs]
     congr 2
     rw [List.take_succ_eq_append_getElem hlt, List.drop_append_of_le_length (by simp; omega)]
 ·rintro ⟨from', out⟩ ⟨h1, h2⟩
  have : ¬ (((p.length + 1 : Nat) : Int) ≤ (List.length p : Int)) := by omega
  simp [al1]
  omega
 ·simp
def bg6 : aa2 × Int := (⟨[], [], []⟩, 36)
def af9 (s : Str) : aa2 × Int := match av4 33 [] s with
 | [n, h] => if at0 ⟨n, h, []⟩ then (⟨n, h, []⟩, 0) else bg6
 | [n, h, v] => if at0 ⟨n, h, v⟩ && !decide (v = []) then (⟨n, h, v⟩, 0) else bg6
 | _ => bg6
theorem cj3 {n v : Str} : at0 ⟨n, [], v⟩ = false := by
 unfold at0
 have : (decide (([] : Str) = [42]) || aQ4 []) = false := by decide
 simp only [this, Bool.false_and, Bool.and_false]
theorem b91 {s : Str} (h : s.length ≤ 50000) : aI7 s = some (af9 s) := by
 unfold aI7 af9
 rw [cj2 (by omega), Option.bind_some]
 generalize av4 33 [] s = l
 match l with
 | [] => rfl
 | [a] => rfl
 | [n, h] =>
  have e1 : aa9 [n, h] 0 = some n := rfl
  have e2 : aa9 [n, h] 1 = some h := rfl
  simp only [List.length_cons, List.length_nil, e1, e2, Option.bind_some, aA4, bi4]
  cases at0 ⟨n, h, []⟩ <;> simp [bg6]
 | [n, h, v] =>
  have e1 : aa9 [n, h, v] 0 = some n := rfl
  have e2 : aa9 [n, h, v] 1 = some h := rfl
  have e3 : aa9 [n, h, v] 2 = some v := rfl
  simp only [List.length_cons, List.length_nil, e1, e2, e3, Option.bind_some, aA4, bi4]
  cases at0 ⟨n, h, v⟩ <;> cases hv : decide (v = []) <;> simp_all [bg6]
 | a :: b :: c :: d :: r =>
  have : (3 : Int) < (List.length (a :: b :: c :: d :: r) : Int) := by simp only [List.length_cons]; omega
  simp only [this, decide_true, Bool.or_true, if_true]
  rfl
theorem bu1 {s : Str} (h : s.length ≤ 50000) : aK7 s = some (af9 s) := by
 unfold aK7 af9
 rw [bN8 h, Option.bind_some]
 have hm := bd3 (sep := 33) s []
 generalize av4 33 [] s = l at hm
 match l, hm with
 | [], _ => rfl
 | [a], _ => rfl
 | [n, h], hm =>
  have e1 : aa9 [n, h] 0 = some n := rfl
  have e2 : aa9 [n, h] 1 = some h := rfl
  have e4 : aa9 [n, h] (IntKind.wrap .i64 (2 - 1)) = some h := rfl
  have l1 := hm n (by simp)
  have l2 := hm h (by simp)
  have hr := aT8 (a := ⟨n, h, []⟩) (by simp only; simp at l1; omega) (by simp only; simp at l2; omega) (by simp)
  have hl : (List.length [n, h] : Int) = 2 := rfl
  simp only [hl, e1, e2, e4, Option.bind_some, ay2, hr]
  by_cases hh : h = []
  ·subst hh
   simp [cj3, bg6]
  ·cases at0 ⟨n, h, []⟩ <;> simp [bg6, hh]
 | [n, h, v], hm =>
  have e1 : aa9 [n, h, v] 0 = some n := rfl
  have e2 : aa9 [n, h, v] 1 = some h := rfl
  have e3 : aa9 [n, h, v] 2 = some v := rfl
  have e4 : aa9 [n, h, v] (IntKind.wrap .i64 (3 - 1)) = some v := rfl
  have l1 := hm n (by simp)
  have l2 := hm h (by simp)
  have l3 := hm v (by simp)
  have hr := aT8 (a := ⟨n, h, v⟩) (by simp only; simp at l1; omega) (by simp only; simp at l2; omega) (by simp only; simp at l3; omega)
  have hl : (List.length [n, h, v] : Int) = 3 := rfl
  simp only [hl, e1, e2, e3, e4, Option.bind_some, ay2, hr]
  by_cases hv : v = []
  ·subst hv; cases at0 ⟨n, h, []⟩ <;> simp [bg6]
  ·cases at0 ⟨n, h, v⟩ <;> simp [bg6, hv]
 | a :: b :: c :: d :: r, _ =>
  have h1 : (3 : Int) < (List.length (a :: b :: c :: d :: r) : Int) := by simp only [List.length_cons]; omega
  have h2 : ¬ ((List.length (a :: b :: c :: d :: r) : Int) < 2) := by simp only [List.length_cons]; omega
  simp only [h1, h2, decide_true, decide_false, Bool.false_eq_true, if_false, if_true, Option.bind_some]
  rfl
def bf6 (a : aa2) : Str × Int := if at0 a then (a.Net ++ [33] ++ a.Host ++ (if a.Service = [] then [] else [33] ++ a.Service), 0) else ([], 36)
theorem b92 {a : aa2} (h1 : a.Net.length ≤ 1000000) (h2 : a.Host.length ≤ 1000000) (h3 : a.Service.length ≤ 1000000) : aP1 a = some (bf6 a) := by
 unfold aP1 bf6
 have c1 : ax3 a.Net [33] = some (a.Net ++ [33]) := ac3 (by simp; omega)
 have c2 : ax3 (a.Net ++ [33]) a.Host = some (a.Net ++ [33] ++ a.Host) := ac3 (by simp; omega)
 have c3 : ax3 [33] a.Service = some ([33] ++ a.Service) := ac3 (by simp; omega)
 have c4 : ax3 (a.Net ++ [33] ++ a.Host) ([33] ++ a.Service) = some (a.Net ++ [33] ++ a.Host ++ ([33] ++ a.Service)) := ac3 (by simp; omega)
 simp only [bi4, c1, c2, c3, c4, Option.bind_some]
 cases at0 a <;> by_cases hs : a.Service = [] <;> simp [hs]
theorem bu2 {a : aa2} (h1 : a.Net.length ≤ 1000000) (h2 : a.Host.length ≤ 1000000) (h3 : a.Service.length ≤ 1000000) : aL1 a = some (bf6 a) := by
 unfold aL1 bf6
 have c1 : ax3 a.Net [33] = some (a.Net ++ [33]) := ac3 (by simp; omega)
 have c2 : ax3 (a.Net ++ [33]) a.Host = some (a.Net ++ [33] ++ a.Host) := ac3 (by simp; omega)
 have c3 : ax3 (a.Net ++ [33] ++ a.Host) [33] = some (a.Net ++ [33] ++ a.Host ++ [33]) := ac3 (by simp; omega)
 have c4 : ax3 (a.Net ++ [33] ++ a.Host ++ [33]) a.Service = some (a.Net ++ [33] ++ a.Host ++ [33] ++ a.Service) := ac3 (by simp; omega)
 simp only [aT8 h1 h2 h3, c1, c2, c3, c4, Option.bind_some]
 cases at0 a <;> by_cases hs : a.Service = [] <;> simp [hs]
theorem cs8 {l : List aa4} (h : l.length ≤ 1000000) : a96 l = some (l.any (·.Query)) := by
 unfold a96 af8
 have hix : ae0 l = some (aV2 (fun a => a.Query) l) := by
  unfold ae0
  refine aw9 h ?_ ?_
  ·intro i hi
   simp only [ad0, dlt hi, if_true, aa6 hi, Option.bind_some, a55]
  ·simp [ad0]
 rw [hix, Option.bind_some, Option.bind_some, aT7]
theorem b00 {l : List aa4} (h : l.length ≤ 1000000) : a08 l = some (l.any (·.Query)) := by
 unfold a08
 refine (ac5 l.length (fun (_ : Unit) i => i) (fun s => aB2 l s) (fun i _ => (l.drop i).any (·.Query)) (fun _ _ => True) (s0 := ()) trivial ?_ ?_).trans rfl
 ·intro _ i hi _
  simp only [aB2, dlt hi, if_true, aa6 hi, Option.bind_some, List.drop_eq_getElem_cons hi, List.any_cons]
  cases l[i].Query with
  | true => right; simp
  | false =>
   left
   refine ⟨(), ?_, by simp, trivial⟩
   simp only [Bool.false_eq_true, if_false]
   rw [aa8 (by omega)]
 ·intro _ _
  simp [aB2]
def okE (out : List aa3) : Prop := out.length ≤ 256 ∧ ∀ x ∈ out, x.Attrs.length ≤ 32 ∧ ∀ a ∈ x.Attrs, okA a
theorem bn7 {l : List Str} {v : Str} (h : l.length ≤ 1000000) : af6 l v = some (l.contains v) := by
 unfold af6
 have hix : ai3 l v = some (aV2 (fun x => decide (v = x)) l) := by
  unfold ai3
  refine aw9 h ?_ ?_
  ·intro i hi
   simp only [ah0, dlt hi, if_true, aa6 hi, Option.bind_some]
  ·simp [ah0]
 rw [hix, Option.bind_some, aT7]
 congr 1
 rw [Bool.eq_iff_iff]
 simp
theorem b93 {l : List Str} {v : Str} (h : l.length ≤ 1000000) : aP7 l v = some (l.contains v) := by
 unfold aP7
 refine (ac5 l.length (fun (_ : Unit) i => i) (fun s => aF6 l v s) (fun i _ => (l.drop i).contains v) (fun _ _ => True) (s0 := ()) trivial ?_ ?_).trans rfl
 ·intro _ i hi _
  simp only [aF6, dlt hi, if_true, aa6 hi, Option.bind_some, List.drop_eq_getElem_cons hi, List.contains_cons]
  by_cases hv : l[i] = v
  ·right
   have : (v == l[i]) = true := by simp [hv]
   simp [hv]
  ·left
   have : (v == l[i]) = false := by simp [Ne.symm hv]
   refine ⟨(), ?_, by rw [this, Bool.false_or], trivial⟩
   simp only [hv, decide_false, Bool.false_eq_true, if_false]
   rw [aa8 (by omega)]
 ·intro _ _
  simp [aF6]
def aG9 (name : Str) : List Str → List aa3 → List Str
 | out, [] => out
 | out, x :: r => if (at1 name x.Attrs).2 && !out.contains (at1 name x.Attrs).1 then aG9 name (out ++ [(at1 name x.Attrs).1]) r else aG9 name out r
def aB9 (l : List aa3) (name : Str) : List Str := aG9 name [] l
def okD (l : List aa3) : Prop := l.length ≤ 1000 ∧ ∀ x ∈ l, x.Attrs.length ≤ 1000000
theorem bn8 {l : List aa3} {name : Str} (h : okD l) : au0 l name = some (aB9 l name) := by
 unfold au0 aB9
 have h1 := h.1
 refine (ac5 (τ := Int × List Str) l.length (fun (x : List Str) i => (i, x)) (fun x => ax4 l name x.1 x.2) (fun i x => aG9 name x (l.drop i)) (fun i x => x.length ≤ i) (s0 := []) (by simp) ?_ ?_).trans rfl
 ·intro out i hi hl
  left
  have hap : ∀ v, ar7 16 out [v] = some (out ++ [v]) := fun v => ac2 (by simp; omega) (by simp; omega)
  have hw : IntKind.wrap .i64 ((i : Int) + 1) = (i : Int) + 1 := aa8 (by omega)
  refine ⟨if (at1 name l[i].Attrs).2 && !out.contains (at1 name l[i].Attrs).1 then out ++ [(at1 name l[i].Attrs).1] else out, ?_, ?_, ?_⟩
  ·simp only [ax4, dlt hi, if_true, aa6 hi, Option.bind_some, b90 (h.2 _ (List.getElem_mem hi)), a54, bn7 (l := out) (by omega), hap, hw]
   cases (at1 name l[i].Attrs).2 <;> cases out.contains (at1 name l[i].Attrs).1 <;> rfl
  ·simp only [List.drop_eq_getElem_cons hi, aG9]
   split <;> rfl
  ·split <;> (try simp) <;> omega
 ·intro out _
  simp [ax4, aG9]
theorem aX9 {l : List aa3} {name : Str} (h : okD l) : aq0 l name = some (aB9 l name) := by
 unfold aq0 aB9
 have h1 := h.1
 refine (ac5 (τ := Int × List Str) l.length (fun (x : List Str) i => (i, x)) (fun x => ar9 l name x.1 x.2) (fun i x => aG9 name x (l.drop i)) (fun i x => x.length ≤ i) (s0 := []) (by simp) ?_ ?_).trans rfl
 ·intro out i hi hl
  left
  have hap : ∀ v, ar7 16 out [v] = some (out ++ [v]) := fun v => ac2 (by simp; omega) (by simp; omega)
  have hw : IntKind.wrap .i64 ((i : Int) + 1) = (i : Int) + 1 := aa8 (by omega)
  refine ⟨if (at1 name l[i].Attrs).2 && !out.contains (at1 name l[i].Attrs).1 then out ++ [(at1 name l[i].Attrs).1] else out, ?_, ?_, ?_⟩
  ·simp only [ar9, dlt hi, if_true, aa6 hi, Option.bind_some, bt9 (h.2 _ (List.getElem_mem hi)), b93 (l := out) (by omega), hap, hw]
   cases (at1 name l[i].Attrs).2 <;> cases out.contains (at1 name l[i].Attrs).1 <;> rfl
  ·simp only [List.drop_eq_getElem_cons hi, aG9]
   split <;> rfl
  ·split <;> (try simp) <;> omega
 ·intro out _
  simp [ar9, aG9]
def bz4 (name value : Str) (x : aa3) : Bool := (at1 name x.Attrs).2 && decide ((at1 name x.Attrs).1 = value)
def av5 (l : List aa3) (name value want : Str) : List Str := aB9 (l.filter (bz4 name value)) want
theorem okD.filter {l : List aa3} (h : okD l) (p : aa3 → Bool) : okD (l.filter p) := ⟨Nat.le_trans (List.length_filter_le _ _) h.1, fun x hx => h.2 x (List.mem_filter.1 hx).1⟩
theorem bz5 {l : List aa3} {name value want : Str} (h : okD l) : aw0 l name value want = some (av5 l name value want) := by
 unfold aw0
 have h1 := h.1
 refine (ac5 (τ := Int × List aa3) l.length (fun (x : List aa3) i => (i, x)) (fun x => ax5 l name value want x.1 x.2) (fun i x => av5 l name value want) (fun i x => x = (l.take i).filter (bz4 name value)) (s0 := []) (by simp) ?_ ?_).trans rfl
 ·rintro out i hi rfl
  left
  have hlen : ((l.take i).filter (bz4 name value)).length ≤ i := by
   have := List.length_filter_le (bz4 name value) (l.take i)
   simp at this; omega
  have hap : ∀ v, ar7 24 ((l.take i).filter (bz4 name value)) [v] = some ((l.take i).filter (bz4 name value) ++ [v]) := fun v => ac2 (by simp; omega) (by simp; omega)
  have hw : IntKind.wrap .i64 ((i : Int) + 1) = (i : Int) + 1 := aa8 (by omega)
  refine ⟨(l.take (i + 1)).filter (bz4 name value), ?_, rfl, rfl⟩
  simp only [ax5, dlt hi, if_true, aa6 hi, Option.bind_some, b90 (h.2 _ (List.getElem_mem hi)), hap, hw]
  rw [List.take_succ_eq_append_getElem hi, List.filter_append]
  change (if bz4 name value l[i] = true then _ else _) = _
  by_cases hh : bz4 name value l[i] = true
  ·rw [if_pos hh]; simp [hh]
  ·rw [if_neg hh]; simp [hh]
 ·rintro out rfl
  simp only [ax5, dge, Bool.false_eq_true, if_false, aN6, List.take_length, bn8 (h.filter _), Option.bind_some, Option.map_some]
  rfl
theorem a63 {l : List aa3} {name value want : Str} (h : okD l) : ar4 l name value want = some (av5 l name value want) := by
 unfold ar4
 have h1 := h.1
 refine (ac5 (τ := Int × List aa3) l.length (fun (x : List aa3) i => (i, x)) (fun x => av2 l name value want x.1 x.2) (fun i x => av5 l name value want) (fun i x => x = (l.take i).filter (bz4 name value)) (s0 := []) (by simp) ?_ ?_).trans rfl
 ·rintro out i hi rfl
  left
  have hlen : ((l.take i).filter (bz4 name value)).length ≤ i := by
   have := List.length_filter_le (bz4 name value) (l.take i)
   simp at this; omega
  have hap : ∀ v, ar7 24 ((l.take i).filter (bz4 name value)) [v] = some ((l.take i).filter (bz4 name value) ++ [v]) := fun v => ac2 (by simp; omega) (by simp; omega)
  have hw : IntKind.wrap .i64 ((i : Int) + 1) = (i : Int) + 1 := aa8 (by omega)
  refine ⟨(l.take (i + 1)).filter (bz4 name value), ?_, rfl, rfl⟩
  simp only [av2, dlt hi, if_true, aa6 hi, Option.bind_some, bt9 (h.2 _ (List.getElem_mem hi)), hap, hw]
  rw [List.take_succ_eq_append_getElem hi, List.filter_append]
  change (if bz4 name value l[i] = true then _ else _) = _
  by_cases hh : bz4 name value l[i] = true
  ·rw [if_pos hh]; simp [hh]
  ·rw [if_neg hh]; simp [hh]
 ·rintro out rfl
  simp only [av2, dge, Bool.false_eq_true, if_false, aK8, List.take_length, aX9 (h.filter _), Option.bind_some, Option.map_some]
  rfl
theorem bd4 (name : Str) : ∀ (l : List aa3) (out : List Str), (aG9 name out l).length ≤ out.length + l.length
 | [], out => by simp [aG9]
 | x :: r, out => by
  rw [aG9]
  split
  ·have := bd4 name r (out ++ [(at1 name x.Attrs).1]); simp at this ⊢; omega
  ·have := bd4 name r out; simp; omega
theorem aY0 (name : Str) : ∀ (l : List aa3) (out : List Str), out.Nodup → (aG9 name out l).Nodup
 | [], out, h => h
 | x :: r, out, h => by
  rw [aG9]
  split
  ·rename_i hc
   refine aY0 name r _ ?_
   rw [List.nodup_append]
   refine ⟨h, by simp, ?_⟩
   intro a ha b hb e
   simp at hb
   rw [Bool.and_eq_true] at hc
   have h2 : out.contains (at1 name x.Attrs).1 = false := by simpa using hc.2
   have h3 : (at1 name x.Attrs).1 ∈ out := by rw [← hb, ← e]; exact ha
   rw [List.contains_iff_mem.2 h3] at h2
   cases h2
  ·exact aY0 name r out h
theorem bN9 (l : List aa3) (name : Str) : (aB9 l name).Nodup := aY0 name l [] List.nodup_nil
theorem aQ5 (l : List aa3) (name : Str) : (aB9 l name).length ≤ l.length := by
 have := bd4 name l []; simpa [aB9] using this
theorem bF1 {name : Str} : ∀ {l : List aa4}, (at1 name l).2 = true → ∃ a ∈ l, (at1 name l).1 = a.Value
 | [], h => by simp [at1] at h
 | a :: r, h => by
  by_cases hp : bg5 name a = true
  ·rw [bE8 hp]; exact ⟨a, by simp, rfl⟩
  ·rw [bt8 hp] at h ⊢
   obtain ⟨b, hb, he⟩ := bF1 h
   exact ⟨b, List.mem_cons_of_mem _ hb, he⟩
theorem aY1 {name : Str} {K : Nat} : ∀ (l : List aa3) (out : List Str), (∀ x ∈ l, ∀ a ∈ x.Attrs, a.Value.length ≤ K) → (∀ v ∈ out, v.length ≤ K) → ∀ v ∈ aG9 name out l, v.length ≤ K
 | [], out, _, h => h
 | x :: r, out, hl, h => by
  rw [aG9]
  split
  ·rename_i hc
   rw [Bool.and_eq_true] at hc
   refine aY1 r _ (fun y hy => hl y (List.mem_cons_of_mem _ hy)) ?_
   intro v hv
   rcases List.mem_append.1 hv with hv | hv
   ·exact h v hv
   ·simp at hv; subst hv
    obtain ⟨a, ha, he⟩ := bF1 hc.1
    rw [he]; exact hl x (by simp) a ha
  ·exact aY1 r _ (fun y hy => hl y (List.mem_cons_of_mem _ hy)) h
def okT (l : List aa3) : Prop := okD l ∧ ∀ x ∈ l, ∀ a ∈ x.Attrs, a.Value.length ≤ 5000
theorem a16 {l : List aa3} {name : Str} (h : okT l) : ∀ v ∈ aB9 l name, v.length ≤ 5000 := aY1 l [] h.2 (by simp)
theorem okT.filter {l : List aa3} (h : okT l) (p : aa3 → Bool) : okT (l.filter p) := ⟨h.1.filter p, fun x hx => h.2 x (List.mem_filter.1 hx).1⟩
theorem av6 {l : List aa3} {name value want : Str} (h : okT l) : ∀ v ∈ av5 l name value want, v.length ≤ 5000 := a16 (h.filter _)
theorem aY2 {l : List aa3} {name value want : Str} (h : okD l) : (av5 l name value want).length ≤ 1000 := by
 have := aQ5 (l.filter (bz4 name value)) want
 have := (h.filter (bz4 name value)).1
 unfold av5; omega
def aQ6 : Str := [110, 101, 116]
def bn9 : Str := [115, 101, 108, 102]
def aT9 : Str := [104, 111, 115, 116]
def a42 : Str := [97, 108, 105, 97, 115]
def an7 : Str := [115, 101, 114, 118, 105, 99, 101]
def aQ7 (l : List aa3) (name : Str) : List Str := (aB9 l aQ6).filter fun n => bN4 n && (!decide (n = aQ6) && (decide (name = aQ6) || decide (name = n)))
theorem a64 {p : Str → Bool} {xs : List Str} {body : Int × List Str → Option (Step (Int × List Str) (List Str))} (hx : xs.length ≤ 100000)
  (hb : ∀ (i : Nat) (out : List Str) (h : i < xs.length), out.length ≤ i → body ((i : Int), out) = if p xs[i] then some (.cont ((i : Int) + 1, out ++ [xs[i]])) else some (.cont ((i : Int) + 1, out)))
  (he : ∀ out, body ((xs.length : Int), out) = some (.done out)) : ab0 body (0, []) = some (xs.filter p) := by
 refine (ac5 (τ := Int × List Str) xs.length (fun (x : List Str) i => (i, x)) body (fun i x => x ++ (xs.drop i).filter p) (fun i x => x.length ≤ i) (s0 := []) (by simp) ?_ ?_).trans (by simp)
 ·intro out i hi hl
  left
  refine ⟨if p xs[i] then out ++ [xs[i]] else out, ?_, ?_, ?_⟩
  ·rw [hb i out hi hl]; split <;> rfl
  ·simp only [List.drop_eq_getElem_cons hi, List.filter_cons]
   split <;> simp
  ·split <;> (try simp) <;> omega
 ·intro out _
  simp [he]
theorem bO0 {l : List aa3} {name : Str} (h : okD l) : aH7 l name = some (aQ7 l name) := by
 unfold aH7 aQ7
 have hv : au0 l [110, 101, 116] = some (aB9 l aQ6) := bn8 h
 have hl := aQ5 l aQ6
 have h1 := h.1
 rw [hv, Option.bind_some]
 refine a64 (by omega) ?_ ?_
 ·intro i out hi hl2
  have hap : ∀ v, ar7 16 out [v] = some (out ++ [v]) := fun v => ac2 (by simp; omega) (by simp; omega)
  have hw : IntKind.wrap .i64 ((i : Int) + 1) = (i : Int) + 1 := aa8 (by omega)
  simp only [av9, dlt hi, if_true, aa6 hi, Option.bind_some, bU3, hap, hw]
  rfl
 ·intro out
  simp [av9]
theorem b01 {l : List aa3} (h : okT l) : aP8 l = some ((aB9 l aQ6).filter fun n => bN4 n && !decide (n = aQ6)) := by
 unfold aP8
 have hv : aq0 l [110, 101, 116] = some (aB9 l aQ6) := aX9 h.1
 have hl := aQ5 l aQ6
 have h1 := h.1.1
 have hsm := a16 (name := aQ6) h
 rw [hv, Option.bind_some]
 refine a64 (by omega) ?_ ?_
 ·intro i out hi hl2
  have hap : ∀ v, ar7 16 out [v] = some (out ++ [v]) := fun v => ac2 (by simp; omega) (by simp; omega)
  have hw : IntKind.wrap .i64 ((i : Int) + 1) = (i : Int) + 1 := aa8 (by omega)
  have := hsm _ (List.getElem_mem hi)
  simp only [aE5, dlt hi, if_true, aa6 hi, Option.bind_some, bF0 (s := (aB9 l aQ6)[i]) (by omega), hap, hw]
  change _ = if (bN4 (aB9 l aQ6)[i] && !decide ((aB9 l aQ6)[i] = [110, 101, 116])) = true then _ else _
  cases bN4 (aB9 l aQ6)[i] <;> by_cases hd : (aB9 l aQ6)[i] = [110, 101, 116] <;> simp [hd]
 ·intro out
  simp [aE5]
theorem bU4 (l : List aa3) : aQ7 l aQ6 = (aB9 l aQ6).filter fun n => bN4 n && !decide (n = aQ6) := by
 unfold aQ7
 congr 1
 funext n
 simp
theorem bd5 {p : Str → Bool} {a : Str} : ∀ {l : List Str}, l.Nodup → l.filter (fun n => p n && decide (a = n)) = if (l.filter p).contains a then [a] else []
 | [], _ => rfl
 | x :: r, h => by
  have hx := List.nodup_cons.1 h
  by_cases hp : p x = true
  ·by_cases hax : a = x
   ·subst hax
    have hr : r.filter (fun n => p n && decide (a = n)) = [] := by
     rw [List.filter_eq_nil_iff]
     intro n hn
     have : a ≠ n := fun e => hx.1 (e ▸ hn)
     simp [this]
    rw [List.filter_cons_of_pos (by simp [hp]), hr, List.filter_cons_of_pos hp]
    simp
   ·rw [List.filter_cons_of_neg (by simp [hax]), bd5 hx.2, List.filter_cons_of_pos hp]
    have : (a == x) = false := by simp [hax]
    rw [List.contains_cons, this, Bool.false_or]
  ·rw [List.filter_cons_of_neg (by simp [hp]), bd5 hx.2, List.filter_cons_of_neg hp]
theorem cj4 {l : List aa3} {name : Str} (h : name ≠ aQ6) : aQ7 l name = if (aQ7 l aQ6).contains name then [name] else [] := by
 rw [bU4, ← bd5 (bN9 l aQ6)]
 unfold aQ7
 congr 1
 funext n
 have : decide (name = aQ6) = false := by simpa using h
 rw [this, Bool.false_or, Bool.and_assoc]
theorem b94 {l : List aa3} {name n : Str} (h : n ∈ aQ7 l name) : n ∈ aB9 l aQ6 ∧ bN4 n = true ∧ n ≠ aQ6 ∧ (name = aQ6 ∨ name = n) := by
 unfold aQ7 at h
 obtain ⟨h1, h2⟩ := List.mem_filter.1 h
 simp only [Bool.and_eq_true, Bool.or_eq_true, decide_eq_true_eq, Bool.not_eq_true', decide_eq_false_iff_not] at h2
 exact ⟨h1, h2.1, h2.2.1, h2.2.2⟩
def aH0 (l : List aa3) (host name : Str) : List Str :=
 if name = [42] then [name] else if name = bn9 then (if aQ4 host then [host] else []) else if (aB9 l aT9).contains name then [name] else (av5 l a42 name aT9).filter aQ4
theorem bO1 {l : List Str} (hl : l.length ≤ 1000000) : ae5 l = some (l.filter aQ4) := by
 unfold ae5
 have hp1 : ∀ a, aF3 a = some (!aQ4 a) := by
  intro a; unfold aF3; rw [bn6]; rfl
 have hix : af0 l = some (aV2 (fun a => !aQ4 a) l) := by
  unfold af0
  refine aw9 hl ?_ ?_
  ·intro i hi
   simp only [ae4, dlt hi, if_true, aa6 hi, Option.bind_some, hp1]
  ·simp [ae4]
 rw [hix, Option.bind_some]
 rcases bE7 (fun a => !aQ4 a) l with ⟨h1, h2⟩ | ⟨i, h, h1, h2, h3⟩
 ·rw [h1, List.filter_eq_self.2 (fun a ha => by simpa using h2 a ha)]; rfl
 ·have : ¬ ((i : Int) = -1) := by omega
  rw [h1]
  simp only [this, decide_false, Bool.false_eq_true, if_false]
  have := cj1 (p := fun a => !aQ4 a) (body := fun s => ab2 s.1 s.2.1 s.2.2) hl (by
   intro i j s hi hj
   simp only [ab2, dlt hj, if_true, aa6 hj, aa6 hi, Option.bind_some, hp1, Int.toNat_natCast]) (by
   intro i s hi
   simp only [ab2, dge, Bool.false_eq_true, if_false, af7, a32 hi, Option.bind_some, Option.map_some]) h h2 h3
  rw [this]
  congr 2
  funext a
  simp
theorem cj5 {l : List aa3} {host name : Str} (h : okD l) : a03 l host name = some (aH0 l host name) := by
 unfold a03 aH0
 have hv : au0 l [104, 111, 115, 116] = some (aB9 l aT9) := bn8 h
 have hq : aw0 l [97, 108, 105, 97, 115] name [104, 111, 115, 116] = some (av5 l a42 name aT9) := bz5 h
 have hl := aQ5 l aT9
 have hl2 := aY2 (name := a42) (value := name) (want := aT9) h
 have h1 := h.1
 simp only [bn6, hv, hq, Option.bind_some, bn7 (l := aB9 l aT9) (v := name) (by omega), bO1 (l := av5 l a42 name aT9) (by omega)]
 by_cases h42 : name = [42]
 ·simp [h42]
 ·by_cases hs : name = [115, 101, 108, 102]
  ·have : name = bn9 := hs
   simp only [h42, hs, decide_false, decide_true, Bool.false_eq_true, if_false, if_true, Option.bind_some, show ([115, 101, 108, 102] : Str) = bn9 from rfl]
   have : ¬ (bn9 = [42]) := by decide
   simp only [this, if_false, if_true]
   cases aQ4 host <;> simp
  ·have hs2 : ¬ (name = bn9) := hs
   simp only [h42, hs, hs2, decide_false, Bool.false_eq_true, if_false, Option.bind_some]
   cases (aB9 l aT9).contains name <;> simp
theorem bO2 {l : List aa3} {host name : Str} (h : okT l) (hh : host.length ≤ 1000000) : aT0 l host name = some (aH0 l host name) := by
 unfold aT0 aH0
 have hv : aS9 l name = some ((aB9 l aT9).contains name) := by
  unfold aS9
  have : aq0 l [104, 111, 115, 116] = some (aB9 l aT9) := aX9 h.1
  have hl := aQ5 l aT9
  have h1 := h.1.1
  rw [this, Option.bind_some, b93 (by omega)]; rfl
 have hq : ar4 l [97, 108, 105, 97, 115] name [104, 111, 115, 116] = some (av5 l a42 name aT9) := a63 h.1
 have hl2 := aY2 (name := a42) (value := name) (want := aT9) h.1
 have hsm := av6 (name := a42) (value := name) (want := aT9) h
 have hk : ∀ xs : List Str, xs.length ≤ 100000 → (∀ v ∈ xs, v.length ≤ 1000000) → ay3 xs = some (xs.filter aQ4) := by
  intro xs hx hs
  unfold ay3
  refine a64 hx ?_ ?_
  ·intro i out hi hl2
   have hap : ∀ v, ar7 16 out [v] = some (out ++ [v]) := fun v => ac2 (by simp; omega) (by simp; omega)
   have hw : IntKind.wrap .i64 ((i : Int) + 1) = (i : Int) + 1 := aa8 (by omega)
   simp only [aB5, dlt hi, if_true, aa6 hi, Option.bind_some, bu0 (hs _ (List.getElem_mem hi)), hap, hw]
  ·intro out
   simp [aB5]
 have k1 := hk (av5 l a42 name aT9) (by omega) (fun v hv => by have := hsm v hv; omega)
 have k2 := hk [host] (by simp) (by simpa using hh)
 simp only [hv, hq, Option.bind_some, k1, k2]
 by_cases h42 : name = [42]
 ·simp [h42]
 ·by_cases hs : name = [115, 101, 108, 102]
  ·simp only [h42, hs, decide_false, decide_true, Bool.not_true, Bool.false_eq_true, if_false, if_true, Option.bind_some, show ([115, 101, 108, 102] : Str) = bn9 from rfl]
   have : ¬ (bn9 = [42]) := by decide
   simp only [this, if_false, if_true, List.filter_cons, List.filter_nil, decide_false, Bool.false_eq_true]
   cases aQ4 host <;> simp
  ·have hs2 : ¬ (name = bn9) := hs
   simp only [h42, hs, hs2, decide_false, Bool.not_false, Bool.false_eq_true, if_false, if_true, Option.bind_some]
   cases (aB9 l aT9).contains name <;> simp
def b95 (c : UInt8) : Bool := decide (48 ≤ (c.toNat : Int)) && decide ((c.toNat : Int) ≤ 57)
def dig (c : UInt8) : Int := (c.toNat : Int) - 48
def bq7 : Int → Str → Int × Int
 | n, [] => (n, 0)
 | n, c :: r => if b95 c && decide (n ≤ (65535 - dig c) / 10) then bq7 (n * 10 + dig c) r else (0, 5)
def cn9 (s : Str) : Int × Int := if decide (s = []) || (decide (1 < s.length) && (match s with | c :: _ => decide (c = 48) | [] => false)) then (0, 5) else bq7 0 s
theorem bF2 {c : UInt8} (h : b95 c = true) : 0 ≤ dig c ∧ dig c ≤ 9 := by
 unfold b95 at h
 rw [Bool.and_eq_true, decide_eq_true_eq, decide_eq_true_eq] at h
 unfold dig; omega
theorem co0 {d : Int} (h : 0 ≤ d ∧ d ≤ 9) : ce5 .i64 (IntKind.wrap .i64 (65535 - d)) 10 = some ((65535 - d) / 10) := by
 unfold ce5
 have hw : IntKind.wrap .i64 (65535 - d) = 65535 - d := ag4 (by omega) (by omega)
 have ht : (65535 - d).tdiv 10 = (65535 - d) / 10 := Int.tdiv_eq_ediv_of_nonneg (by omega)
 rw [if_neg (by decide), hw, ht, ag4 (by omega) (by omega)]
theorem bF3 {c : UInt8} (h : b95 c = true) : aJ8 (c.toNat : Int) = some (dig c) := by
 have key : ∀ c : UInt8, (!b95 c || decide (aJ8 (c.toNat : Int) = some (dig c))) = true := by
  intro c
  unfold aJ8 b95 dig
  have h := aZ9 (p := fun c : UInt8 => (!(decide (48 ≤ (c.toNat : Int)) && decide ((c.toNat : Int) ≤ 57)) || decide (IntKind.wrap .i64 (IntKind.wrap .u8 ((c.toNat : Int) - 48)) = (c.toNat : Int) - 48))) (by decide +kernel) c
  by_cases hd : (decide (48 ≤ (c.toNat : Int)) && decide ((c.toNat : Int) ≤ 57)) = true
  ·rw [hd] at h
   simp only [Bool.not_true, Bool.false_or, decide_eq_true_eq] at h
   simp [hd, h]
  ·simp [hd]
 have k := key c
 rw [h] at k
 simpa using k
theorem bO3 {c : UInt8} (h : b95 c = false) : ∃ x, aJ8 (c.toNat : Int) = some x ∧ 10 ≤ x := by
 unfold aJ8
 have h2 : (decide (48 ≤ (c.toNat : Int)) && decide ((c.toNat : Int) ≤ 57)) = false := h
 rw [h2]
 simp only [Bool.false_eq_true, if_false]
 by_cases hd : (decide (97 ≤ (c.toNat : Int)) && decide ((c.toNat : Int) ≤ 102)) = true
 ·rw [hd]
  have h3 := aZ9 (p := fun c : UInt8 => (!(decide (97 ≤ (c.toNat : Int)) && decide ((c.toNat : Int) ≤ 102)) || decide (10 ≤ IntKind.wrap .i64 ((IntKind.wrap .i64 (IntKind.wrap .u8 ((c.toNat : Int) - 97))) + 10)))) (by decide +kernel) c
  rw [hd] at h3
  simp only [Bool.not_true, Bool.false_or, decide_eq_true_eq] at h3
  exact ⟨_, rfl, h3⟩
 ·rw [Bool.eq_false_iff.2 hd]
  exact ⟨16, rfl, by omega⟩
theorem bF4 {c : UInt8} (h : b95 c = true) : aD2 (c.toNat : Int) = some (dig c) := by
 unfold aD2
 have h2 : (decide (48 ≤ (c.toNat : Int)) && decide ((c.toNat : Int) ≤ 57)) = true := h
 rw [h2]
 have h3 := aZ9 (p := fun c : UInt8 => (!(decide (48 ≤ (c.toNat : Int)) && decide ((c.toNat : Int) ≤ 57)) || decide (IntKind.wrap .i64 (IntKind.wrap .i64 (c.toNat : Int) - 48) = (c.toNat : Int) - 48))) (by decide +kernel) c
 rw [h2] at h3
 simp only [Bool.not_true, Bool.false_or, decide_eq_true_eq] at h3
 simp only [if_true, h3, dig]
theorem bO4 {c : UInt8} (h : b95 c = false) : ∃ x, aD2 (c.toNat : Int) = some x ∧ (x < 0 ∨ 10 ≤ x) := by
 unfold aD2
 have h2 : (decide (48 ≤ (c.toNat : Int)) && decide ((c.toNat : Int) ≤ 57)) = false := h
 rw [h2]
 simp only [Bool.false_eq_true, if_false]
 by_cases hd : (decide (97 ≤ (c.toNat : Int)) && decide ((c.toNat : Int) ≤ 102)) = true
 ·rw [hd]
  have h3 := aZ9 (p := fun c : UInt8 => (!(decide (97 ≤ (c.toNat : Int)) && decide ((c.toNat : Int) ≤ 102)) || decide (10 ≤ IntKind.wrap .i64 ((IntKind.wrap .i64 (IntKind.wrap .i64 (c.toNat : Int) - 97)) + 10)))) (by decide +kernel) c
  rw [hd] at h3
  simp only [Bool.not_true, Bool.false_or, decide_eq_true_eq] at h3
  exact ⟨_, rfl, .inr h3⟩
 ·rw [Bool.eq_false_iff.2 hd]
  exact ⟨-1, rfl, .inl (by omega)⟩
theorem b96 {n d : Int} (hn : 0 ≤ n) (hd : 0 ≤ d ∧ d ≤ 9) (h : n ≤ (65535 - d) / 10) : IntKind.wrap .i64 (IntKind.wrap .i64 (n * 10) + d) = n * 10 + d ∧ n * 10 + d ≤ 65535 := by
 have : n * 10 + d ≤ 65535 := by omega
 rw [ag4 (n := n * 10) (by omega) (by omega), ag4 (by omega) (by omega)]
 exact ⟨rfl, this⟩
theorem cs9 {s : Str} (hs : s.length ≤ 1000000) : ab0 (fun x => aw1 s 10 65535 x.1 x.2) (0, 0) = some (bq7 0 s) := by
 refine (ac5 (τ := Int × Int) s.length (fun (n : Int) i => (n, i)) (fun x => aw1 s 10 65535 x.1 x.2) (fun i n => bq7 n (s.drop i)) (fun _ n => 0 ≤ n ∧ n ≤ 65535) (s0 := 0) (by omega) ?_ ?_).trans rfl
 ·intro n i hi hn
  simp only [aw1, dlt hi, if_true, aj3 hi, Option.bind_some, List.drop_eq_getElem_cons hi, bq7]
  cases hd : b95 s[i] with
  | false =>
   obtain ⟨x, hx, h10⟩ := bO3 hd
   right
   simp [hx, h10]
  | true =>
   have hr := bF2 hd
   have h10 : ¬ (10 ≤ dig s[i]) := by omega
   have hq : ¬ (65535 < dig s[i]) := by omega
   simp only [bF3 hd, Option.bind_some, h10, decide_false, Bool.false_eq_true, if_false, co0 hr, Bool.true_and, hq]
   by_cases hle : n ≤ (65535 - dig s[i]) / 10
   ·have hlt : ¬ ((65535 - dig s[i]) / 10 < n) := by omega
    obtain ⟨e1, e2⟩ := b96 hn.1 hr hle
    left
    refine ⟨n * 10 + dig s[i], ?_, by simp [hle], by omega⟩
    simp only [hlt, decide_false, Bool.false_eq_true, if_false, Option.bind_some, e1]
    rw [aa8 (by omega)]
   ·have hlt : (65535 - dig s[i]) / 10 < n := by omega
    right
    simp [hlt, hle]
 ·intro n _
  simp [aw1, bq7]
theorem ct0 {s : Str} (hs : s.length ≤ 1000000) : ab0 (fun x => ap0 s 10 65535 x.1 x.2) (0, 0) = some (bq7 0 s) := by
 refine (ac5 (τ := Int × Int) s.length (fun (n : Int) i => (n, i)) (fun x => ap0 s 10 65535 x.1 x.2) (fun i n => bq7 n (s.drop i)) (fun _ n => 0 ≤ n ∧ n ≤ 65535) (s0 := 0) (by omega) ?_ ?_).trans rfl
 ·intro n i hi hn
  simp only [ap0, dlt hi, if_true, aj3 hi, Option.bind_some, List.drop_eq_getElem_cons hi, bq7]
  cases hd : b95 s[i] with
  | false =>
   obtain ⟨x, hx, h10⟩ := bO4 hd
   right
   rcases h10 with h | h
   ·simp [hx, h]
   ·by_cases h0 : x < 0 <;> simp [hx, h, h0]
  | true =>
   have hr := bF2 hd
   have h0 : ¬ (dig s[i] < 0) := by omega
   have h10 : ¬ (10 ≤ dig s[i]) := by omega
   have hq : ¬ (65535 < dig s[i]) := by omega
   simp only [bF4 hd, Option.bind_some, h0, h10, decide_false, Bool.false_eq_true, if_false, co0 hr, Bool.true_and, hq]
   by_cases hle : n ≤ (65535 - dig s[i]) / 10
   ·have hlt : ¬ ((65535 - dig s[i]) / 10 < n) := by omega
    obtain ⟨e1, e2⟩ := b96 hn.1 hr hle
    left
    refine ⟨n * 10 + dig s[i], ?_, by simp [hle], by omega⟩
    simp only [hlt, decide_false, Bool.false_eq_true, if_false, e1]
    rw [aa8 (by omega)]
   ·have hlt : (65535 - dig s[i]) / 10 < n := by omega
    right
    simp [hlt, hle]
 ·intro n _
  simp [ap0, bq7]
theorem is48 (c : UInt8) : decide ((c.toNat : Int) = 48) = decide (c = 48) := isC c 48
theorem cB2 {s : Str} (hs : s.length ≤ 1000000) : a94 s 10 65535 = some (cn9 s) := by
 unfold a94 cn9
 rw [cs9 hs]
 cases s with
 | nil => rfl
 | cons c r =>
  have hat : ai6 (c :: r) 0 = some c := rfl
  have hl : decide ((1 : Int) < (List.length (c :: r) : Int)) = decide (1 < (c :: r).length) := by rw [Bool.eq_iff_iff]; simp only [decide_eq_true_eq]; omega
  have hk : aW8 10 = some true := rfl
  simp only [hk, hat, hl, Option.bind_some, is48, reduceCtorEq, decide_false, Bool.false_or]
  cases decide (1 < (c :: r).length) <;> cases decide (c = 48) <;> simp
theorem b97 {s : Str} (hs : s.length ≤ 1000000) : aT1 s 10 65535 = some (cn9 s) := by
 unfold aT1 cn9
 rw [ct0 hs]
 cases s with
 | nil => rfl
 | cons c r =>
  have hat : ai6 (c :: r) 0 = some c := rfl
  have hl : decide ((1 : Int) < (List.length (c :: r) : Int)) = decide (1 < (c :: r).length) := by rw [Bool.eq_iff_iff]; simp only [decide_eq_true_eq]; omega
  have hk : aK9 10 = some true := rfl
  simp only [hk, hat, hl, Option.bind_some, is48, reduceCtorEq, decide_false, Bool.false_or]
  cases decide (1 < (c :: r).length) <;> cases decide (c = 48) <;> simp
def bF5 (s : Str) : Bool := decide ((cn9 s).2 = 0) && decide (0 < (cn9 s).1)
theorem bF6 {s : Str} (hs : s.length ≤ 1000000) : aJ9 s = some (bF5 s) := by
 unfold aJ9 bF5
 rw [cB2 hs]; rfl
theorem bu3 {s : Str} (hs : s.length ≤ 1000000) : aP9 s = some (bF5 s) := by
 unfold aP9 bF5
 rw [b97 hs]
 have : decide (1 ≤ (cn9 s).1) = decide (0 < (cn9 s).1) := by rw [Bool.eq_iff_iff]; simp only [decide_eq_true_eq]; omega
 rw [Option.bind_some, this]
def ap4 : List Str → Str
 | [] => []
 | p :: r => if bF5 p then p else ap4 r
def bF7 (l : List aa3) (net svc : Str) : Str := if bF5 svc then svc else ap4 (av5 l an7 svc net)
def aL5 (l : List aa3) (net svc : Str) : Str := if svc = [] then (match av5 l aQ6 net an7 with | [] => [] | x :: _ => bF7 l net x) else bF7 l net svc
theorem bU5 {l : List aa3} {net svc : Str} (h : okT l) (hs : svc.length ≤ 1000000) : aF4 l net svc = some (bF7 l net svc) := by
 unfold aF4 bF7
 have hq : aw0 l [115, 101, 114, 118, 105, 99, 101] svc net = some (av5 l an7 svc net) := bz5 h.1
 have hsm := av6 (name := an7) (value := svc) (want := net) h
 have hl := aY2 (name := an7) (value := svc) (want := net) h.1
 rw [bF6 hs, Option.bind_some, hq, Option.bind_some]
 generalize av5 l an7 svc net = xs at hsm hl
 have hloop : ab0 (fun s => aw2 xs s) 0 = some (ap4 xs) := by
  refine (ac5 xs.length (fun (_ : Unit) i => i) (fun s => aw2 xs s) (fun i _ => ap4 (xs.drop i)) (fun _ _ => True) (s0 := ()) trivial ?_ ?_).trans rfl
  ·intro _ i hi _
   have := hsm _ (List.getElem_mem hi)
   simp only [aw2, dlt hi, if_true, aa6 hi, Option.bind_some, bF6 (s := xs[i]) (by omega), List.drop_eq_getElem_cons hi, ap4]
   by_cases hp : bF5 xs[i] = true
   ·right; rw [if_pos hp, if_pos hp]
   ·left
    refine ⟨(), ?_, by rw [if_neg hp], trivial⟩
    rw [if_neg hp, aa8 (by omega)]
  ·intro _ _
   simp [aw2, ap4]
 rw [hloop]
 split <;> rfl
theorem bo0 {l : List aa3} {net svc : Str} (h : okT l) (hs : svc.length ≤ 1000000) : aB6 l net svc = some (bF7 l net svc) := by
 unfold aB6 bF7
 have hq : ar4 l [115, 101, 114, 118, 105, 99, 101] svc net = some (av5 l an7 svc net) := a63 h.1
 have hsm := av6 (name := an7) (value := svc) (want := net) h
 have hl := aY2 (name := an7) (value := svc) (want := net) h.1
 rw [bu3 hs, Option.bind_some, hq, Option.bind_some]
 generalize av5 l an7 svc net = xs at hsm hl
 have hloop : ab0 (fun s => as4 xs s) 0 = some (ap4 xs) := by
  refine (ac5 xs.length (fun (_ : Unit) i => i) (fun s => as4 xs s) (fun i _ => ap4 (xs.drop i)) (fun _ _ => True) (s0 := ()) trivial ?_ ?_).trans rfl
  ·intro _ i hi _
   have := hsm _ (List.getElem_mem hi)
   simp only [as4, dlt hi, if_true, aa6 hi, Option.bind_some, bu3 (s := xs[i]) (by omega), List.drop_eq_getElem_cons hi, ap4]
   by_cases hp : bF5 xs[i] = true
   ·right; rw [if_pos hp, if_pos hp]
   ·left
    refine ⟨(), ?_, by rw [if_neg hp], trivial⟩
    rw [if_neg hp, aa8 (by omega)]
  ·intro _ _
   simp [as4, ap4]
 rw [hloop]
 split <;> rfl
theorem ct1 {l : List aa3} {net svc : Str} (h : okT l) (hs : svc.length ≤ 1000000) : a95 l net svc = some (aL5 l net svc) := by
 unfold a95 aL5
 by_cases h0 : svc = []
 ·have hq : aw0 l [110, 101, 116] net [115, 101, 114, 118, 105, 99, 101] = some (av5 l aQ6 net an7) := bz5 h.1
  have hsm := av6 (name := aQ6) (value := net) (want := an7) h
  simp only [h0, decide_true, if_true, hq, Option.bind_some]
  generalize av5 l aQ6 net an7 = xs at hsm
  cases xs with
  | nil => rfl
  | cons x r =>
   have hx := hsm x (by simp)
   have hne : ¬ ((List.length (x :: r) : Int) = 0) := by simp only [List.length_cons]; omega
   have hat : aa9 (x :: r) 0 = some x := rfl
   simp only [hne, decide_false, Bool.false_eq_true, if_false, hat, Option.bind_some]
   exact bU5 h (by omega)
 ·simp only [h0, decide_false, Bool.false_eq_true, if_false]
  exact bU5 h hs
theorem bO5 {l : List aa3} {net svc : Str} (h : okT l) (hs : svc.length ≤ 1000000) : a10 l net svc = some (aL5 l net svc) := by
 unfold a10 aL5
 by_cases h0 : svc = []
 ·have hq : ar4 l [110, 101, 116] net [115, 101, 114, 118, 105, 99, 101] = some (av5 l aQ6 net an7) := a63 h.1
  have hsm := av6 (name := aQ6) (value := net) (want := an7) h
  simp only [h0, decide_true, if_true, hq, Option.bind_some]
  generalize av5 l aQ6 net an7 = xs at hsm
  cases xs with
  | nil => rfl
  | cons x r =>
   have hx := hsm x (by simp)
   have hne : ¬ ((List.length (x :: r) : Int) = 0) := by simp only [List.length_cons]; omega
   have hat : aa9 (x :: r) 0 = some x := rfl
   simp only [hne, decide_false, Bool.false_eq_true, if_false, hat, Option.bind_some]
   exact bo0 h (by omega)
 ·simp only [h0, decide_false, Bool.false_eq_true, if_false]
  exact bo0 h hs
def aj4 (l : List aa3) (svc : Str) (hs : List Str) (n : Str) : List aa2 := if aL5 l n svc = [] then [] else hs.map fun h => ⟨n, h, aL5 l n svc⟩
def ap5 (l : List aa3) (host : Str) (a : aa2) : List aa2 × Int :=
 if at0 a = false then ([], 36) else if aQ7 l a.Net = [] then ([], 37) else if aH0 l host a.Host = [] then ([], 38) else
 if (aQ7 l a.Net).flatMap (aj4 l a.Service (aH0 l host a.Host)) = [] then ([], 39) else ((aQ7 l a.Net).flatMap (aj4 l a.Service (aH0 l host a.Host)), 0)
theorem bi5 {l : List aa3} {svc : Str} {hs : List Str} {K : Nat} (hk : hs.length ≤ K) : ∀ ns : List Str, (ns.flatMap (aj4 l svc hs)).length ≤ ns.length * K
 | [] => by simp
 | n :: r => by
  rw [List.flatMap_cons, List.length_append, List.length_cons, Nat.add_mul, Nat.one_mul]
  have := bi5 (l := l) (svc := svc) hk r
  have : (aj4 l svc hs n).length ≤ K := by unfold aj4; split <;> simp; omega
  omega
theorem bo1 {l : List aa3} {name : Str} (h : okD l) : (aQ7 l name).length ≤ 1000 := by
 have h1 := aQ5 l aQ6
 have h2 := h.1
 have := List.length_filter_le (fun n => bN4 n && (!decide (n = aQ6) && (decide (name = aQ6) || decide (name = n)))) (aB9 l aQ6)
 unfold aQ7; omega
theorem bd6 {l : List aa3} {host name : Str} (h : okD l) : (aH0 l host name).length ≤ 1000 := by
 have h1 := aY2 (name := a42) (value := name) (want := aT9) h
 have := List.length_filter_le aQ4 (av5 l a42 name aT9)
 unfold aH0
 split
 ·simp
 ·split
  ·split <;> simp
  ·split
   ·simp
   ·omega
theorem bf7 {l : List aa3} {host : Str} {a : aa2} (h : okT l) (ha : a.Service.length ≤ 1000000) : as2 l host a = some (ap5 l host a) := by
 unfold as2 ap5
 have hn := bo1 (name := a.Net) h.1
 have hh := bd6 (host := host) (name := a.Host) h.1
 simp only [bi4, bO0 h.1, cj5 h.1, Option.bind_some]
 generalize aQ7 l a.Net = ns at hn
 generalize aH0 l host a.Host = hs at hh
 cases at0 a with
 | false => rfl
 | true =>
  simp only [Bool.not_true, Bool.false_eq_true, if_false, Bool.true_eq_false]
  by_cases h1 : ns = []
  ·simp [h1]
  ·have h1' : ¬ ((List.length ns : Int) = 0) := by have := List.length_pos_iff.2 h1; omega
   simp only [h1, h1', decide_false, Bool.false_eq_true, if_false]
   by_cases h2 : hs = []
   ·simp [h2]
   ·have h2' : ¬ ((List.length hs : Int) = 0) := by have := List.length_pos_iff.2 h2; omega
    simp only [h2, h2', decide_false, Bool.false_eq_true, if_false]
    refine (ac5 (τ := Int × List aa2) ns.length (fun (x : List aa2) i => (i, x)) (fun x => al9 l a ns hs x.1 x.2) (fun _ _ => if ns.flatMap (aj4 l a.Service hs) = [] then ([], 39) else (ns.flatMap (aj4 l a.Service hs), 0)) (fun i x => x = (ns.take i).flatMap (aj4 l a.Service hs)) (s0 := []) (by simp) ?_ ?_).trans rfl
    ·rintro out i hi rfl
     left
     have hw : IntKind.wrap .i64 ((i : Int) + 1) = (i : Int) + 1 := aa8 (by omega)
     have hlen := bi5 (l := l) (svc := a.Service) hh (ns.take i)
     have hlen2 : ((ns.take i).flatMap (aj4 l a.Service hs)).length ≤ 1000 * 1000 := Nat.le_trans hlen (Nat.mul_le_mul (by simp; omega) (Nat.le_refl _))
     refine ⟨(ns.take (i + 1)).flatMap (aj4 l a.Service hs), ?_, rfl, rfl⟩
     simp only [al9, dlt hi, if_true, aa6 hi, Option.bind_some, ct1 h ha]
     rw [List.take_succ_eq_append_getElem hi, List.flatMap_append]
     generalize (ns.take i).flatMap (aj4 l a.Service hs) = out at hlen2
     simp only [List.flatMap_cons, List.flatMap_nil, List.append_nil, aj4]
     by_cases hp : aL5 l ns[i] a.Service = []
     ·simp [hp, hw]
     ·simp only [hp, decide_false, Bool.false_eq_true, if_false]
      refine (ac5 (τ := Int × List aa2) hs.length (fun (x : List aa2) k => (k, x)) (fun x => al8 hs (i : Int) ns[i] (aL5 l ns[i] a.Service) x.1 x.2) (fun _ _ => Step.cont ((i : Int) + 1, out ++ hs.map fun h => ⟨ns[i], h, aL5 l ns[i] a.Service⟩)) (fun k x => x = out ++ (hs.take k).map fun h => ⟨ns[i], h, aL5 l ns[i] a.Service⟩) (s0 := out) (by simp) ?_ ?_).trans rfl
      ·rintro x k hk rfl
       left
       have hap : ∀ y, ar7 48 (out ++ (hs.take k).map fun h => (⟨ns[i], h, aL5 l ns[i] a.Service⟩ : aa2)) [y] = some ((out ++ (hs.take k).map fun h => ⟨ns[i], h, aL5 l ns[i] a.Service⟩) ++ [y]) := fun y => ac2 (by simp; omega) (by simp; omega)
       refine ⟨out ++ (hs.take (k + 1)).map fun h => ⟨ns[i], h, aL5 l ns[i] a.Service⟩, ?_, rfl, rfl⟩
       simp only [al8, dlt hk, if_true, aa6 hk, Option.bind_some, hap]
       rw [aa8 (by omega), List.take_succ_eq_append_getElem hk, List.map_append, List.append_assoc]
       rfl
      ·rintro x rfl
       simp only [al8, dge, Bool.false_eq_true, if_false, List.take_length, hw]
    ·rintro out rfl
     simp only [al9, dge, Bool.false_eq_true, if_false, aA5, List.take_length]
     by_cases hf : ns.flatMap (aj4 l a.Service hs) = []
     ·simp [hf]
     ·have : ¬ ((List.length (ns.flatMap (aj4 l a.Service hs)) : Int) = 0) := by have := List.length_pos_iff.2 hf; omega
      simp only [hf, this, decide_false, Bool.false_eq_true, if_false, Option.map_some]
theorem bf8 {l : List aa3} {host : Str} {a : aa2} {ns : List Str} (h : okT l) (ha : a.Service.length ≤ 1000000) (hho : host.length ≤ 1000000) (hn : ns.length ≤ 1000) : am6 l host a ns = some (if ns = [] then ([], 37) else if aH0 l host a.Host = [] then ([], 38) else
  if ns.flatMap (aj4 l a.Service (aH0 l host a.Host)) = [] then ([], 39) else (ns.flatMap (aj4 l a.Service (aH0 l host a.Host)), 0)) := by
 unfold am6
 have hh := bd6 (host := host) (name := a.Host) h.1
 simp only [bO2 h hho, Option.bind_some]
 generalize aH0 l host a.Host = hs at hh
 by_cases h1 : ns = []
 ·simp [h1]
 ·have h1' : ¬ ((List.length ns : Int) = 0) := by have := List.length_pos_iff.2 h1; omega
  simp only [h1, h1', decide_false, Bool.false_eq_true, if_false]
  by_cases h2 : hs = []
  ·simp [h2]
  ·have h2' : ¬ ((List.length hs : Int) = 0) := by have := List.length_pos_iff.2 h2; omega
   simp only [h2, h2', decide_false, Bool.false_eq_true, if_false]
   refine (ac5 (τ := Int × List aa2) ns.length (fun (x : List aa2) i => (i, x)) (fun x => al2 l a ns hs x.1 x.2) (fun _ _ => if ns.flatMap (aj4 l a.Service hs) = [] then ([], 39) else (ns.flatMap (aj4 l a.Service hs), 0)) (fun i x => x = (ns.take i).flatMap (aj4 l a.Service hs)) (s0 := []) (by simp) ?_ ?_).trans rfl
   ·rintro out i hi rfl
    left
    have hw : IntKind.wrap .i64 ((i : Int) + 1) = (i : Int) + 1 := aa8 (by omega)
    have hlen := bi5 (l := l) (svc := a.Service) hh (ns.take i)
    have hlen2 : ((ns.take i).flatMap (aj4 l a.Service hs)).length ≤ 1000 * 1000 := Nat.le_trans hlen (Nat.mul_le_mul (by simp; omega) (Nat.le_refl _))
    refine ⟨(ns.take (i + 1)).flatMap (aj4 l a.Service hs), ?_, rfl, rfl⟩
    simp only [al2, dlt hi, if_true, aa6 hi, Option.bind_some, bO5 h ha]
    rw [List.take_succ_eq_append_getElem hi, List.flatMap_append]
    generalize (ns.take i).flatMap (aj4 l a.Service hs) = out at hlen2
    simp only [List.flatMap_cons, List.flatMap_nil, List.append_nil, aj4]
    by_cases hp : aL5 l ns[i] a.Service = []
    ·simp only [hp, if_true, List.append_nil]
     refine aO6 ?_
     simp only [ai8, decide_true, Bool.not_true, Bool.and_false, Bool.false_eq_true, if_false, hw]
    ·simp only [hp, if_false]
     refine (ac5 (τ := Int × List aa2) hs.length (fun (x : List aa2) k => (k, x)) (fun x => ai8 ns hs (i : Int) (aL5 l ns[i] a.Service) x.1 x.2) (fun _ _ => Step.cont ((i : Int) + 1, out ++ hs.map fun h => ⟨ns[i], h, aL5 l ns[i] a.Service⟩)) (fun k x => x = out ++ (hs.take k).map fun h => ⟨ns[i], h, aL5 l ns[i] a.Service⟩) (s0 := out) (by simp) ?_ ?_).trans rfl
     ·rintro x k hk rfl
      left
      have hap : ∀ y, ar7 48 (out ++ (hs.take k).map fun h => (⟨ns[i], h, aL5 l ns[i] a.Service⟩ : aa2)) [y] = some ((out ++ (hs.take k).map fun h => ⟨ns[i], h, aL5 l ns[i] a.Service⟩) ++ [y]) := fun y => ac2 (by simp; omega) (by simp; omega)
      refine ⟨out ++ (hs.take (k + 1)).map fun h => ⟨ns[i], h, aL5 l ns[i] a.Service⟩, ?_, rfl, rfl⟩
      simp only [ai8, dlt hk, hp, decide_false, Bool.not_false, Bool.and_true, if_true, aa6 hi, aa6 hk, Option.bind_some, hap]
      rw [aa8 (by omega), List.take_succ_eq_append_getElem hk, List.map_append, List.append_assoc]
      rfl
     ·rintro x rfl
      simp only [ai8, dge, Bool.false_and, Bool.false_eq_true, if_false, List.take_length, hw]
   ·rintro out rfl
    simp only [al2, dge, Bool.false_eq_true, if_false, az2, List.take_length]
    by_cases hf : ns.flatMap (aj4 l a.Service hs) = []
    ·simp [hf]
    ·have : ¬ ((List.length (ns.flatMap (aj4 l a.Service hs)) : Int) = 0) := by have := List.length_pos_iff.2 hf; omega
     simp only [hf, this, decide_false, Bool.false_eq_true, if_false, Option.map_some]
theorem aY3 {l : List aa3} {host : Str} {a : aa2} (h : okT l) (h1 : a.Net.length ≤ 1000000) (h2 : a.Host.length ≤ 1000000) (ha : a.Service.length ≤ 1000000) (hho : host.length ≤ 1000000) : av3 l host a = some (ap5 l host a) := by
 unfold av3 ap5
 rw [aT8 h1 h2 ha, Option.bind_some]
 have hn := bo1 (name := aQ6) h.1
 have hN : aP8 l = some (aQ7 l aQ6) := by rw [b01 h, bU4]
 cases at0 a with
 | false => rfl
 | true =>
  simp only [Bool.not_true, Bool.false_eq_true, if_false, Bool.true_eq_false, hN, Option.bind_some]
  by_cases hnet : a.Net = aQ6
  ·have hnet' : a.Net = [110, 101, 116] := hnet
   simp only [hnet', decide_true, Bool.not_true, Bool.false_eq_true, if_false, bf8 (host := host) (a := a) h ha hho hn]
   rfl
  ·have hnet' : ¬ (a.Net = [110, 101, 116]) := hnet
   simp only [hnet', decide_false, Bool.not_false, if_true, b93 (l := aQ7 l aQ6) (v := a.Net) (by omega), Option.bind_some, bf8 (host := host) (a := a) (ns := [a.Net]) h ha hho (by simp)]
   rw [cj4 hnet]
   cases (aQ7 l aQ6).contains a.Net <;> simp
def bf9 : Str → List aa3 → Str × Int
 | acc, [] => (acc, 0)
 | acc, x :: r => if decide (x.Attrs = []) || x.Attrs.any (·.Query) then ([], 2) else if bM8 x.Attrs ≠ 0 then ([], bM8 x.Attrs) else bf9 (acc ++ (aC1 x.Attrs ++ [10])) r
def bq8 (l : List aa3) : Str × Int := if 256 < l.length then ([], 22) else bf9 [] l
def okX (l : List aa3) : Prop := l.length ≤ 300 ∧ ∀ x ∈ l, okL x.Attrs
theorem bF8 {l : List aa4} (h : okL l) : (aC1 l).length ≤ 75020000 := by
 have := bn5 h l.length
 rw [List.take_length] at this
 exact this
theorem ct2 {l : List aa3} (h : okX l) : aX3 l = some (bq8 l) := by
 unfold aX3 bq8
 by_cases h0 : 256 < l.length
 ·have : (256 : Int) < (List.length l : Int) := by omega
  simp [h0, this]
 ·have : ¬ ((256 : Int) < (List.length l : Int)) := by omega
  simp only [h0, this, decide_false, Bool.false_eq_true, if_false]
  refine (ac5 (τ := Int × Str) l.length (fun (x : Str) i => (i, x)) (fun x => aA9 l x.1 x.2) (fun i x => bf9 x (l.drop i)) (fun i x => x.length ≤ i * 75020001) (s0 := []) (by simp) ?_ ?_).trans rfl
  ·intro acc i hi hl
   have hok := h.2 _ (List.getElem_mem hi)
   have h1 := hok.1
   have hp := bF8 hok
   have hb : i * 75020001 ≤ 256 * 75020001 := Nat.mul_le_mul (by omega) (Nat.le_refl _)
   have c1 : ax3 (aC1 l[i].Attrs) [10] = some (aC1 l[i].Attrs ++ [10]) := ac3 (by simp; omega)
   have c2 : bAdd acc (aC1 l[i].Attrs ++ [10]) = some (acc ++ (aC1 l[i].Attrs ++ [10])) := bZ3 (by simp; omega)
   have hw : IntKind.wrap .i64 ((i : Int) + 1) = (i : Int) + 1 := aa8 (by omega)
   have hz : decide ((List.length l[i].Attrs : Int) = 0) = decide (l[i].Attrs = []) := by
    rw [Bool.eq_iff_iff]; simp only [decide_eq_true_eq]
    rw [← List.length_eq_zero_iff]; omega
   simp only [aA9, dlt hi, if_true, aa6 hi, Option.bind_some, cs8 (l := l[i].Attrs) (by omega), ci9 hok, hz, hw, List.drop_eq_getElem_cons hi, bf9]
   cases hd : decide (l[i].Attrs = []) with
   | true => right; simp
   | false =>
    cases hq : l[i].Attrs.any (·.Query) with
    | true => right; simp
    | false =>
     by_cases hc : bM8 l[i].Attrs = 0
     ·left
      refine ⟨acc ++ (aC1 l[i].Attrs ++ [10]), ?_, ?_, ?_⟩
      ·simp [hc, c1, c2]
      ·simp [hc]
      ·simp only [List.length_append, List.length_cons, List.length_nil]; omega
     ·right; simp [hc]
  ·intro acc _
   simp [aA9, bf9]
theorem b02 {l : List aa3} (h : okX l) : a09 l = some (bq8 l) := by
 unfold a09 bq8
 by_cases h0 : 256 < l.length
 ·have : (256 : Int) < (List.length l : Int) := by omega
  simp [h0, this]
 ·have : ¬ ((256 : Int) < (List.length l : Int)) := by omega
  simp only [h0, this, decide_false, Bool.false_eq_true, if_false]
  refine (ac5 (τ := Str × Int) l.length (fun (x : Str) i => (x, i)) (fun x => ay1 l x.1 x.2) (fun i x => bf9 x (l.drop i)) (fun i x => x.length ≤ i * 75020001) (s0 := []) (by simp) ?_ ?_).trans rfl
  ·intro acc i hi hl
   have hok := h.2 _ (List.getElem_mem hi)
   have h1 := hok.1
   have hp := bF8 hok
   have hb : i * 75020001 ≤ 256 * 75020001 := Nat.mul_le_mul (by omega) (Nat.le_refl _)
   have c1 : ax3 acc (aC1 l[i].Attrs) = some (acc ++ aC1 l[i].Attrs) := ac3 (by omega)
   have c2 : ax3 (acc ++ aC1 l[i].Attrs) [10] = some (acc ++ aC1 l[i].Attrs ++ [10]) := ac3 (by simp; omega)
   have hw : IntKind.wrap .i64 ((i : Int) + 1) = (i : Int) + 1 := aa8 (by omega)
   have hz : decide ((List.length l[i].Attrs : Int) = 0) = decide (l[i].Attrs = []) := by
    rw [Bool.eq_iff_iff]; simp only [decide_eq_true_eq]
    rw [← List.length_eq_zero_iff]; omega
   simp only [ay1, dlt hi, if_true, aa6 hi, Option.bind_some, b00 (l := l[i].Attrs) (by omega), bN2 hok, hz, hw, List.drop_eq_getElem_cons hi, bf9]
   cases hd : decide (l[i].Attrs = []) with
   | true => right; simp
   | false =>
    cases hq : l[i].Attrs.any (·.Query) with
    | true => right; simp
    | false =>
     by_cases hc : bM8 l[i].Attrs = 0
     ·left
      refine ⟨acc ++ (aC1 l[i].Attrs ++ [10]), ?_, ?_, ?_⟩
      ·simp [hc, c1, c2]
      ·simp [hc]
      ·simp only [List.length_append, List.length_cons, List.length_nil]; omega
     ·right; simp [hc]
  ·intro acc _
   simp [ay1, bf9]
def good (x : aa3) : Prop := x.Attrs ≠ [] ∧ bM8 x.Attrs = 0 ∧ x.Attrs.any (·.Query) = false
theorem b98 {d : Nat} (h : d < 10) : cut ([48, 49, 50, 51, 52, 53, 54, 55, 56, 57, 97, 98, 99, 100, 101, 102] : Str) (d : Int) ((d : Int) + 1) = some [UInt8.ofNat (48 + d)] := by
 rcases (by omega : d = 0 ∨ d = 1 ∨ d = 2 ∨ d = 3 ∨ d = 4 ∨ d = 5 ∨ d = 6 ∨ d = 7 ∨ d = 8 ∨ d = 9) with rfl | rfl | rfl | rfl | rfl | rfl | rfl | rfl | rfl | rfl <;> rfl
theorem cj6 (u : Nat) (h : ¬ u < 10) : Go.Lib.decDigits u = Go.Lib.decDigits (u / 10) ++ [UInt8.ofNat (48 + u % 10)] := by
 rw [Go.Lib.decDigits, dif_neg h]
def cz2 (u : Nat) (s : Str) : Str := if u = 0 ∧ s ≠ [] then s else Go.Lib.decDigits u ++ s
theorem b99 (u : Nat) (s : Str) (h : ¬ (u = 0 ∧ s ≠ [])) : cz2 u s = cz2 (u / 10) (UInt8.ofNat (48 + u % 10) :: s) := by
 unfold cz2
 rw [if_neg h]
 by_cases h10 : u < 10
 ·have : u / 10 = 0 := by omega
  rw [this, if_pos ⟨rfl, by simp⟩, Go.Lib.decDigits_one h10, Nat.mod_eq_of_lt h10]; rfl
 ·rw [if_neg (by omega), cj6 u h10, List.append_assoc]; rfl
theorem bd7 {u : Nat} {s : Str} (h : ¬ (u = 0 ∧ s ≠ [])) (hu : u ≤ 9223372036854775808) (hs : s.length ≤ 100) : ap1 10 (-(u : Int)) s = some (.cont (-((u / 10 : Nat) : Int), UInt8.ofNat (48 + u % 10) :: s)) := by
 unfold ap1
 have hc : (decide (-(u : Int) < 0) || decide (s = [])) = true := by
  rcases Nat.eq_zero_or_pos u with h0 | h0
  ·have : s = [] := Classical.byContradiction fun e => h ⟨h0, e⟩
   simp [this]
  ·have hn : -(u : Int) < 0 := by omega
   rw [decide_eq_true hn]; rfl
 have e1 : Int.tmod (-(u : Int)) 10 = -((u % 10 : Nat) : Int) := by rw [Int.neg_tmod]; rfl
 have e2 : Int.tdiv (-(u : Int)) 10 = -((u / 10 : Nat) : Int) := by rw [Int.neg_tdiv]; rfl
 have e3 : IntKind.wrap .i64 (0 - -((u % 10 : Nat) : Int)) = ((u % 10 : Nat) : Int) := by rw [ag4 (by omega) (by omega)]; omega
 have e4 : IntKind.wrap .i64 (((u % 10 : Nat) : Int) + 1) = ((u % 10 : Nat) : Int) + 1 := ag4 (by omega) (by omega)
 have e5 : IntKind.wrap .i64 (-((u / 10 : Nat) : Int)) = -((u / 10 : Nat) : Int) := ag4 (by omega) (by omega)
 rw [if_pos hc]
 unfold remI ce5
 rw [if_neg (by decide), if_neg (by decide), Option.bind_some, e1, e3, e4, b98 (by omega), Option.bind_some]
 rw [ac3 (by simp; omega), Option.bind_some, Option.bind_some, e2, e5]
 rfl
theorem ca0 {u n : Nat} (h1 : u * 10 ^ n ≤ 9223372036854775808) (h2 : 0 < u) : n ≤ 18 := by
 rcases Nat.lt_or_ge 18 n with h | h
 ·have h3 : 10 ^ 19 ≤ 10 ^ n := Nat.pow_le_pow_right (by omega) h
  have h4 : 1 * 10 ^ n ≤ u * 10 ^ n := Nat.mul_le_mul_right _ h2
  omega
 ·exact h
theorem aY4 {u : Nat} (hu : u ≤ 9223372036854775808) : aF7 (-(u : Int)) 10 = some (Go.Lib.decDigits u) := by
 unfold aF7
 refine (bt4 (σ := Nat × Str) (fun s => ap1 10 s.1 s.2) (fun s => (-(s.1 : Int), s.2)) (fun s => cz2 s.1 s.2) (fun s => s.1 + (if s.2 = [] then 1 else 0)) (fun s => s.1 * 10 ^ s.2.length ≤ 9223372036854775808 ∧ s.2.length ≤ 20) (fun s hs => ?_) (s0 := (u, [])) ⟨by simpa using hu, by simp⟩).trans ?_
 ·obtain ⟨v, s⟩ := s
  obtain ⟨h1, h2⟩ := hs
  simp only at h1 h2 ⊢
  have hv : v ≤ 9223372036854775808 := by
   have : v * 1 ≤ v * 10 ^ s.length := Nat.mul_le_mul_left _ (Nat.one_le_pow _ _ (by omega))
   omega
  by_cases h : v = 0 ∧ s ≠ []
  ·right
   unfold ap1 cz2
   rw [if_pos h, h.1]
   have hs' : decide (s = []) = false := by simpa using h.2
   simp [hs', h.2]
  ·left
   refine ⟨(v / 10, UInt8.ofNat (48 + v % 10) :: s), bd7 h hv (by omega), b99 v s h, ⟨?_, ?_⟩, ?_⟩
   ·simp only [List.length_cons, Nat.pow_succ]
    have e : v / 10 * (10 ^ s.length * 10) = v / 10 * 10 * 10 ^ s.length := by rw [Nat.mul_comm (10 ^ s.length) 10, Nat.mul_assoc]
    rw [e]
    exact Nat.le_trans (Nat.mul_le_mul_right _ (Nat.div_mul_le_self v 10)) h1
   ·simp only [List.length_cons]
    by_cases hs' : s = []
    ·subst hs'; simp
    ·have : 0 < v := Nat.pos_of_ne_zero fun e => h ⟨e, hs'⟩
     have := ca0 h1 this
     omega
   ·simp only [reduceCtorEq, if_false]
    by_cases hs' : s = []
    ·rw [if_pos hs']; omega
    ·rw [if_neg hs']
     have : 0 < v := Nat.pos_of_ne_zero fun e => h ⟨e, hs'⟩
     omega
 ·unfold cz2; simp
theorem ba2 {n : Int} (h0 : -9223372036854775808 ≤ n) (h1 : n ≤ 9223372036854775807) : aD3 n 10 = some (Go.Lib.itoa n) := by
 unfold aD3 aK9 Go.Lib.itoa
 by_cases hn : n < 0
 ·have e : n = -((n.natAbs : Nat) : Int) := by omega
  have hd := aY4 (u := n.natAbs) (by omega)
  rw [← e] at hd
  have hl := Go.Lib.itoa_length_le n h0 h1
  unfold Go.Lib.itoa at hl
  rw [if_pos hn] at hl
  simp only [List.length_cons] at hl
  simp [hn, hd, ac3 (a := [45]) (b := Go.Lib.decDigits n.natAbs) (by simp; omega)]
 ·have hw : IntKind.wrap .i64 (0 - n) = -((n.toNat : Nat) : Int) := by rw [ag4 (by omega) (by omega)]; omega
  have hd := aY4 (u := n.toNat) (by omega)
  rw [hw, hd]
  simp [hn]
theorem a65 {n : Int} (h0 : -9223372036854775808 ≤ n) (h1 : n ≤ 9223372036854775807) : a01 n 10 = some (Go.Lib.itoa n) := by
 unfold a01 aW8 aC6 aZ8
 rw [if_pos ⟨rfl, h0, h1⟩]; rfl
theorem bU6 {n : Int} (h0 : -9223372036854775808 ≤ n) (h1 : n ≤ 9223372036854775807) : (Go.Lib.itoa n).length ≤ 21 := Go.Lib.itoa_length_le n h0 h1
def ce6 (c : UInt8) : Bool := (decide ((c.toNat : Int) = 32)) || ((decide ((c.toNat : Int) = 9)) || ((decide ((c.toNat : Int) = 10)) || (decide ((c.toNat : Int) = 13))))
def bB0 : Str → Str → List Str
 | [], [] => []
 | a :: l, [] => [a :: l]
 | [], c :: r => if ce6 c = true then bB0 [] r else bB0 [c] r
 | a :: l, c :: r => if ce6 c = true then (a :: l) :: bB0 [] r else bB0 (a :: l ++ [c]) r
def aD6 (s : Str) : List Str := bB0 [] s
theorem bi6 {cur r : Str} {c : UInt8} (h : ce6 c = true) : bB0 cur (c :: r) = (if cur = [] then [] else [cur]) ++ bB0 [] r := by
 cases cur with
 | nil => simp [bB0, h]
 | cons a l => simp [bB0, h]
theorem bO6 {cur r : Str} {c : UInt8} (h : ce6 c = false) : bB0 cur (c :: r) = bB0 (cur ++ [c]) r := by
 cases cur with
 | nil => simp [bB0, h]
 | cons a l => simp [bB0, h]
theorem bi7 (cur : Str) : bB0 cur [] = if cur = [] then [] else [cur] := by
 cases cur <;> simp [bB0]
theorem bo2 {s : Str} {k i : Nat} (hk : k ≤ i) (hi : i < s.length) : (s.take (i + 1)).drop k = (s.take i).drop k ++ [s[i]] := by
 rw [List.take_succ_eq_append_getElem hi, List.drop_append_of_le_length (by simp; omega)]
def cB3 (s : Str) (f : Int) (i : Nat) : Str := if f < 0 then [] else (s.take i).drop f.toNat
theorem aU0 {s : Str} (h : s.length ≤ 100000) : aI5 s = some (aD6 s) := by
 unfold aI5
 have hm : s.length ≤ maxLen := by unfold maxLen; omega
 refine (ac5 (σ := Int × List Str) (τ := Int × Int × List Str) s.length (fun a i => (a.1, i, a.2)) (fun a => aj1 s a.1 a.2.1 a.2.2) (fun i a => a.2 ++ bB0 (cB3 s a.1 i) (s.drop i))
  (fun i a => (a.1 = -1 ∨ (0 ≤ a.1 ∧ a.1 < (i : Int))) ∧ a.2.length ≤ i) (s0 := (-1, [])) ⟨.inl rfl, by simp⟩ ?_ ?_).trans ?_
 ·rintro ⟨f, out⟩ i hi ⟨hf, ho⟩
  simp only at hf ho
  left
  have hlt : (i : Int) < (List.length s : Int) := by omega
  have hk29 : ∀ b : Bool, an0 s f (i : Int) out b = some (.cont (if b = true then (-1, ((i : Int) + 1), if f < 0 then out else out ++ [(s.take i).drop f.toNat]) else (if f < 0 then (i : Int) else f, ((i : Int) + 1), out))) := by
   intro b
   unfold an0
   rw [b74 hi hm]
   cases b with
   | true =>
    by_cases h0 : 0 ≤ f
    ·have hn : ¬ f < 0 := by omega
     have hc : cut s f (i : Int) = some ((s.take i).drop f.toNat) := by
      have := aW6 (l := s) (a := f.toNat) (b := i) (by omega) (by omega)
      rw [show ((f.toNat : Nat) : Int) = f by omega] at this
      exact this
     simp only [if_true, decide_eq_true h0, hc, Option.bind_some, if_neg hn]
     rw [ac2 (by simp; omega) (by simp; omega), Option.bind_some]
    ·have hn : f < 0 := by omega
     simp [h0, hn]
   | false =>
    by_cases h0 : f < 0
    ·simp [h0]
    ·simp [h0]
  have hstep : aj1 s f (i : Int) out = some (.cont (if ce6 s[i] = true then (-1, ((i : Int) + 1), if f < 0 then out else out ++ [(s.take i).drop f.toNat]) else (if f < 0 then (i : Int) else f, ((i : Int) + 1), out))) := by
   unfold aj1
   simp only [decide_eq_true hlt, if_true, aj3 hi, Option.bind_some, hk29]
   unfold ce6
   cases decide ((s[i].toNat : Int) = 32) <;> cases decide ((s[i].toNat : Int) = 9) <;> cases decide ((s[i].toNat : Int) = 10) <;> cases decide ((s[i].toNat : Int) = 13) <;> rfl
  have hd : s.drop i = s[i] :: s.drop (i + 1) := List.drop_eq_getElem_cons hi
  cases hs : ce6 s[i] with
  | true =>
   refine ⟨(-1, if f < 0 then out else out ++ [(s.take i).drop f.toNat]), ?_, ?_, .inl rfl, ?_⟩
   ·show aj1 s f (i : Int) out = _
    rw [hstep, hs]; simp
   ·simp only
    rw [hd, bi6 hs]
    unfold cB3
    rcases hf with hf | ⟨h1, h2⟩
    ·simp [hf]
    ·have hn : ¬ f < 0 := by omega
     have hne : (s.take i).drop f.toNat ≠ [] := by
      intro e
      have := congrArg List.length e
      simp at this; omega
     simp [hn, hne]
   ·simp only
    split
    ·omega
    ·simp; omega
  | false =>
   refine ⟨(if f < 0 then (i : Int) else f, out), ?_, ?_, .inr ?_, by simp only; omega⟩
   ·show aj1 s f (i : Int) out = _
    rw [hstep, hs]; simp
   ·simp only
    rw [hd, bO6 hs]
    unfold cB3
    rcases hf with hf | ⟨h1, h2⟩
    ·have hni : ¬ ((i : Int) < 0) := by omega
     have e := bo2 (s := s) (k := i) (i := i) (Nat.le_refl _) hi
     have e0 : (s.take i).drop i = [] := List.drop_of_length_le (by simp; omega)
     rw [e0] at e
     simp [hf, hni, e]
    ·have hn : ¬ f < 0 := by omega
     simp only [hn, if_false]
     rw [bo2 (by omega) hi]
   ·simp only
    split <;> omega
 ·rintro ⟨f, out⟩ ⟨hf, ho⟩
  simp only at hf ho
  show aj1 s f (s.length : Int) out = _
  unfold aj1 aN5
  have hn : ¬ ((s.length : Int) < (List.length s : Int)) := by omega
  simp only [decide_eq_false hn, Bool.false_eq_true, if_false, List.drop_length, bi7]
  unfold cB3
  rcases hf with hf | ⟨h1, h2⟩
  ·simp [hf]
  ·have hn : ¬ f < 0 := by omega
   have hc : cut s f (List.length s : Int) = some ((s.take s.length).drop f.toNat) := by
    have := aW6 (l := s) (a := f.toNat) (b := s.length) (by omega) (by omega)
    rw [show ((f.toNat : Nat) : Int) = f by omega] at this
    exact this
   have hne : (s.take s.length).drop f.toNat ≠ [] := by
    intro e
    have := congrArg List.length e
    simp at this; omega
   simp only [decide_eq_true h1, if_true, hc, Option.bind_some, if_neg hn, if_neg hne]
   rw [ac2 (by simp; omega) (by simp; omega)]; rfl
 ·simp [aD6, cB3]
theorem aY5 {s : Str} (h : s.length ≤ 100000) : az5 s = some (aD6 s) := by
 unfold az5
 have hm : s.length ≤ maxLen := by unfold maxLen; omega
 refine (ac5 (σ := Nat × List Str) (τ := Int × Int × List Str) (s.length + 1) (fun a i => ((a.1 : Int), i, a.2)) (fun a => ac6 s a.1 a.2.1 a.2.2) (fun i a => if i = s.length + 1 then a.2 else a.2 ++ bB0 ((s.take i).drop a.1) (s.drop i))
  (fun i a => a.1 ≤ i ∧ a.2.length ≤ i) (s0 := (0, [])) ⟨by simp, by simp⟩ ?_ ?_).trans ?_
 ·rintro ⟨f, out⟩ i hi ⟨hf, ho⟩
  simp only at hf ho
  left
  have hle : (i : Int) ≤ (List.length s : Int) := by omega
  have hw : IntKind.wrap .i64 ((i : Int) + 1) = ((i + 1 : Nat) : Int) := by rw [ag4 (by omega) (by omega)]; omega
  have hcut : cut s (f : Int) (i : Int) = some ((s.take i).drop f) := aW6 hf (by omega)
  have happ : ar7 16 out [(s.take i).drop f] = some (out ++ [(s.take i).drop f]) := ac2 (by simp; omega) (by simp; omega)
  have hlen : ((s.take i).drop f).length = i - f := by simp; omega
  by_cases hlt : i < s.length
  ·have hlt' : (i : Int) < (List.length s : Int) := by omega
   have hd : s.drop i = s[i] :: s.drop (i + 1) := List.drop_eq_getElem_cons hlt
   have hsep : aK6 (s[i].toNat : Int) = some (ce6 s[i]) := rfl
   cases hs : ce6 s[i] with
   | false =>
    refine ⟨(f, out), ?_, ?_, by simp only; omega, by simp only; omega⟩
    ·show ac6 s (f : Int) (i : Int) out = _
     unfold ac6
     simp only [decide_eq_true hle, decide_eq_true hlt', if_true, aj3 hlt, Option.bind_some, hsep, hs, Bool.not_false, hw]
     rfl
    ·simp only
     rw [if_neg (by omega), if_neg (by omega), hd, bO6 hs, bo2 hf hlt]
   | true =>
    by_cases hfi : f < i
    ·have hfi' : (f : Int) < (i : Int) := by omega
     refine ⟨(i + 1, out ++ [(s.take i).drop f]), ?_, ?_, by simp only; omega, by simp; omega⟩
     ·show ac6 s (f : Int) (i : Int) out = _
      unfold ac6
      simp only [decide_eq_true hle, decide_eq_true hlt', if_true, aj3 hlt, Option.bind_some, hsep, hs, Bool.not_true, Bool.false_eq_true, if_false, decide_eq_true hfi', hcut, happ, hw]
      rfl
     ·simp only
      have hne : (s.take i).drop f ≠ [] := by
       intro e; rw [e] at hlen; simp at hlen; omega
      have e0 : (s.take (i + 1)).drop (i + 1) = [] := List.drop_of_length_le (by simp; omega)
      rw [if_neg (by omega), if_neg (by omega), hd, bi6 hs, if_neg hne, e0, List.append_assoc]
    ·have hfi' : ¬ (f : Int) < (i : Int) := by omega
     refine ⟨(i + 1, out), ?_, ?_, by simp only; omega, by simp only; omega⟩
     ·show ac6 s (f : Int) (i : Int) out = _
      unfold ac6
      simp only [decide_eq_true hle, decide_eq_true hlt', if_true, aj3 hlt, Option.bind_some, hsep, hs, Bool.not_true, Bool.false_eq_true, if_false, decide_eq_false hfi', hw]
      rfl
     ·simp only
      have he : (s.take i).drop f = [] := List.length_eq_zero_iff.1 (by omega)
      have e0 : (s.take (i + 1)).drop (i + 1) = [] := List.drop_of_length_le (by simp; omega)
      rw [if_neg (by omega), if_neg (by omega), hd, bi6 hs, he, e0]
      simp
  ·have hi2 : i = s.length := by omega
   have hlt' : ¬ (i : Int) < (List.length s : Int) := by omega
   by_cases hfi : f < i
   ·have hfi' : (f : Int) < (i : Int) := by omega
    refine ⟨(i + 1, out ++ [(s.take i).drop f]), ?_, ?_, by simp only; omega, by simp; omega⟩
    ·show ac6 s (f : Int) (i : Int) out = _
     unfold ac6
     simp only [decide_eq_true hle, decide_eq_false hlt', if_true, Option.bind_some, Bool.false_eq_true, if_false, decide_eq_true hfi', hcut, happ, hw]
     rfl
    ·simp only
     have hne : (s.take i).drop f ≠ [] := by
      intro e; rw [e] at hlen; simp at hlen; omega
     have ed : s.drop i = [] := List.drop_of_length_le (by omega)
     rw [if_neg (by omega), if_pos (by omega), ed, bi7, if_neg hne]
   ·have hfi' : ¬ (f : Int) < (i : Int) := by omega
    refine ⟨(i + 1, out), ?_, ?_, by simp only; omega, by simp only; omega⟩
    ·show ac6 s (f : Int) (i : Int) out = _
     unfold ac6
     simp only [decide_eq_true hle, decide_eq_false hlt', if_true, Option.bind_some, Bool.false_eq_true, if_false, decide_eq_false hfi', hw]
     rfl
    ·simp only
     have he : (s.take i).drop f = [] := List.length_eq_zero_iff.1 (by omega)
     have ed : s.drop i = [] := List.drop_of_length_le (by omega)
     rw [if_neg (by omega), if_pos (by omega), ed, bi7, if_pos he, List.append_nil]
 ·rintro ⟨f, out⟩ ⟨hf, ho⟩
  have : ¬ (((s.length + 1 : Nat) : Int) ≤ (List.length s : Int)) := by omega
  show ac6 s (f : Int) ((s.length + 1 : Nat) : Int) out = _
  unfold ac6
  simp only [decide_eq_false this, Bool.false_eq_true, if_false, if_true]
 ·simp [aD6]
end Go.Proofs.YtofpfpkjdigabaaGreatDoor
