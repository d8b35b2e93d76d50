import Derived.Test.YtofpfpkjdigabaaGreatDoorR
import Derived.Test.YtofpfpkjdigabaaGreatDoorVmQ
import Derived.Lib.ReplaceLaws
import Derived.KernelRfl
import Derived.Test.YtofpfpkjdigabaaGreatDoorVmI
import Derived.Lib.ItoaLen
namespace Go.Proofs.YtofpfpkjdigabaaGreatDoor
open Go.Vm
set_option autoImplicit false
set_option linter.unusedVariables false
set_option linter.unusedSimpArgs false
set_option maxRecDepth 100000
theorem ba3 {α : Type} {o : Option α} : (o.bind fun x => some x) = o := by cases o <;> rfl
theorem aa9 {i : Nat} (h : i ≤ 1000000) : IntKind.wrap .i64 ((i : Int) + 1) = (i : Int) + 1 := ai0 (by omega) (by omega)
theorem dlt {i n : Nat} (h : i < n) : decide ((i : Int) < (n : Int)) = true := by simp [h]
theorem dge {n : Nat} : decide ((n : Int) < (n : Int)) = false := by simp
def a06 (stops : Str) : Str → Nat
 | [] => 0
 | c :: r => if stops.contains c then 0 else a06 stops r + 1
theorem b12 (stops s : Str) : a06 stops s ≤ s.length := by
 induction s with
 | nil => exact Nat.le_refl _
 | cons c r ih => unfold a06; split <;> simp <;> omega
theorem bN5 {s stops : Str} (hm : s.length ≤ 1000000) : aL9 s stops = some (a06 stops s : Int) := by
 unfold aL9
 refine (ac6 s.length (fun (_ : Unit) i => i) (fun v => ay3 s stops v) (fun i _ => ((i + a06 stops (s.drop i) : Nat) : Int)) (fun _ _ => True) (s0 := ()) trivial ?_ ?_).trans ?_
 ·intro _ i hi _
  simp only [ay3, dlt hi, if_true, ak8 hi, Option.bind_some, strings_IndexByte, stringslite_IndexByte, aL4, bq0, cg7, List.drop_eq_getElem_cons hi, a06]
  by_cases hc : stops.contains s[i] = true
  ·right; rw [if_pos hc, if_pos hc]; rfl
  ·left
   refine ⟨(), ?_, ?_, trivial⟩
   ·rw [if_neg hc, aa9 (by omega)]
   ·rw [if_neg hc]; omega
 ·intro _ _
  simp [ay3, a06]
 ·simp
theorem bA0 {s p : Str} : stringslite_HasPrefix s p = some (p.isPrefixOf s) := by
 unfold stringslite_HasPrefix
 by_cases h : p.length ≤ s.length
 ·have h1 : ((List.length p : Int) ≤ (List.length s : Int)) := by omega
  simp only [h1, decide_true, if_true, a61 h, Option.bind_some]
  congr 1
  rw [Bool.eq_iff_iff, decide_eq_true_eq, List.isPrefixOf_iff_prefix]
  rw [List.prefix_iff_eq_take]; exact eq_comm
 ·have h1 : ¬ ((List.length p : Int) ≤ (List.length s : Int)) := by omega
  simp only [h1, decide_false, Bool.false_eq_true, if_false, Option.bind_some]
  congr 1
  symm
  rw [Bool.eq_false_iff]
  intro e
  exact h (List.isPrefixOf_iff_prefix.1 e).length_le
def bk5 (c : UInt8) : Bool := (decide (97 ≤ (c.toNat : Int)) && decide ((c.toNat : Int) ≤ 122)) || ((decide (48 ≤ (c.toNat : Int)) && decide ((c.toNat : Int) ≤ 57)) || (decide ((c.toNat : Int) = 45) || decide ((c.toNat : Int) = 95)))
def bV0 (c : UInt8) : Bool := decide (97 ≤ (c.toNat : Int)) && decide ((c.toNat : Int) ≤ 122)
def bk6 (s : Str) : Bool := ([33] : Str).isPrefixOf s
def ca8 (s : Str) : Str := if bk6 s then s.drop 1 else s
def bN6 (s : Str) : Bool := match s with
 | [] => false
 | c :: r => bV0 c && r.all bk5 && decide (s.length ≤ 32)
def bG4 (s : Str) : Bool := bN6 (ca8 s)
theorem bT0 (c : UInt8) (h : bV0 c = true) : bk5 c = true := by
 unfold bV0 at h; unfold bk5; rw [h]; rfl
theorem bT1 {c : UInt8} {r : Str} : bN6 (c :: r) = (bV0 c && (c :: r).all bk5 && decide ((c :: r).length ≤ 32)) := by
 show (bV0 c && r.all bk5 && decide _) = _
 cases h : bV0 c
 ·rfl
 ·rw [List.all_cons, bT0 c h]; rfl
theorem bN7 (s : Str) : (ca8 s).length ≤ s.length := by
 unfold ca8; split <;> simp
theorem bu8 {s : Str} : strings_TrimPrefix s [33] = some (ca8 s) := by
 unfold strings_TrimPrefix stringslite_TrimPrefix
 rw [bA0 (s := s) (p := [33])]
 unfold ca8 bk6
 cases hp : ([33] : Str).isPrefixOf s with
 | false => simp
 | true =>
  have hl : 1 ≤ s.length := (List.isPrefixOf_iff_prefix.1 hp).length_le
  have := a62 (l := s) (a := 1) hl
  simp only [Option.bind_some, if_true]
  rw [show (List.length ([33] : Str) : Int) = ((1 : Nat) : Int) from rfl, this]; rfl
theorem bG5 {s : Str} (hs : s.length ≤ 1000000) : aO7 s = some (bG4 s) := by
 unfold aO7 bG4
 rw [bu8, Option.bind_some]
 have hl := bN7 s
 generalize ca8 s = x at hl ⊢
 cases x with
 | nil => rfl
 | cons c r =>
  have hat : ah7 (c :: r) 0 = some c := rfl
  simp only [reduceCtorEq, decide_false, Bool.false_eq_true, if_false, hat, Option.bind_some, bT1]
  by_cases hlen : (32 : Int) < (List.length (c :: r) : Int)
  ·have : ¬ ((c :: r).length ≤ 32) := by omega
   simp only [hlen, decide_true, if_true, Option.bind_some, this, decide_false, Bool.and_false]
  ·have h32 : (c :: r).length ≤ 32 := by omega
   simp only [hlen, decide_false, Bool.false_eq_true, if_false, h32, decide_true, Bool.and_true]
   have hloop : ab0 (fun s => an7 (c :: r) s) 0 = some ((c :: r).all bk5) := by
    refine (ac6 (c :: r).length (fun (_ : Unit) i => i) (fun v => an7 (c :: r) v) (fun i _ => ((c :: r).drop i).all bk5) (fun _ _ => True) (s0 := ()) trivial ?_ ?_).trans rfl
    ·intro _ i hi _
     have key : ∀ c : UInt8, (bif (decide ((c.toNat : Int) < 97)) then (bif (decide ((c.toNat : Int) < 48)) then ((!decide ((c.toNat : Int) = 45)) && (!decide ((c.toNat : Int) = 95))) else ((decide (57 < (c.toNat : Int))) && ((!decide ((c.toNat : Int) = 45)) && (!decide ((c.toNat : Int) = 95))))) else ((decide (122 < (c.toNat : Int))) && (bif (decide ((c.toNat : Int) < 48)) then ((!decide ((c.toNat : Int) = 45)) && (!decide ((c.toNat : Int) = 95))) else ((decide (57 < (c.toNat : Int))) && ((!decide ((c.toNat : Int) = 45)) && (!decide ((c.toNat : Int) = 95))))))) = !bk5 c := aO6 (by decide +kernel)
     simp only [an7, dlt hi, if_true, ak8 hi, Option.bind_some, List.drop_eq_getElem_cons hi, List.all_cons, key]
     cases hn : bk5 (c :: r)[i]
     ·right; simp
     ·left
      refine ⟨(), ?_, by simp, trivial⟩
      simp only [Bool.not_true, Bool.false_eq_true, if_false]
      rw [aa9 (by omega)]
    ·intro _ _
     simp [an7]
   rw [hloop]
   have k1 : ∀ c : UInt8, bV0 c = (!decide ((c.toNat : Int) < 97) && !decide (122 < (c.toNat : Int))) := aO6 (by decide +kernel)
   rw [k1]
   cases decide ((c.toNat : Int) < 97) <;> cases decide (122 < (c.toNat : Int)) <;> simp
theorem b13 {s : Str} : aJ1 s = some (bk6 s) := by
 unfold aJ1 bk6
 cases s with
 | nil => rfl
 | cons c r =>
  have h1 : (0 : Int) < (List.length (c :: r) : Int) := by simp only [List.length_cons]; omega
  have h2 : ah7 (c :: r) 0 = some c := rfl
  have h3 : decide ((c.toNat : Int) = 33) = decide (c = 33) := isC c 33
  simp only [h1, decide_true, if_true, h2, Option.bind_some, h3, List.isPrefixOf]
  have key : ∀ c : UInt8, decide (c = 33) = ((33 == c) && true) := aO6 (by decide +kernel)
  rw [key]
theorem bT2 {s : Str} (hs : s.length ≤ 1000000) : aM1 s = some (bG4 s) := by
 have hk : aM1 s = ay9 (ca8 s) := by
  unfold aM1
  rw [b13, Option.bind_some]
  unfold ca8
  cases hp : bk6 s with
  | false => simp
  | true =>
   have hl : 1 ≤ s.length := (List.isPrefixOf_iff_prefix.1 hp).length_le
   have := a62 (l := s) (a := 1) hl
   simp only [if_true]
   rw [show (1 : Int) = ((1 : Nat) : Int) from rfl, this]; rfl
 rw [hk]
 unfold bG4
 have hl := bN7 s
 generalize ca8 s = x at hl ⊢
 unfold ay9
 let tail (i : Nat) (x : Str) : Bool := match i with
  | 0 => bN6 x
  | _ => (x.drop i).all bk5 && (decide (1 ≤ (List.length x : Int)) && decide ((List.length x : Int) ≤ 32))
 refine (ac6 x.length (fun (_ : Unit) i => i) (fun v => av8 x v) (fun i _ => tail i x) (fun _ _ => True) (s0 := ()) trivial ?_ ?_).trans rfl
 ·intro _ i hi _
  have key : ∀ c : UInt8, ((if (decide (97 ≤ (c.toNat : Int))) then some (decide ((c.toNat : Int) ≤ 122)) else some false) : Option Bool) = some (bV0 c) := by
   intro c; unfold bV0; cases decide (97 ≤ (c.toNat : Int)) <;> rfl
  have key2 : ∀ c : UInt8, (if (decide (48 ≤ (c.toNat : Int))) then (if (decide ((c.toNat : Int) ≤ 57)) then some false else (if (decide ((c.toNat : Int) = 45)) then some false else some (!(decide ((c.toNat : Int) = 95))))) else (if (decide ((c.toNat : Int) = 45)) then some false else some (!(decide ((c.toNat : Int) = 95)))) : Option Bool) = some (!(decide (48 ≤ (c.toNat : Int)) && decide ((c.toNat : Int) ≤ 57) || (decide ((c.toNat : Int) = 45) || decide ((c.toNat : Int) = 95)))) := aO6 (by decide +kernel)
  have key3 : ∀ c : UInt8, bk5 c = (bV0 c || ((decide (48 ≤ (c.toNat : Int)) && decide ((c.toNat : Int) ≤ 57)) || (decide ((c.toNat : Int) = 45) || decide ((c.toNat : Int) = 95)))) := fun c => rfl
  simp only [av8, dlt hi, if_true, ak8 hi, Option.bind_some, key]
  have hlen1 : (1 : Int) ≤ (List.length x : Int) := by omega
  cases i with
  | zero =>
   cases x with
   | nil => simp at hi
   | cons c r =>
    simp only [List.getElem_cons_zero, tail, bN6]
    cases hlow : bV0 c with
    | false => right; simp
    | true =>
     left
     refine ⟨(), ?_, ?_, trivial⟩
     ·simp only [Bool.not_true, Bool.false_eq_true, if_false, Option.bind_some]
      rw [aa9 (by omega)]
     ·simp only [Bool.true_and, List.drop_succ_cons, List.drop_zero, hlen1, decide_true]
      congr 1
      rw [Bool.eq_iff_iff, decide_eq_true_eq, decide_eq_true_eq]; omega
  | succ i =>
   have h0 : decide (((i + 1 : Nat) : Int) = 0) = false := by simp; omega
   simp only [tail, List.drop_eq_getElem_cons hi, List.all_cons, h0, Bool.false_eq_true, if_false, key2]
   rw [key3]
   cases hlow : bV0 x[i + 1] with
   | true =>
    left
    refine ⟨(), ?_, by simp, trivial⟩
    simp only [Bool.not_true, Bool.false_eq_true, if_false, Option.bind_some]
    rw [aa9 (by omega)]
   | false =>
    simp only [Bool.not_false, if_true, Option.bind_some, Bool.false_or]
    generalize (decide (48 ≤ (x[i + 1].toNat : Int)) && decide ((x[i + 1].toNat : Int) ≤ 57) || (decide ((x[i + 1].toNat : Int) = 45) || decide ((x[i + 1].toNat : Int) = 95))) = q
    cases q with
    | false => right; simp
    | true =>
     left
     refine ⟨(), ?_, by simp, trivial⟩
     simp only [Bool.not_true, Bool.false_eq_true, if_false]
     rw [aa9 (by omega)]
 ·intro _ _
  simp only [av8, dge, Bool.false_eq_true, if_false]
  cases x with
  | nil => rfl
  | cons c r => simp [tail]
def a71 (v : Str) : Bool := v.all fun c => !([0, 10, 13] : Str).contains c
theorem bA1 (stops s : Str) : decide ((a06 stops s : Int) < (List.length s : Int)) = !(s.all fun c => !stops.contains c) := by
 induction s with
 | nil => rfl
 | cons c r ih =>
  unfold a06
  by_cases hc : stops.contains c = true
  ·rw [if_pos hc]; simp only [List.all_cons, hc]; simp
  ·have hc' : stops.contains c = false := by simpa using hc
   rw [if_neg hc, List.all_cons, hc', Bool.not_false, Bool.true_and, ← ih]
   congr 1
   simp only [List.length_cons, eq_iff_iff]; omega
theorem bG6 {v : Str} (hv : v.length ≤ 1000000) : aH3 v = some (a71 v) := by
 unfold aH3
 refine (ac6 v.length (fun (_ : Unit) i => i) (fun s => at0 v s) (fun i _ => a71 (v.drop i)) (fun _ _ => True) (s0 := ()) trivial ?_ ?_).trans rfl
 ·intro _ i hi _
  have key : ∀ c : UInt8, ((if (decide ((c.toNat : Int) = 0)) then some true else (if (decide ((c.toNat : Int) = 10)) then some true else some (decide ((c.toNat : Int) = 13)))) : Option Bool) = some (([0, 10, 13] : Str).contains c) := aO6 (by decide +kernel)
  simp only [at0, dlt hi, if_true, ak8 hi, Option.bind_some, key, a71, List.drop_eq_getElem_cons hi, List.all_cons]
  cases ([0, 10, 13] : Str).contains v[i] with
  | true => right; simp
  | false =>
   left
   refine ⟨(), ?_, by simp, trivial⟩
   simp only [Bool.false_eq_true, if_false]
   rw [aa9 (by omega)]
 ·intro _ _
  simp [at0, a71]
def aV1 (l : List aa4) (n : Str) : Bool := l.any fun b => decide (b.Name = n)
def chk (before : List aa4) (a : aa4) : Int :=
 if (32 : Int) ≤ (List.length before : Int) then 22 else if bG4 a.Name = false then 6 else if (a.Query && !decide (a.Value = [])) = true ∨ a71 a.Value = false then 2 else if (1024 : Int) < (List.length a.Value : Int) then 4 else if aV1 before a.Name = true then 7 else 0
def aS3 {α : Type} (p : α → Bool) : List α → Int
 | [] => -1
 | a :: r => if p a then 0 else if aS3 p r = -1 then -1 else aS3 p r + 1
theorem bG7 {α : Type} (p : α → Bool) (l : List α) : -1 ≤ aS3 p l := by
 induction l with
 | nil => exact Int.le_refl _
 | cons a r ih => simp only [aS3]; split <;> (try split) <;> omega
theorem bN8 {α : Type} (p : α → Bool) (l : List α) : 0 ≤ aS3 p l ↔ l.any p = true := by
 induction l with
 | nil => simp [aS3]
 | cons a r ih =>
  have := bG7 p r
  rw [List.any_cons, Bool.or_eq_true, ← ih]
  simp only [aS3]
  by_cases hp : p a = true
  ·simp [hp]
  ·rw [if_neg hp]
   split
   ·rename_i h; rw [h]; simp [hp]
   ·simp only [hp, false_or]; omega
theorem aQ5 {α : Type} (p : α → Bool) (l : List α) : decide (0 ≤ aS3 p l) = l.any p := by
 rw [Bool.eq_iff_iff, decide_eq_true_eq, bN8]
theorem bu9 {α : Type} {p : α → Bool} {a : α} {r : List α} (h : p a = true) : aS3 p (a :: r) = 0 := by simp [aS3, h]
theorem a73 {α : Type} {p : α → Bool} {a : α} {r : List α} (h : ¬ p a = true) : aS3 p (a :: r) = if aS3 p r = -1 then -1 else aS3 p r + 1 := by simp [aS3, h]
theorem av1 {α : Type} {p : α → Bool} {l : List α} {body : Int → Option (Step Int Int)} (hl : l.length ≤ 1000000)
  (hb : ∀ i (h : i < l.length), body (i : Int) = if p l[i] then some (.done (i : Int)) else some (.cont (IntKind.wrap .i64 ((i : Int) + 1)))) (he : body (l.length : Int) = some (.done (-1))) : ab0 body 0 = some (aS3 p l) := by
 refine (ac6 l.length (fun (_ : Unit) i => i) body (fun i _ => if aS3 p (l.drop i) = -1 then -1 else (i : Int) + aS3 p (l.drop i)) (fun _ _ => True) (s0 := ()) trivial ?_ ?_).trans ?_
 ·intro _ i hi _
  rw [hb i hi, List.drop_eq_getElem_cons hi]
  have := bG7 p (l.drop (i + 1))
  by_cases hp : p l[i] = true
  ·right; rw [if_pos hp, bu9 hp]; simp
  ·left
   refine ⟨(), ?_, ?_, trivial⟩
   ·rw [if_neg hp, aa9 (by omega)]
   ·rw [a73 hp]
    by_cases h : aS3 p (l.drop (i + 1)) = -1
    ·simp [h]
    ·rw [if_neg h, if_neg (by omega), if_neg h]; omega
 ·intro _ _
  rw [he]; simp [aS3]
 ·simp only [List.drop_zero]
  congr 1
  split
  ·rename_i h; exact h.symm
  ·simp
theorem ca9 {before : List aa4} {a : aa4} (hb : before.length ≤ 1000000) (hn : a.Name.length ≤ 1000000) (hv : a.Value.length ≤ 1000000) : aX6 before a = some (chk before a) := by
 unfold aX6 chk
 have hix : ad5 before a = some (aS3 (fun b => decide (b.Name = a.Name)) before) := by
  unfold ad5
  refine av1 hb ?_ ?_
  ·intro i hi
   simp only [ac4, dlt hi, if_true, aa6 hi, Option.bind_some, aU2]
  ·simp [ac4]
 have hc : ac5 before a = some (aV1 before a.Name) := by
  unfold ac5 aV1
  rw [hix, Option.bind_some, aQ5]
 simp only [bG5 hn, Option.bind_some, bN5 hv, hc, bA1]
 by_cases h1 : (32 : Int) ≤ (List.length before : Int)
 ·simp [h1]
 ·simp only [h1, decide_false, Bool.false_eq_true, if_false]
  cases bG4 a.Name with
  | false => simp
  | true =>
   simp only [Bool.not_true, Bool.false_eq_true, if_false, Bool.true_eq_false]
   cases a.Query && !decide (a.Value = []) with
   | true => simp
   | false =>
    change (if (!a71 a.Value) = true then _ else _) = _
    cases a71 a.Value with
    | false => simp
    | true =>
     simp only [Bool.not_true, Bool.false_eq_true, if_false, Bool.true_eq_false, or_self]
     by_cases h4 : (1024 : Int) < (List.length a.Value : Int)
     ·simp [h4]
     ·simp only [h4, decide_false, Bool.false_eq_true, if_false]
      cases aV1 before a.Name <;> simp
theorem b14 {before : List aa4} {a : aa4} (hb : before.length ≤ 1000000) (hn : a.Name.length ≤ 1000000) (hv : a.Value.length ≤ 1000000) : a66 before a = some (chk before a) := by
 unfold a66 chk
 have hloop : ab0 (fun s => au9 before a s) 0 = some (if aV1 before a.Name = true then (7 : Int) else 0) := by
  refine (ac6 before.length (fun (_ : Unit) i => i) (fun s => au9 before a s) (fun i _ => if aV1 (before.drop i) a.Name = true then (7 : Int) else 0) (fun _ _ => True) (s0 := ()) trivial ?_ ?_).trans rfl
  ·intro _ i hi _
   simp only [au9, dlt hi, if_true, aa6 hi, Option.bind_some, aV1, List.drop_eq_getElem_cons hi, List.any_cons]
   by_cases h : before[i].Name = a.Name
   ·right; simp [h]
   ·left
    refine ⟨(), ?_, by simp [h], trivial⟩
    simp only [h, decide_false, Bool.false_eq_true, if_false]
    rw [aa9 (by omega)]
  ·intro _ _
   simp [au9, aV1]
 simp only [bT2 hn, Option.bind_some, bG6 hv, hloop]
 by_cases h1 : (32 : Int) ≤ (List.length before : Int)
 ·simp [h1]
 ·simp only [h1, decide_false, Bool.false_eq_true, if_false]
  cases bG4 a.Name with
  | false => simp
  | true =>
   simp only [Bool.not_true, Bool.false_eq_true, if_false, Bool.true_eq_false]
   by_cases h4 : (1024 : Int) < (List.length a.Value : Int)
   ·cases a.Query <;> cases hd : decide (a.Value = []) <;> cases a71 a.Value <;> simp [h4]
   ·cases a.Query <;> cases hd : decide (a.Value = []) <;> cases a71 a.Value <;> simp [h4]
def okA (a : aa4) : Prop := a.Name.length ≤ 5000 ∧ a.Value.length ≤ 5000
def okL (l : List aa4) : Prop := l.length ≤ 5000 ∧ ∀ a ∈ l, okA a
def bA2 (before : List aa4) : List aa4 → Int
 | [] => 0
 | a :: r => if chk before a = 0 then bA2 (before ++ [a]) r else chk before a
def bG8 (l : List aa4) : Int := bA2 [] l
theorem okL.get {l : List aa4} (h : okL l) {i : Nat} (hi : i < l.length) : okA l[i] := h.2 _ (List.getElem_mem hi)
theorem cb0 {l : List aa4} (h : okL l) : aX7 l = some (bG8 l) := by
 unfold aX7
 refine (ac6 l.length (fun (_ : Unit) i => i) (fun s => ay4 l s) (fun i _ => bA2 (l.take i) (l.drop i)) (fun _ _ => True) (s0 := ()) trivial ?_ ?_).trans ?_
 ·intro _ i hi _
  have ha := h.get hi
  have h1 := h.1
  simp only [ay4, dlt hi, if_true, aa6 hi, Option.bind_some, a61 (Nat.le_of_lt hi), ca9 (before := l.take i) (a := l[i]) (by simp; omega) (by have := ha.1; omega) (by have := ha.2; omega), List.drop_eq_getElem_cons hi, bA2]
  by_cases hz : chk (l.take i) l[i] = 0
  ·left
   refine ⟨(), ?_, ?_, trivial⟩
   ·simp only [hz, decide_true, Bool.not_true, Bool.false_eq_true, if_false]
    rw [aa9 (by omega)]
   ·simp only [hz, if_true]
    rw [List.take_succ_eq_append_getElem hi]
  ·right; simp [hz]
 ·intro _ _
  simp [ay4, bA2]
 ·simp [bG8]
theorem bG9 {l : List aa4} (h : okL l) : aO8 l = some (bG8 l) := by
 unfold aO8
 refine (ac6 l.length (fun (_ : Unit) i => i) (fun s => av9 l s) (fun i _ => bA2 (l.take i) (l.drop i)) (fun _ _ => True) (s0 := ()) trivial ?_ ?_).trans ?_
 ·intro _ i hi _
  have ha := h.get hi
  have h1 := h.1
  simp only [av9, dlt hi, if_true, aa6 hi, Option.bind_some, a61 (Nat.le_of_lt hi), b14 (before := l.take i) (a := l[i]) (by simp; omega) (by have := ha.1; omega) (by have := ha.2; omega), List.drop_eq_getElem_cons hi, bA2]
  by_cases hz : chk (l.take i) l[i] = 0
  ·left
   refine ⟨(), ?_, ?_, trivial⟩
   ·simp only [hz, decide_true, Bool.not_true, Bool.false_eq_true, if_false]
    rw [aa9 (by omega)]
   ·simp only [hz, if_true]
    rw [List.take_succ_eq_append_getElem hi]
  ·right; simp [hz]
 ·intro _ _
  simp [av9, bA2]
 ·simp [bG8]
def dbl (s : Str) : Str := s.flatMap fun c => if c = 39 then [39, 39] else [c]
def oddB (s : Str) : Bool := decide (s = []) || s.any fun c => ([32, 9, 39] : Str).contains c
def aV2 (s : Str) : Str := if oddB s then [39] ++ dbl s ++ [39] else s
theorem b15 (s : Str) : (dbl s).length ≤ 2 * s.length := by
 induction s with
 | nil => exact Nat.le_refl _
 | cons c r ih =>
  unfold dbl at ih ⊢
  rw [List.flatMap_cons, List.length_append, List.length_cons]
  split <;> simp only [List.length_cons, List.length_nil] <;> omega
theorem ba4 (s : Str) : (aV2 s).length ≤ 2 * s.length + 2 := by
 have := b15 s
 unfold aV2
 split <;> simp <;> omega
theorem bv0 {c : UInt8} (hc : c ≠ 39) (k : Nat) (s : Str) (hk : k ≤ Go.Lib.count s [39]) : Go.Lib.replaceK [39] [39, 39] k (c :: s) = c :: Go.Lib.replaceK [39] [39, 39] k s := by
 cases k with
 | zero => rfl
 | succ k =>
  obtain ⟨i, hi⟩ := Go.Lib.index_of_count (s := s) (old := [39]) (by omega)
  have hi' : Go.Lib.index (c :: s) [39] = ((i + 1 : Nat) : Int) := by
   have hp : ([39] : Str).isPrefixOf (c :: s) = false := by simp [List.isPrefixOf, Ne.symm hc]
   rw [Go.Lib.index, hp, hi]
   have : ((i : Int) == -1) = false := by rw [beq_eq_false_iff_ne]; omega
   simp [this]
  rw [Go.Lib.replaceK_hit _ _ _ _ _ hi, Go.Lib.replaceK_hit _ _ _ _ _ hi']
  simp [Nat.add_right_comm]
theorem bH0 (s : Str) : Go.Lib.replaceK [39] [39, 39] (Go.Lib.count s [39]) s = dbl s := by
 induction s with
 | nil => rw [Go.Lib.count_one]; rfl
 | cons c r ih =>
  by_cases hc : c = 39
  ·subst hc
   have hi : Go.Lib.index (39 :: r) [39] = ((0 : Nat) : Int) := by rw [Go.Lib.index]; simp [List.isPrefixOf]
   rw [Go.Lib.count_cons_eq, Nat.add_comm 1, Go.Lib.replaceK_hit _ _ _ _ _ hi]
   simp only [List.take_zero, List.nil_append, Nat.zero_add, List.length_cons, List.length_nil, List.drop_succ_cons, List.drop_zero, ih]
   unfold dbl
   rw [List.flatMap_cons, if_pos rfl]
  ·rw [Go.Lib.count_cons_ne _ _ _ hc, bv0 hc _ _ (Nat.le_refl _), ih]
   unfold dbl
   rw [List.flatMap_cons, if_neg hc]; rfl
theorem bv1 {s : Str} (hs : s.length ≤ 1000000) : strings_ReplaceAll s [39] [39, 39] = some (dbl s) := by
 have hc : Go.Lib.count s [39] ≤ s.length := by rw [Go.Lib.count_one]; exact List.count_le_length
 unfold strings_ReplaceAll aO5
 rw [if_pos ⟨by omega, by simp, by simp; omega⟩]
 unfold Go.Lib.replaceAll Go.Lib.replace
 rw [if_neg (by decide)]
 have : Go.Lib.replaceNum s [39] (-1) = Go.Lib.count s [39] := by unfold Go.Lib.replaceNum; rw [if_pos (Or.inl (by omega))]
 rw [this, bH0]
theorem cb1 {s : Str} (hs : s.length ≤ 1000000) : aX8 s = some (aV2 s) := by
 unfold aX8
 have hd := b15 s
 have c1 : ax1 [39] (dbl s) = some ([39] ++ dbl s) := ad7 (by simp; omega)
 have c2 : ax1 ([39] ++ dbl s) [39] = some ([39] ++ dbl s ++ [39]) := ad7 (by simp; omega)
 have hu := b12 [32, 9, 39] s
 have ha := bA1 [32, 9, 39] s
 have hany : (s.any fun c => ([32, 9, 39] : Str).contains c) = !(s.all fun c => !([32, 9, 39] : Str).contains c) := by
  rw [List.any_eq_not_all_not]
 have hdd : decide ((a06 [32, 9, 39] s : Int) = (List.length s : Int)) = (s.all fun c => !([32, 9, 39] : Str).contains c) := by
  cases h : s.all fun c => !([32, 9, 39] : Str).contains c with
  | true => rw [h] at ha; simp only [Bool.not_true, decide_eq_false_iff_not] at ha; simp; omega
  | false => rw [h] at ha; simp only [Bool.not_false, decide_eq_true_eq] at ha; simp; omega
 simp only [bN5 hs, Option.bind_some, bv1 hs, c1, c2, hdd]
 unfold aV2 oddB
 rw [hany]
 cases h : s.all fun c => !([32, 9, 39] : Str).contains c <;> cases hn : decide (s = []) <;> simp
theorem bH1 {s : Str} (hs : s.length ≤ 1000000) : aO9 s = some (aV2 s) := by
 unfold aO9
 refine (ac6 (τ := Str × Bool × Int) s.length (fun (x : Str × Bool) i => (x.1, x.2, i)) (fun x => at1 s x.1 x.2.1 x.2.2)
  (fun i x => if x.2 || (s.drop i).any (fun c => ([32, 9, 39] : Str).contains c) then [39] ++ (x.1 ++ dbl (s.drop i)) ++ [39] else s) (fun i x => x.1.length ≤ 2 * i) (s0 := ([], decide (s = []))) (by simp) ?_ ?_).trans ?_
 ·rintro ⟨out, odd⟩ i hi hv
  simp only at hv
  left
  have key : ∀ c : UInt8, ((if (decide ((c.toNat : Int) = 32)) then some true else (if (decide ((c.toNat : Int) = 9)) then some true else some (decide (c = 39)))) : Option Bool) = some (([32, 9, 39] : Str).contains c) := aO6 (by decide +kernel)
  have hw : IntKind.wrap .i64 ((i : Int) + 1) = (i : Int) + 1 := aa9 (by omega)
  have c1 : ax1 out [s[i]] = some (out ++ [s[i]]) := ad7 (by simp; omega)
  have c2 : ax1 (out ++ [s[i]]) [39] = some (out ++ [s[i]] ++ [39]) := ad7 (by simp; omega)
  have h39 : decide ((s[i].toNat : Int) = 39) = decide (s[i] = 39) := isC s[i] 39
  have hor : ((if odd = true then some true else some (([32, 9, 39] : Str).contains s[i])) : Option Bool) = some (odd || ([32, 9, 39] : Str).contains s[i]) := by cases odd <;> rfl
  refine ⟨(if s[i] = 39 then out ++ [s[i]] ++ [39] else out ++ [s[i]], odd || ([32, 9, 39] : Str).contains s[i]), ?_, ?_, ?_⟩
  ·simp only [at1, dlt hi, if_true, ak8 hi, Option.bind_some, key, hor, hw, cl9 hi, c1, c2, h39]
   by_cases h : s[i] = 39
   ·simp only [h, decide_true, if_true]
   ·simp only [h, decide_false, Bool.false_eq_true, if_false]
  ·simp only [List.drop_eq_getElem_cons hi, List.any_cons, Bool.or_assoc]
   have : dbl (s[i] :: s.drop (i + 1)) = (if s[i] = 39 then [39, 39] else [s[i]]) ++ dbl (s.drop (i + 1)) := by unfold dbl; rw [List.flatMap_cons]
   rw [this]
   by_cases h : s[i] = 39
   ·simp only [h, if_true]; simp
   ·simp only [h, if_false]; simp
  ·simp only
   split <;> simp <;> omega
 ·rintro ⟨out, odd⟩ hv
  simp only at hv
  have c1 : ax1 [39] out = some ([39] ++ out) := ad7 (by simp; omega)
  have c2 : ax1 ([39] ++ out) [39] = some ([39] ++ out ++ [39]) := ad7 (by simp; omega)
  simp only [at1, dge, Bool.false_eq_true, if_false, aH4, c1, c2, Option.bind_some, List.drop_length]
  cases odd <;> simp [dbl]
 ·simp [aV2, oddB]
def bv2 (a : aa4) : Str := if a.Query then a.Name ++ [63] else a.Name ++ [61] ++ aV2 a.Value
theorem cb2 {a : aa4} (h : okA a) : (bv2 a).length ≤ 15003 := by
 have := ba4 a.Value
 have h1 := h.1
 have h2 := h.2
 unfold bv2
 split <;> simp <;> omega
def az5 (l : List aa4) : Str := Go.Lib.join (l.map bv2) [32]
theorem b16 (xs : List Str) (x sep : Str) : Go.Lib.join (xs ++ [x]) sep = if xs = [] then x else Go.Lib.join xs sep ++ sep ++ x := by
 cases xs with
 | nil => simp [Go.Lib.join_one]
 | cons y r =>
  rw [List.cons_append, Go.Lib.join_cons, Go.Lib.join_cons, if_neg (by simp)]
  simp [Go.Lib.joinTail]
theorem cb3 {K : Nat} {sep : Str} : ∀ {l : List Str}, (∀ x ∈ l, x.length ≤ K) → (Go.Lib.join l sep).length ≤ l.length * (K + sep.length)
 | [], _ => by simp [Go.Lib.join_nil]
 | x :: r, h => by
  rw [Go.Lib.join_cons, List.length_append]
  have hx := h x (by simp)
  have : ∀ r : List Str, (∀ y ∈ r, y.length ≤ K) → (Go.Lib.joinTail sep r).length ≤ r.length * (K + sep.length) := by
   intro r
   induction r with
   | nil => intro _; simp [Go.Lib.joinTail]
   | cons y r ih =>
    intro h
    have h1 := ih fun z hz => h z (List.mem_cons_of_mem _ hz)
    have h2 := h y (by simp)
    unfold Go.Lib.joinTail at h1 ⊢
    rw [List.map_cons, List.flatten_cons, List.length_append, List.length_append, List.length_cons, Nat.add_mul, Nat.one_mul]
    omega
  have := this r fun z hz => h z (List.mem_cons_of_mem _ hz)
  rw [List.length_cons, Nat.add_mul, Nat.one_mul]
  omega
theorem bk7 {l : List aa4} (h : okL l) (i : Nat) : (Go.Lib.join ((l.take i).map bv2) [32]).length ≤ 75020000 := by
 have h1 := cb3 (K := 15003) (sep := [32]) (l := (l.take i).map bv2) (by
  intro x hx
  obtain ⟨a, ha, rfl⟩ := List.mem_map.1 hx
  exact cb2 (h.2 a (List.mem_of_mem_take ha)))
 have h2 := h.1
 simp only [List.length_map, List.length_take, List.length_cons, List.length_nil] at h1
 have : min i l.length * (15003 + (0 + 1)) ≤ 5000 * 15004 := Nat.mul_le_mul (by omega) (by omega)
 omega
theorem cb4 {l : List aa4} (h : okL l) : aX9 l = some (if bG8 l = 0 then (az5 l, 0) else ([], bG8 l)) := by
 unfold aX9
 rw [cb0 h, Option.bind_some]
 by_cases hz : bG8 l = 0
 ·have hl := h.1
  have hmk : mkC 16 ([] : Str) 0 (List.length l : Int) = some [] := by
   unfold mkC
   rw [if_pos ⟨by omega, by omega, by omega, by omega⟩]; rfl
  simp only [hz, decide_true, Bool.not_true, Bool.false_eq_true, if_false, if_true, hmk, Option.bind_some]
  refine (ac6 (τ := Int × List Str) l.length (fun (x : List Str) i => (i, x)) (fun x => av6 l x.1 x.2) (fun i _ => (az5 l, 0)) (fun i x => x = (l.take i).map bv2) (s0 := []) (by simp) ?_ ?_).trans rfl
  ·rintro x i hi rfl
   left
   have ha := h.get hi
   have h1 := ha.1
   have h2 := ha.2
   have hw : IntKind.wrap .i64 ((i : Int) + 1) = (i : Int) + 1 := aa9 (by omega)
   have hq := ba4 l[i].Value
   have c1 : ax1 l[i].Name [63] = some (l[i].Name ++ [63]) := ad7 (by simp; omega)
   have c2 : ax1 l[i].Name [61] = some (l[i].Name ++ [61]) := ad7 (by simp; omega)
   have c3 : ax1 (l[i].Name ++ [61]) (aV2 l[i].Value) = some (l[i].Name ++ [61] ++ aV2 l[i].Value) := ad7 (by simp; omega)
   have ap : ∀ y : Str, aq9 16 ((l.take i).map bv2) [y] = some ((l.take i).map bv2 ++ [y]) := fun y => ad0 (by simp; omega) (by simp; omega)
   refine ⟨(l.take (i + 1)).map bv2, ?_, rfl, rfl⟩
   simp only [av6, dlt hi, if_true, aa6 hi, Option.bind_some, c1, c2, cb1 (s := l[i].Value) (by omega), c3, ap, hw]
   rw [List.take_succ_eq_append_getElem hi, List.map_append, List.map_cons, List.map_nil]
   unfold bv2
   cases l[i].Query <;> simp
  ·rintro x rfl
   have hj : strings_Join (l.map bv2) [32] = some (az5 l) := by
    unfold strings_Join az5
    have := bk7 h l.length
    rw [List.take_length] at this
    exact bG0 (by simp; omega) (by omega)
   simp only [av6, dge, Bool.false_eq_true, if_false, aK4, List.take_length, hj, Option.bind_some, Option.map_some]
 ·simp [hz]
theorem bH2 {l : List aa4} (h : okL l) : aP0 l = some (if bG8 l = 0 then (az5 l, 0) else ([], bG8 l)) := by
 unfold aP0
 rw [bG9 h, Option.bind_some]
 by_cases hz : bG8 l = 0
 ·have hl := h.1
  simp only [hz, decide_true, Bool.not_true, Bool.false_eq_true, if_false, if_true]
  refine (ac6 (τ := Str × Int) l.length (fun (x : Str) i => (x, i)) (fun x => at3 l x.1 x.2) (fun i _ => (az5 l, 0)) (fun i x => x = Go.Lib.join ((l.take i).map bv2) [32]) (s0 := []) (by simp [Go.Lib.join_nil]) ?_ ?_).trans rfl
  ·rintro x i hi rfl
   left
   have ha := h.get hi
   have h1 := ha.1
   have h2 := ha.2
   have hw : IntKind.wrap .i64 ((i : Int) + 1) = (i : Int) + 1 := aa9 (by omega)
   have hq := ba4 l[i].Value
   have hlen := bk7 h i
   refine ⟨Go.Lib.join ((l.take (i + 1)).map bv2) [32], ?_, rfl, rfl⟩
   generalize hp : Go.Lib.join ((l.take i).map bv2) [32] = p at hlen
   have hk : ∀ q : Str, q.length ≤ 75020001 → at2 l i q = some (.cont (q ++ bv2 l[i], (i : Int) + 1)) := by
    intro q hq2
    have c1 : ax1 q l[i].Name = some (q ++ l[i].Name) := ad7 (by omega)
    have c2 : ax1 (q ++ l[i].Name) [63] = some (q ++ l[i].Name ++ [63]) := ad7 (by simp; omega)
    have c3 : ax1 (q ++ l[i].Name) [61] = some (q ++ l[i].Name ++ [61]) := ad7 (by simp; omega)
    have c4 : ax1 (q ++ l[i].Name ++ [61]) (aV2 l[i].Value) = some (q ++ l[i].Name ++ [61] ++ aV2 l[i].Value) := ad7 (by simp; omega)
    simp only [at2, aa6 hi, Option.bind_some, c1, c2, c3, bH1 (s := l[i].Value) (by omega), c4, hw]
    unfold bv2
    cases l[i].Query <;> simp
   have hsn : Go.Lib.join ((l.take (i + 1)).map bv2) [32] = if i = 0 then bv2 l[i] else p ++ [32] ++ bv2 l[i] := by
    rw [List.take_succ_eq_append_getElem hi, List.map_append, List.map_cons, List.map_nil, b16, hp]
    by_cases h0 : i = 0
    ·subst h0; simp
    ·rw [if_neg, if_neg h0]
     simp only [List.map_eq_nil_iff, List.take_eq_nil_iff, not_or]
     exact ⟨h0, by intro e; rw [e] at hi; simp at hi⟩
   have c5 : ax1 p [32] = some (p ++ [32]) := ad7 (by simp; omega)
   simp only [at3, dlt hi, if_true]
   rw [hsn]
   by_cases h0 : i = 0
   ·have hp0 : p = [] := by rw [← hp, h0]; simp [Go.Lib.join_nil]
    rw [hk p (by omega), hp0]
    simp [h0]
   ·have : (0 : Int) < (i : Int) := by omega
    simp only [this, decide_true, if_true, c5, Option.bind_some, h0, if_false]
    rw [hk _ (by simp; omega)]
  ·rintro x rfl
   simp only [at3, dge, Bool.false_eq_true, if_false, List.take_length]
   rfl
 ·simp [hz]
def cu6 (c : UInt8) : Bool := decide ((c.toNat : Int) = 32) || decide ((c.toNat : Int) = 9)
def endsB (s : Str) : Bool := match s with
 | [] => true
 | c :: _ => cu6 c
def bad (e : Int) : aa4 × Nat × Int := (⟨[], [], false⟩, 0, e)
def fin (s : Str) (a : aa4) (n : Nat) : aa4 × Nat × Int := if endsB (s.drop n) then (a, n, 0) else bad 2
def agree (x : aa4 × Int × Int) (at_ : Nat) (o : aa4 × Nat × Int) : Prop := x.2.2 = o.2.2 ∧ (o.2.2 = 0 → x.1 = o.1 ∧ x.2.1 = ((at_ + o.2.1 : Nat) : Int))
def be2 (name : Str) (a : aa4) : Bool := !a.Query && decide (a.Name = name)
def ar5 (name : Str) : List aa4 → Str × Bool
 | [] => ([], false)
 | a :: r => if be2 name a then (a.Value, true) else ar5 name r
theorem bA3 {α : Type} (p : α → Bool) (l : List α) : (aS3 p l = -1 ∧ ∀ a ∈ l, p a = false) ∨ ∃ i, ∃ h : i < l.length, aS3 p l = (i : Int) ∧ p l[i] = true ∧ ∀ a ∈ l.take i, p a = false := by
 induction l with
 | nil => left; exact ⟨rfl, by simp⟩
 | cons a r ih =>
  by_cases hp : p a = true
  ·right; exact ⟨0, by simp, bu9 hp, hp, by simp⟩
  ·have hp' := Bool.eq_false_iff.2 hp
   rcases ih with ⟨h1, h2⟩ | ⟨i, h, h1, h2, h3⟩
   ·left
    refine ⟨by rw [a73 hp, if_pos h1], ?_⟩
    intro x hx
    rcases List.mem_cons.1 hx with rfl | hx
    ·exact hp'
    ·exact h2 x hx
   ·right
    refine ⟨i + 1, by simpa using h, ?_, by simpa using h2, ?_⟩
    ·rw [a73 hp, h1, if_neg (by omega)]; omega
    ·intro x hx
     rw [List.take_succ_cons] at hx
     rcases List.mem_cons.1 hx with rfl | hx
     ·exact hp'
     ·exact h3 x hx
theorem bA4 {name : Str} {a : aa4} {r : List aa4} (h : be2 name a = true) : ar5 name (a :: r) = (a.Value, true) := by simp [ar5, h]
theorem bq5 {name : Str} {a : aa4} {r : List aa4} (h : ¬ be2 name a = true) : ar5 name (a :: r) = ar5 name r := by simp [ar5, h]
theorem bT3 {name : Str} {l : List aa4} (h : ∀ a ∈ l, be2 name a = false) : ar5 name l = ([], false) := by
 induction l with
 | nil => rfl
 | cons a r ih => rw [ar5, h a (by simp), if_neg (by simp)]; exact ih fun x hx => h x (List.mem_cons_of_mem _ hx)
theorem bN9 {name : Str} : ∀ {l : List aa4} {i : Nat} (h : i < l.length), be2 name l[i] = true → (∀ a ∈ l.take i, be2 name a = false) → ar5 name l = (l[i].Value, true)
 | [], _, h, _, _ => by simp at h
 | a :: r, 0, _, h1, _ => by
  simp only [List.getElem_cons_zero] at h1 ⊢
  rw [ar5, if_pos h1]
 | a :: r, i + 1, h, h1, h2 => by
  rw [ar5, h2 a (by simp), if_neg (by simp)]
  exact bN9 (i := i) (by simpa using h) (by simpa using h1) fun x hx => h2 x (by rw [List.take_succ_cons]; exact List.mem_cons_of_mem _ hx)
theorem cb5 {l : List aa4} {name : Str} (hl : l.length ≤ 1000000) : aX4 l name = some (aS3 (be2 name) l) := by
 unfold aX4
 rw [ba3]
 unfold af8
 refine av1 hl ?_ ?_
 ·intro i hi
  simp only [ac2, dlt hi, if_true, aa6 hi, Option.bind_some, aU0]
  rfl
 ·simp [ac2]
theorem b17 {l : List aa4} {name : Str} (hl : l.length ≤ 1000000) : aU1 l name = some (ar5 name l) := by
 unfold aU1
 rw [cb5 hl, Option.bind_some]
 rcases bA3 (be2 name) l with ⟨h1, h2⟩ | ⟨i, h, h1, h2, h3⟩
 ·rw [h1, bT3 h2]; rfl
 ·have : ¬ ((i : Int) < 0) := by omega
  rw [h1, bN9 h h2 h3]
  simp only [this, decide_false, Bool.false_eq_true, if_false, aa6 h, Option.bind_some]
theorem bq6 {l : List aa4} {name : Str} (hl : l.length ≤ 1000000) : aM4 l name = some (ar5 name l) := by
 unfold aM4
 refine (ac6 l.length (fun (_ : Unit) i => i) (fun s => av0 l name s) (fun i _ => ar5 name (l.drop i)) (fun _ _ => True) (s0 := ()) trivial ?_ ?_).trans rfl
 ·intro _ i hi _
  have hbody : av0 l name (i : Int) = if be2 name l[i] then some (.done (l[i].Value, true)) else some (.cont ((i : Int) + 1)) := by
   simp only [av0, dlt hi, if_true, aa6 hi, Option.bind_some]
   rw [aa9 (by omega), show be2 name l[i] = (!l[i].Query && decide (l[i].Name = name)) from rfl]
   by_cases h : l[i].Name = name <;> cases hq : l[i].Query <;> simp [h]
  rw [hbody, List.drop_eq_getElem_cons hi]
  by_cases hf : be2 name l[i] = true
  ·right; rw [if_pos hf, bA4 hf]
  ·left; rw [if_neg hf, bq5 hf]; exact ⟨(), rfl, rfl, trivial⟩
 ·intro _ _
  simp [av0, ar5]
theorem cb6 {α : Type} {p : α → Bool} {l : List α} {body : Int × Int × List α → Option (Step (Int × Int × List α) (List α))} (hl : l.length ≤ 1000000)
  (hb : ∀ (i j : Nat) (s : List α) (hi : i < s.length) (hj : j < s.length), body ((i : Int), (j : Int), s) = if !p s[j] then some (.cont (IntKind.wrap .i64 ((i : Int) + 1), IntKind.wrap .i64 ((j : Int) + 1), s.set i s[j])) else some (.cont ((i : Int), IntKind.wrap .i64 ((j : Int) + 1), s)))
  (he : ∀ (i : Nat) (s : List α), i ≤ s.length → body ((i : Int), (s.length : Int), s) = some (.done (s.take i))) {i0 : Nat} (h0 : i0 < l.length) (hp0 : p l[i0] = true) (hbef : ∀ a ∈ l.take i0, p a = false) :
  ab0 body ((i0 : Int), IntKind.wrap .i64 ((i0 : Int) + 1), l) = some (l.filter fun a => !p a) := by
 have hw0 : IntKind.wrap .i64 ((i0 : Int) + 1) = ((i0 + 1 : Nat) : Int) := by rw [ai0 (by omega) (by omega)]; omega
 rw [hw0]
 have hf0 : (l.take (i0 + 1)).filter (fun a => !p a) = l.take i0 := by
  rw [List.take_succ_eq_append_getElem h0, List.filter_append, List.filter_eq_self.2 (fun a ha => by simp [hbef a ha])]
  simp [hp0]
 refine (bp9 (σ := Nat × Nat × List α) body (fun x => ((x.1 : Int), (x.2.1 : Int), x.2.2)) (fun _ => l.filter fun a => !p a) (fun x => l.length - x.2.1)
  (fun x => x.1 < x.2.1 ∧ x.2.1 ≤ l.length ∧ x.2.2.length = l.length ∧ x.2.2.take x.1 = (l.take x.2.1).filter (fun a => !p a) ∧ x.2.2.drop x.2.1 = l.drop x.2.1) ?_ (s0 := (i0, i0 + 1, l)) ⟨by simp, by simp only; omega, rfl, by simp only; exact hf0.symm, rfl⟩).trans rfl
 rintro ⟨i, j, s⟩ ⟨h1, h2, h3, h4, h5⟩
 simp only at h1 h2 h3 h4 h5
 rcases Nat.lt_or_ge j l.length with hj | hj
 ·left
  have hjs : j < s.length := by omega
  have hwi : IntKind.wrap .i64 ((i : Int) + 1) = ((i + 1 : Nat) : Int) := by rw [ai0 (by omega) (by omega)]; omega
  have hwj : IntKind.wrap .i64 ((j : Int) + 1) = ((j + 1 : Nat) : Int) := by rw [ai0 (by omega) (by omega)]; omega
  have hsj : s[j] = l[j] := by
   rw [List.drop_eq_getElem_cons hjs, List.drop_eq_getElem_cons hj] at h5
   exact (List.cons.inj h5).1
  have h5' : s.drop (j + 1) = l.drop (j + 1) := by
   rw [List.drop_eq_getElem_cons hjs, List.drop_eq_getElem_cons hj] at h5
   exact (List.cons.inj h5).2
  simp only
  rw [hb i j s (by omega) hjs]
  cases hp : p s[j] with
  | true =>
   refine ⟨(i, j + 1, s), ?_, by trivial, ⟨by simp only; omega, by simp only; omega, h3, ?_, h5'⟩, by simp only; omega⟩
   ·simp only [Bool.not_true, Bool.false_eq_true, if_false, hwj]
   ·simp only
    rw [h4, List.take_succ_eq_append_getElem hj, List.filter_append]
    simp [← hsj, hp]
  | false =>
   refine ⟨(i + 1, j + 1, s.set i s[j]), ?_, by trivial, ⟨by simp only; omega, by simp only; omega, by simp [h3], ?_, ?_⟩, by simp only; omega⟩
   ·simp only [Bool.not_false, if_true, hwi, hwj]
   ·simp only
    rw [List.take_succ_eq_append_getElem (by simp; omega), List.getElem_set_self, List.take_set_of_le (Nat.le_refl _), h4, List.take_succ_eq_append_getElem hj, List.filter_append]
    simp [← hsj, hp]
   ·simp only
    rw [List.drop_set_of_lt (by omega)]; exact h5'
 ·right
  have : j = s.length := by omega
  subst this
  simp only
  rw [he i s (by omega), h4, List.take_of_length_le hj]
theorem cu7 (l : List UInt8) (c : UInt8) : decide (Go.Lib.indexByte l c < 0) = !l.contains c := by
 rw [← cg7, Bool.eq_iff_iff]
 simp
theorem bA5 (l : Str) (c : UInt8) : strings_IndexByte l (c.toNat : Int) = some (Go.Lib.indexByte l c) := by
 unfold strings_IndexByte stringslite_IndexByte aL4
 rw [bq0]; rfl
def dC (more : Str) (c : UInt8) : Bool := ((decide (97 ≤ (c.toNat : Int)) && decide ((c.toNat : Int) ≤ 122)) || (decide (48 ≤ (c.toNat : Int)) && decide ((c.toNat : Int) ≤ 57))) || more.contains c
def am6 (s more : Str) (most : Nat) : Bool := !decide (s = []) && (decide (s.length ≤ most) && s.all (dC more))
theorem bH3 {s more : Str} {most : Nat} (hm : most ≤ 1000000) : aL6 s (most : Int) more = some (am6 s more most) := by
 unfold aL6 am6
 by_cases h0 : s = []
 ·simp [h0]
 by_cases h1 : s.length ≤ most
 ·have h2 : ¬ ((most : Int) < (List.length s : Int)) := by omega
  simp only [h0, h2, decide_false, Bool.or_self, Bool.false_eq_true, if_false, h1, decide_true, Bool.not_false, Bool.true_and]
  refine (ac6 s.length (fun (_ : Unit) i => i) (fun v => ax9 s more v) (fun i _ => (s.drop i).all (dC more)) (fun _ _ => True) (s0 := ()) trivial ?_ ?_).trans rfl
  ·intro _ i hi _
   have key : ∀ (b : Bool) (c : UInt8), ((if (decide ((c.toNat : Int) < 97)) then (if (decide ((c.toNat : Int) < 48)) then some (!b) else (if (decide (57 < (c.toNat : Int))) then some (!b) else some false)) else (if (decide (122 < (c.toNat : Int))) then (if (decide ((c.toNat : Int) < 48)) then some (!b) else (if (decide (57 < (c.toNat : Int))) then some (!b) else some false)) else some false)) : Option Bool)
     = some (!(((decide (97 ≤ (c.toNat : Int)) && decide ((c.toNat : Int) ≤ 122)) || (decide (48 ≤ (c.toNat : Int)) && decide ((c.toNat : Int) ≤ 57))) || b)) := by
    intro b
    cases b
    ·exact aO6 (by decide +kernel)
    ·exact aO6 (by decide +kernel)
   simp only [ax9, dlt hi, if_true, ak8 hi, Option.bind_some, bA5, cu7, key, List.drop_eq_getElem_cons hi, List.all_cons]
   change (∃ s', (if (!dC more s[i]) = true then _ else _) = _ ∧ _ ∧ _) ∨ (if (!dC more s[i]) = true then _ else _) = _
   cases dC more s[i] with
   | false => right; simp
   | true =>
    left
    refine ⟨(), ?_, by simp, trivial⟩
    simp only [Bool.not_true, Bool.false_eq_true, if_false]
    rw [aa9 (by omega)]
  ·intro _ _
   simp [ax9]
 ·have h2 : ((most : Int) < (List.length s : Int)) := by omega
  simp [h0, h1, h2]
theorem bv3 {s more : Str} {i : Nat} (hi : i < s.length) (hl : s.length ≤ 1000000) (hm : more.length ≤ 1000000) (ok : Bool) :
  ab0 (fun x => aj6 s more (i : Int) x.1 x.2) (ok, 0) = some (if (ok || more.contains s[i]) = true then Step.cont ((i : Int) + 1) else Step.done false) := by
 refine (ac6 (τ := Bool × Int) more.length (fun (x : Bool) k => (x, k)) (fun x => aj6 s more (i : Int) x.1 x.2) (fun k x => if (x || (more.drop k).contains s[i]) = true then Step.cont ((i : Int) + 1) else Step.done false) (fun _ _ => True) (s0 := ok) trivial ?_ ?_).trans (by simp)
 ·intro x k hk _
  left
  refine ⟨x || decide (s[i] = more[k]), ?_, ?_, trivial⟩
  ·simp only [aj6, dlt hk, if_true, ak8 hi, ak8 hk, Option.bind_some, isC]
   rw [aa9 (by omega)]
   cases x <;> rfl
  ·simp only [List.drop_eq_getElem_cons hk, List.contains_cons]
   have : (s[i] == more[k]) = decide (s[i] = more[k]) := by rw [Bool.eq_iff_iff]; simp
   rw [this, Bool.or_assoc]
 ·intro x _
  simp only [aj6, dge, Bool.false_eq_true, if_false, aA3, List.drop_length]
  rw [aa9 (by omega)]
  cases x <;> simp
theorem ba5 {s more : Str} {most : Nat} (hs : s.length ≤ 1000000) (hm : more.length ≤ 1000000) : aq2 s more (most : Int) = some (am6 s more most) := by
 unfold aq2
 refine (ac6 s.length (fun (_ : Unit) i => i) (fun v => ao0 s more (most : Int) v) (fun i _ => (s.drop i).all (dC more) && (!decide (s = []) && decide (s.length ≤ most))) (fun _ _ => True) (s0 := ()) trivial ?_ ?_).trans ?_
 ·intro _ i hi _
  have key : ∀ c : UInt8, ((if (decide (97 ≤ (c.toNat : Int))) then (if (decide ((c.toNat : Int) ≤ 122)) then some true else (if (decide (48 ≤ (c.toNat : Int))) then some (decide ((c.toNat : Int) ≤ 57)) else some false)) else (if (decide (48 ≤ (c.toNat : Int))) then some (decide ((c.toNat : Int) ≤ 57)) else some false)) : Option Bool)
    = some ((decide (97 ≤ (c.toNat : Int)) && decide ((c.toNat : Int) ≤ 122)) || (decide (48 ≤ (c.toNat : Int)) && decide ((c.toNat : Int) ≤ 57))) := aO6 (by decide +kernel)
  simp only [ao0, dlt hi, if_true, ak8 hi, Option.bind_some, key, bv3 hi hs hm, List.drop_eq_getElem_cons hi, List.all_cons]
  change (∃ s', some (if dC more s[i] = true then _ else _) = _ ∧ _ ∧ _) ∨ some (if dC more s[i] = true then _ else _) = _
  cases dC more s[i] with
  | false => right; simp
  | true => left; exact ⟨(), by simp, by simp, trivial⟩
 ·intro _ _
  simp only [ao0, dge, Bool.false_eq_true, if_false, List.drop_length, List.all_nil, Bool.true_and]
  congr 2
  cases s with
  | nil => rfl
  | cons c r =>
   have : decide ((1 : Int) ≤ (List.length (c :: r) : Int)) = true := by simp only [List.length_cons, decide_eq_true_eq]; omega
   rw [this]
   have e : decide ((List.length (c :: r) : Int) ≤ (most : Int)) = decide (List.length (c :: r) ≤ most) := by rw [Bool.eq_iff_iff]; simp only [decide_eq_true_eq]; omega
   rw [e]; simp
 ·simp only [List.drop_zero, am6]
  congr 1
  cases s.all (dC more) <;> cases decide (s = []) <;> cases decide (s.length ≤ most) <;> rfl
def bH4 (s : Str) : Bool := am6 s [45, 95] 32 && (match s with | c :: _ => decide (97 ≤ (c.toNat : Int)) | [] => false)
def aN3 (s : Str) : Bool := am6 s [45, 95, 46] 64
def svcB (s : Str) : Bool := decide (s = []) || am6 s [45, 95] 32
def at9 (a : aa2) : Bool := bH4 a.Net && ((decide (a.Host = [42]) || aN3 a.Host) && svcB a.Service)
theorem bO0 (s : Str) : aL7 s = some (bH4 s) := by
 unfold aL7 bH4
 have h := bH3 (s := s) (more := [45, 95]) (most := 32) (by omega)
 rw [show ((32 : Nat) : Int) = 32 from rfl] at h
 rw [h, Option.bind_some]
 cases hl : am6 s [45, 95] 32 with
 | false => simp
 | true =>
  cases s with
  | nil => simp [am6] at hl
  | cons c r =>
   have hat : ah7 (c :: r) 0 = some c := rfl
   have hd : dC [45, 95] c = true := by
    unfold am6 at hl
    simp only [Bool.and_eq_true, List.all_cons] at hl
    exact hl.2.2.1
   have key : ∀ c : UInt8, (!dC [45, 95] c || !decide (97 ≤ (c.toNat : Int)) || decide ((c.toNat : Int) ≤ 122)) = true := aX1 (by decide +kernel)
   have k := key c
   rw [hd] at k
   simp only [if_true, hat, Option.bind_some, Bool.true_and]
   cases h97 : decide (97 ≤ (c.toNat : Int)) with
   | false => simp
   | true => rw [h97] at k; simp only [Bool.not_true, Bool.false_or] at k; simp [k]
theorem bk8 (s : Str) : aA1 s = some (aN3 s) := by
 unfold aA1 aN3
 have h := bH3 (s := s) (more := [45, 95, 46]) (most := 64) (by omega)
 rw [show ((64 : Nat) : Int) = 64 from rfl] at h
 rw [h]; rfl
theorem bA6 {s : Str} (hs : s.length ≤ 1000000) : aU7 s = some (bH4 s) := by
 unfold aU7 bH4
 have h := ba5 (s := s) (more := [45, 95]) (most := 32) hs (by simp)
 rw [show ((32 : Nat) : Int) = 32 from rfl] at h
 rw [h, Option.bind_some]
 cases hl : am6 s [45, 95] 32 with
 | false => simp
 | true =>
  cases s with
  | nil => simp [am6] at hl
  | cons c r =>
   have hat : ah7 (c :: r) 0 = some c := rfl
   simp [hat]
theorem bq7 {s : Str} (hs : s.length ≤ 1000000) : aM3 s = some (aN3 s) := by
 unfold aM3 aN3
 have h := ba5 (s := s) (more := [45, 95, 46]) (most := 64) hs (by simp)
 rw [show ((64 : Nat) : Int) = 64 from rfl] at h
 rw [h]; rfl
theorem bf9 (a : aa2) : aF5 a = some (at9 a) := by
 unfold aF5 at9 svcB
 have h := bH3 (s := a.Service) (more := [45, 95]) (most := 32) (by omega)
 rw [show ((32 : Nat) : Int) = 32 from rfl] at h
 simp only [h, bO0, bk8, Option.bind_some]
 cases bH4 a.Net <;> cases h1 : decide (a.Host = [42]) <;> cases aN3 a.Host <;> cases h2 : decide (a.Service = []) <;> cases am6 a.Service [45, 95] 32 <;> simp
theorem a34 {a : aa2} (h1 : a.Net.length ≤ 1000000) (h2 : a.Host.length ≤ 1000000) (h3 : a.Service.length ≤ 1000000) : aA4 a = some (at9 a) := by
 unfold aA4 at9 svcB
 have h := ba5 (s := a.Service) (more := [45, 95]) (most := 32) h3 (by simp)
 rw [show ((32 : Nat) : Int) = 32 from rfl] at h
 simp only [h, bA6 h1, bq7 h2, Option.bind_some]
 cases bH4 a.Net <;> cases h1 : decide (a.Host = [42]) <;> cases aN3 a.Host <;> cases h2 : decide (a.Service = []) <;> cases am6 a.Service [45, 95] 32 <;> simp
def au0 (sep : UInt8) : Str → Str → List Str
 | acc, [] => [acc]
 | acc, c :: r => if c = sep then acc :: au0 sep [] r else au0 sep (acc ++ [c]) r
theorem bH5 {sep : UInt8} {a : Str} (h : sep ∉ a) (acc : Str) : au0 sep acc a = [acc ++ a] := by
 induction a generalizing acc with
 | nil => simp [au0]
 | cons c r ih =>
  simp only [List.mem_cons, not_or] at h
  rw [au0, if_neg (fun e => h.1 e.symm), ih h.2]
  simp
theorem bT4 {sep : UInt8} {a b : Str} (h : sep ∉ a) (acc : Str) : au0 sep acc (a ++ sep :: b) = (acc ++ a) :: au0 sep [] b := by
 induction a generalizing acc with
 | nil => simp [au0]
 | cons c r ih =>
  simp only [List.mem_cons, not_or] at h
  rw [List.cons_append, au0, if_neg (fun e => h.1 e.symm), ih h.2]
  simp
theorem ba6 {sep : UInt8} : ∀ (p acc : Str), ∀ x ∈ au0 sep acc p, x.length ≤ acc.length + p.length
 | [], acc, x, h => by simp [au0] at h; subst h; simp
 | c :: r, acc, x, h => by
  unfold au0 at h
  split at h
  ·rcases List.mem_cons.1 h with rfl | h
   ·omega
   ·have := ba6 r [] x h
    simp at this ⊢; omega
  ·have := ba6 r (acc ++ [c]) x h
   simp at this ⊢; omega
theorem bH6 (l : Str) (c : UInt8) : (c ∉ l ∧ Go.Lib.indexByte l c = -1) ∨ ∃ a b, l = a ++ c :: b ∧ c ∉ a ∧ Go.Lib.indexByte l c = (a.length : Int) := by
 induction l with
 | nil => exact .inl ⟨by simp, rfl⟩
 | cons x r ih =>
  by_cases hx : x = c
  ·subst hx
   exact .inr ⟨[], r, rfl, by simp, by simp [Go.Lib.indexByte]⟩
  ·have hx' : (x == c) = false := by simpa using hx
   rcases ih with ⟨h1, h2⟩ | ⟨a, b, h1, h2, h3⟩
   ·refine .inl ⟨by simp [h1, Ne.symm hx], ?_⟩
    simp [Go.Lib.indexByte, hx', h2]
   ·refine .inr ⟨x :: a, b, by rw [h1]; rfl, by simp [h2, Ne.symm hx], ?_⟩
    have : ¬ ((a.length : Int) = -1) := by omega
    simp [Go.Lib.indexByte, hx', h3, this]
theorem bH7 {p : Str} {sep : UInt8} (h : p.length ≤ 1000000000) : aw5 p [sep] 0 (-1) = some (au0 sep [] p) := by
 unfold aw5
 simp only [show decide ((-1 : Int) = 0) = false from rfl, show decide (([sep] : Str) = []) = false by simp, show decide ((-1 : Int) < 0) = true from rfl, if_true, Bool.false_eq_true, if_false]
 have hcnt : strings_Count p [sep] = some ((p.count sep : Nat) : Int) := rfl
 have hle : p.count sep ≤ p.length := List.count_le_length
 rw [hcnt, Option.bind_some, ai0 (by omega) (by omega)]
 unfold ap6
 have hmin : min ((p.count sep : Int) + 1) (IntKind.wrap .i64 ((List.length p : Int) + 1)) = ((p.count sep + 1 : Nat) : Int) := by
  rw [ai0 (by omega) (by omega)]; omega
 have hmk : mkC 16 ([] : Str) (((p.count sep + 1 : Nat) : Int)) (((p.count sep + 1 : Nat) : Int)) = some (List.replicate (p.count sep + 1) []) := by
  unfold mkC
  rw [if_pos ⟨by omega, by omega, by omega, by omega⟩, Int.toNat_natCast]
 have hlim : IntKind.wrap .i64 (((p.count sep + 1 : Nat) : Int) - 1) = ((p.count sep : Nat) : Int) := by rw [ai0 (by omega) (by omega)]; omega
 rw [hmin, hmk, Option.bind_some]
 refine (ac6 (τ := Str × Int × List Str) (p.count sep) (fun (s : Str × List Str) i => (s.1, i, s.2)) (fun s => aj1 p [sep] 0 ((p.count sep : Int) + 1) s.1 s.2.1 s.2.2)
  (fun i s => s.2.take i ++ au0 sep [] s.1) (fun i s => i + s.1.count sep = p.count sep ∧ s.2.length = p.count sep + 1 ∧ s.1.length ≤ p.length) (s0 := (p, List.replicate (p.count sep + 1) [])) ⟨by simp, by simp, Nat.le_refl _⟩ ?_ ?_).trans ?_
 ·rintro ⟨s, a⟩ i hi ⟨h1, h2, h3⟩
  simp only at h1 h2 h3
  left
  rcases bH6 s sep with ⟨hn, _⟩ | ⟨x, y, rfl, hx, hix⟩
  ·have : s.count sep = 0 := List.count_eq_zero.2 hn
   omega
  ·have hidx : strings_Index (x ++ sep :: y) [sep] = some (x.length : Int) := by
    show some _ = _
    rw [hix]
   simp only [List.length_append, List.length_cons] at h3
   have hia : i < a.length := by omega
   have e1 : cut (x ++ sep :: y) 0 (IntKind.wrap .i64 ((x.length : Int) + 0)) = some x := by
    rw [ai0 (by omega) (by omega), Int.add_zero, a61 (by simp)]
    simp
   have e2 : cut (x ++ sep :: y) (IntKind.wrap .i64 ((x.length : Int) + (List.length ([sep] : Str) : Int))) (List.length (x ++ sep :: y) : Int) = some y := by
    have hw : IntKind.wrap .i64 ((x.length : Int) + (List.length ([sep] : Str) : Int)) = ((x.length + 1 : Nat) : Int) := by
     rw [ai0 (by simp; omega) (by simp; omega)]; simp
    rw [hw, a62 (by simp)]
    rw [show (x ++ sep :: y) = (x ++ [sep]) ++ y by simp, List.drop_left' (by simp)]
   have hneg : ¬ ((x.length : Int) < 0) := by omega
   have hcond : (i : Int) < ((p.count sep : Nat) : Int) := by omega
   refine ⟨(y, a.set i x), ?_, ?_, ?_, by simp [h2], by simp; omega⟩
   ·simp only [aj1, hmin, hlim, hcond, decide_true, if_true, hidx, Option.bind_some, hneg, decide_false, Bool.false_eq_true, if_false, e1, e2, aa6 hia, Int.toNat_natCast]
    rw [b01 hi (by unfold maxLen; omega)]
   ·simp only
    rw [bT4 hx, List.take_succ_eq_append_getElem (by simp; omega), List.getElem_set_self, List.take_set_of_le (Nat.le_refl _)]
    simp
   ·simp only [List.count_append, List.count_cons, List.count_eq_zero.2 hx] at h1
    simp at h1 ⊢
    omega
 ·rintro ⟨s, a⟩ ⟨h1, h2, h3⟩
  simp only at h1 h2 h3
  have hc : s.count sep = 0 := by omega
  have hia : p.count sep < a.length := by omega
  have hcond : ¬ (((p.count sep : Nat) : Int) < ((p.count sep : Nat) : Int)) := by omega
  have e1 : cut (List.set a (p.count sep) s) 0 (IntKind.wrap .i64 (((p.count sep : Nat) : Int) + 1)) = some (List.take (p.count sep) a ++ [s]) := by
   rw [ai0 (by omega) (by omega)]
   have := a61 (l := List.set a (p.count sep) s) (b := p.count sep + 1) (by simp; omega)
   rw [show ((p.count sep + 1 : Nat) : Int) = ((p.count sep : Nat) : Int) + 1 by omega] at this
   rw [this, List.take_succ_eq_append_getElem (by simp; omega), List.getElem_set_self, List.take_set_of_le (Nat.le_refl _)]
  simp only [aj1, ap5, hmin, hlim, hcond, decide_false, Bool.false_eq_true, if_false, aa6 hia, Option.bind_some, Int.toNat_natCast, e1, Option.map_some]
  rw [bH5 (List.count_eq_zero.1 hc)]
  rfl
 ·simp
theorem cb7 {p : Str} {sep : UInt8} (h : p.length ≤ 1000000000) : aE5 p [sep] = some (au0 sep [] p) := by
 unfold aE5
 rw [bH7 h]; rfl
theorem is33 (c : UInt8) : decide ((c.toNat : Int) = 33) = decide (c = 33) := isC c 33
theorem bH8 {p : Str} (h : p.length ≤ 50000) : aP5 p = some (au0 33 [] p) := by
 unfold aP5
 refine (ac6 (τ := Int × Int × List Str) (p.length + 1) (fun (s : Nat × List Str) i => ((s.1 : Int), i, s.2)) (fun s => ak2 p s.1 s.2.1 s.2.2)
  (fun i s => if i = p.length + 1 then s.2 else s.2 ++ au0 33 ((p.take i).drop s.1) (p.drop i)) (fun i s => s.1 ≤ i ∧ s.2.length ≤ i) (s0 := (0, [])) ⟨by simp, by simp⟩ ?_ ?_).trans ?_
 ·rintro ⟨from', out⟩ i hi ⟨h1, h2⟩
  simp only at h1 h2
  left
  have hle : (i : Int) ≤ (List.length p : Int) := by omega
  have hcut : cut p (from' : Int) (i : Int) = some ((p.take i).drop from') := a16 h1 (by omega)
  have happ : aq9 16 out [(p.take i).drop from'] = some (out ++ [(p.take i).drop from']) := ad0 (by simp; omega) (by simp; omega)
  have hw : IntKind.wrap .i64 ((i : Int) + 1) = (i : Int) + 1 := ai0 (by omega) (by omega)
  by_cases hi2 : i = p.length
  ·have hi3 : (i : Int) = (List.length p : Int) := by omega
   refine ⟨(i + 1, out ++ [(p.take i).drop from']), ?_, ?_, by simp, by simp; omega⟩
   ·simp only [ak2, hle, hi3, decide_true, if_true, Option.bind_some]
    rw [← hi3, hcut, Option.bind_some, happ, Option.bind_some, hw]
    simp
   ·simp only
    rw [if_neg (by omega), if_pos (by omega), hi2]
    simp [au0]
  ·have hi3 : ¬ (i : Int) = (List.length p : Int) := by omega
   have hlt : i < p.length := by omega
   by_cases hs : p[i] = 33
   ·refine ⟨(i + 1, out ++ [(p.take i).drop from']), ?_, ?_, by simp, by simp; omega⟩
    ·simp only [ak2, hle, hi3, decide_true, decide_false, if_true, Bool.false_eq_true, if_false, ak8 hlt, Option.bind_some, is33, hs, hcut, happ, hw]
     rfl
    ·simp only
     rw [if_neg (by omega), if_neg (by omega), List.drop_eq_getElem_cons hlt, au0, if_pos hs]
     have : (p.take (i + 1)).drop (i + 1) = [] := List.drop_of_length_le (by simp; omega)
     rw [this, List.append_assoc]; rfl
   ·refine ⟨(from', out), ?_, ?_, by simp; omega, by simp; omega⟩
    ·simp only [ak2, hle, hi3, decide_true, decide_false, if_true, Bool.false_eq_true, if_false, ak8 hlt, Option.bind_some, is33, hs, hw]
    ·simp only
     rw [if_neg (by omega), if_neg (by omega), List.drop_eq_getElem_cons hlt, au0, if_neg hs]
     congr 2
     rw [List.take_succ_eq_append_getElem hlt, List.drop_append_of_le_length (by simp; omega)]
 ·rintro ⟨from', out⟩ ⟨h1, h2⟩
  have : ¬ (((p.length + 1 : Nat) : Int) ≤ (List.length p : Int)) := by omega
  simp [ak2]
  omega
 ·simp
def be3 : aa2 × Int := (⟨[], [], []⟩, 36)
def af3 (s : Str) : aa2 × Int := match au0 33 [] s with
 | [n, h] => if at9 ⟨n, h, []⟩ then (⟨n, h, []⟩, 0) else be3
 | [n, h, v] => if at9 ⟨n, h, v⟩ && !decide (v = []) then (⟨n, h, v⟩, 0) else be3
 | _ => be3
theorem cb8 {n v : Str} : at9 ⟨n, [], v⟩ = false := by
 unfold at9
 have : (decide (([] : Str) = [42]) || aN3 []) = false := by decide
 simp only [this, Bool.false_and, Bool.and_false]
theorem b18 {s : Str} (h : s.length ≤ 50000) : aF6 s = some (af3 s) := by
 unfold aF6 af3
 rw [cb7 (by omega), Option.bind_some]
 generalize au0 33 [] s = l
 match l with
 | [] => rfl
 | [a] => rfl
 | [n, h] =>
  have e1 : aa8 [n, h] 0 = some n := rfl
  have e2 : aa8 [n, h] 1 = some h := rfl
  simp only [List.length_cons, List.length_nil, e1, e2, Option.bind_some, ay0, bf9]
  cases at9 ⟨n, h, []⟩ <;> simp [be3]
 | [n, h, v] =>
  have e1 : aa8 [n, h, v] 0 = some n := rfl
  have e2 : aa8 [n, h, v] 1 = some h := rfl
  have e3 : aa8 [n, h, v] 2 = some v := rfl
  simp only [List.length_cons, List.length_nil, e1, e2, e3, Option.bind_some, ay0, bf9]
  cases at9 ⟨n, h, v⟩ <;> cases hv : decide (v = []) <;> simp_all [be3]
 | a :: b :: c :: d :: r =>
  have : (3 : Int) < (List.length (a :: b :: c :: d :: r) : Int) := by simp only [List.length_cons]; omega
  simp only [this, decide_true, Bool.or_true, if_true]
  rfl
theorem bq8 {s : Str} (h : s.length ≤ 50000) : aH7 s = some (af3 s) := by
 unfold aH7 af3
 rw [bH8 h, Option.bind_some]
 have hm := ba6 (sep := 33) s []
 generalize au0 33 [] s = l at hm
 match l, hm with
 | [], _ => rfl
 | [a], _ => rfl
 | [n, h], hm =>
  have e1 : aa8 [n, h] 0 = some n := rfl
  have e2 : aa8 [n, h] 1 = some h := rfl
  have e4 : aa8 [n, h] (IntKind.wrap .i64 (2 - 1)) = some h := rfl
  have l1 := hm n (by simp)
  have l2 := hm h (by simp)
  have hr := a34 (a := ⟨n, h, []⟩) (by simp only; simp at l1; omega) (by simp only; simp at l2; omega) (by simp)
  have hl : (List.length [n, h] : Int) = 2 := rfl
  simp only [hl, e1, e2, e4, Option.bind_some, aw1, hr]
  by_cases hh : h = []
  ·subst hh
   simp [cb8, be3]
  ·cases at9 ⟨n, h, []⟩ <;> simp [be3, hh]
 | [n, h, v], hm =>
  have e1 : aa8 [n, h, v] 0 = some n := rfl
  have e2 : aa8 [n, h, v] 1 = some h := rfl
  have e3 : aa8 [n, h, v] 2 = some v := rfl
  have e4 : aa8 [n, h, v] (IntKind.wrap .i64 (3 - 1)) = some v := rfl
  have l1 := hm n (by simp)
  have l2 := hm h (by simp)
  have l3 := hm v (by simp)
  have hr := a34 (a := ⟨n, h, v⟩) (by simp only; simp at l1; omega) (by simp only; simp at l2; omega) (by simp only; simp at l3; omega)
  have hl : (List.length [n, h, v] : Int) = 3 := rfl
  simp only [hl, e1, e2, e3, e4, Option.bind_some, aw1, hr]
  by_cases hv : v = []
  ·subst hv; cases at9 ⟨n, h, []⟩ <;> simp [be3]
  ·cases at9 ⟨n, h, v⟩ <;> simp [be3, hv]
 | a :: b :: c :: d :: r, _ =>
  have h1 : (3 : Int) < (List.length (a :: b :: c :: d :: r) : Int) := by simp only [List.length_cons]; omega
  have h2 : ¬ ((List.length (a :: b :: c :: d :: r) : Int) < 2) := by simp only [List.length_cons]; omega
  simp only [h1, h2, decide_true, decide_false, Bool.false_eq_true, if_false, if_true, Option.bind_some]
  rfl
def bq9 (a : aa2) : Str × Int := if at9 a then (a.Net ++ [33] ++ a.Host ++ (if a.Service = [] then [] else [33] ++ a.Service), 0) else ([], 36)
theorem b19 {a : aa2} (h1 : a.Net.length ≤ 1000000) (h2 : a.Host.length ≤ 1000000) (h3 : a.Service.length ≤ 1000000) : aL8 a = some (bq9 a) := by
 unfold aL8 bq9
 have c1 : ax1 a.Net [33] = some (a.Net ++ [33]) := ad7 (by simp; omega)
 have c2 : ax1 (a.Net ++ [33]) a.Host = some (a.Net ++ [33] ++ a.Host) := ad7 (by simp; omega)
 have c3 : ax1 [33] a.Service = some ([33] ++ a.Service) := ad7 (by simp; omega)
 have c4 : ax1 (a.Net ++ [33] ++ a.Host) ([33] ++ a.Service) = some (a.Net ++ [33] ++ a.Host ++ ([33] ++ a.Service)) := ad7 (by simp; omega)
 simp only [bf9, c1, c2, c3, c4, Option.bind_some]
 cases at9 a <;> by_cases hs : a.Service = [] <;> simp [hs]
theorem cm0 {l : List aa4} (h : l.length ≤ 1000000) : a65 l = some (l.any (·.Query)) := by
 unfold a65 af2
 have hix : ad4 l = some (aS3 (fun a => a.Query) l) := by
  unfold ad4
  refine av1 h ?_ ?_
  ·intro i hi
   simp only [ac3, dlt hi, if_true, aa6 hi, Option.bind_some, a18]
  ·simp [ac3]
 rw [hix, Option.bind_some, Option.bind_some, aQ5]
theorem bT5 {l : List aa4} (h : l.length ≤ 1000000) : aY0 l = some (l.any (·.Query)) := by
 unfold aY0
 refine (ac6 l.length (fun (_ : Unit) i => i) (fun s => ay8 l s) (fun i _ => (l.drop i).any (·.Query)) (fun _ _ => True) (s0 := ()) trivial ?_ ?_).trans rfl
 ·intro _ i hi _
  simp only [ay8, dlt hi, if_true, aa6 hi, Option.bind_some, List.drop_eq_getElem_cons hi, List.any_cons]
  cases l[i].Query with
  | true => right; simp
  | false =>
   left
   refine ⟨(), ?_, by simp, trivial⟩
   simp only [Bool.false_eq_true, if_false]
   rw [aa9 (by omega)]
 ·intro _ _
  simp [ay8]
def okE (out : List aa3) : Prop := out.length ≤ 256 ∧ ∀ x ∈ out, x.Attrs.length ≤ 32 ∧ ∀ a ∈ x.Attrs, okA a
theorem bk9 {l : List Str} {v : Str} (h : l.length ≤ 1000000) : af0 l v = some (l.contains v) := by
 unfold af0
 have hix : ah4 l v = some (aS3 (fun x => decide (v = x)) l) := by
  unfold ah4
  refine av1 h ?_ ?_
  ·intro i hi
   simp only [ag2, dlt hi, if_true, aa6 hi, Option.bind_some]
  ·simp [ag2]
 rw [hix, Option.bind_some, aQ5]
 congr 1
 rw [Bool.eq_iff_iff]
 simp
theorem b20 {l : List Str} {v : Str} (h : l.length ≤ 1000000) : aM5 l v = some (l.contains v) := by
 unfold aM5
 refine (ac6 l.length (fun (_ : Unit) i => i) (fun s => aC6 l v s) (fun i _ => (l.drop i).contains v) (fun _ _ => True) (s0 := ()) trivial ?_ ?_).trans rfl
 ·intro _ i hi _
  simp only [aC6, dlt hi, if_true, aa6 hi, Option.bind_some, List.drop_eq_getElem_cons hi, List.contains_cons]
  by_cases hv : l[i] = v
  ·right
   have : (v == l[i]) = true := by simp [hv]
   simp [hv]
  ·left
   have : (v == l[i]) = false := by simp [Ne.symm hv]
   refine ⟨(), ?_, by rw [this, Bool.false_or], trivial⟩
   simp only [hv, decide_false, Bool.false_eq_true, if_false]
   rw [aa9 (by omega)]
 ·intro _ _
  simp [aC6]
def aD7 (name : Str) : List Str → List aa3 → List Str
 | out, [] => out
 | out, x :: r => if (ar5 name x.Attrs).2 && !out.contains (ar5 name x.Attrs).1 then aD7 name (out ++ [(ar5 name x.Attrs).1]) r else aD7 name out r
def az3 (l : List aa3) (name : Str) : List Str := aD7 name [] l
def okD (l : List aa3) : Prop := l.length ≤ 1000 ∧ ∀ x ∈ l, x.Attrs.length ≤ 1000000
theorem bl0 {l : List aa3} {name : Str} (h : okD l) : as5 l name = some (az3 l name) := by
 unfold as5 az3
 have h1 := h.1
 refine (ac6 (τ := Int × List Str) l.length (fun (x : List Str) i => (i, x)) (fun x => av4 l name x.1 x.2) (fun i x => aD7 name x (l.drop i)) (fun i x => x.length ≤ i) (s0 := []) (by simp) ?_ ?_).trans rfl
 ·intro out i hi hl
  left
  have hap : ∀ v, aq9 16 out [v] = some (out ++ [v]) := fun v => ad0 (by simp; omega) (by simp; omega)
  have hw : IntKind.wrap .i64 ((i : Int) + 1) = (i : Int) + 1 := aa9 (by omega)
  refine ⟨if (ar5 name l[i].Attrs).2 && !out.contains (ar5 name l[i].Attrs).1 then out ++ [(ar5 name l[i].Attrs).1] else out, ?_, ?_, ?_⟩
  ·simp only [av4, dlt hi, if_true, aa6 hi, Option.bind_some, b17 (h.2 _ (List.getElem_mem hi)), a17, bk9 (l := out) (by omega), hap, hw]
   cases (ar5 name l[i].Attrs).2 <;> cases out.contains (ar5 name l[i].Attrs).1 <;> rfl
  ·simp only [List.drop_eq_getElem_cons hi, aD7]
   split <;> rfl
  ·split <;> (try simp) <;> omega
 ·intro out _
  simp [av4, aD7]
theorem aV3 {l : List aa3} {name : Str} (h : okD l) : ap0 l name = some (az3 l name) := by
 unfold ap0 az3
 have h1 := h.1
 refine (ac6 (τ := Int × List Str) l.length (fun (x : List Str) i => (i, x)) (fun x => aq5 l name x.1 x.2) (fun i x => aD7 name x (l.drop i)) (fun i x => x.length ≤ i) (s0 := []) (by simp) ?_ ?_).trans rfl
 ·intro out i hi hl
  left
  have hap : ∀ v, aq9 16 out [v] = some (out ++ [v]) := fun v => ad0 (by simp; omega) (by simp; omega)
  have hw : IntKind.wrap .i64 ((i : Int) + 1) = (i : Int) + 1 := aa9 (by omega)
  refine ⟨if (ar5 name l[i].Attrs).2 && !out.contains (ar5 name l[i].Attrs).1 then out ++ [(ar5 name l[i].Attrs).1] else out, ?_, ?_, ?_⟩
  ·simp only [aq5, dlt hi, if_true, aa6 hi, Option.bind_some, bq6 (h.2 _ (List.getElem_mem hi)), b20 (l := out) (by omega), hap, hw]
   cases (ar5 name l[i].Attrs).2 <;> cases out.contains (ar5 name l[i].Attrs).1 <;> rfl
  ·simp only [List.drop_eq_getElem_cons hi, aD7]
   split <;> rfl
  ·split <;> (try simp) <;> omega
 ·intro out _
  simp [aq5, aD7]
def bv4 (name value : Str) (x : aa3) : Bool := (ar5 name x.Attrs).2 && decide ((ar5 name x.Attrs).1 = value)
def au1 (l : List aa3) (name value want : Str) : List Str := az3 (l.filter (bv4 name value)) want
theorem okD.filter {l : List aa3} (h : okD l) (p : aa3 → Bool) : okD (l.filter p) := ⟨Nat.le_trans (List.length_filter_le _ _) h.1, fun x hx => h.2 x (List.mem_filter.1 hx).1⟩
theorem bv5 {l : List aa3} {name value want : Str} (h : okD l) : au6 l name value want = some (au1 l name value want) := by
 unfold au6
 have h1 := h.1
 refine (ac6 (τ := Int × List aa3) l.length (fun (x : List aa3) i => (i, x)) (fun x => av5 l name value want x.1 x.2) (fun i x => au1 l name value want) (fun i x => x = (l.take i).filter (bv4 name value)) (s0 := []) (by simp) ?_ ?_).trans rfl
 ·rintro out i hi rfl
  left
  have hlen : ((l.take i).filter (bv4 name value)).length ≤ i := by
   have := List.length_filter_le (bv4 name value) (l.take i)
   simp at this; omega
  have hap : ∀ v, aq9 24 ((l.take i).filter (bv4 name value)) [v] = some ((l.take i).filter (bv4 name value) ++ [v]) := fun v => ad0 (by simp; omega) (by simp; omega)
  have hw : IntKind.wrap .i64 ((i : Int) + 1) = (i : Int) + 1 := aa9 (by omega)
  refine ⟨(l.take (i + 1)).filter (bv4 name value), ?_, rfl, rfl⟩
  simp only [av5, dlt hi, if_true, aa6 hi, Option.bind_some, b17 (h.2 _ (List.getElem_mem hi)), hap, hw]
  rw [List.take_succ_eq_append_getElem hi, List.filter_append]
  change (if bv4 name value l[i] = true then _ else _) = _
  by_cases hh : bv4 name value l[i] = true
  ·rw [if_pos hh]; simp [hh]
  ·rw [if_neg hh]; simp [hh]
 ·rintro out rfl
  simp only [av5, dge, Bool.false_eq_true, if_false, aK3, List.take_length, bl0 (h.filter _), Option.bind_some, Option.map_some]
  rfl
theorem a35 {l : List aa3} {name value want : Str} (h : okD l) : aq3 l name value want = some (au1 l name value want) := by
 unfold aq3
 have h1 := h.1
 refine (ac6 (τ := Int × List aa3) l.length (fun (x : List aa3) i => (i, x)) (fun x => at7 l name value want x.1 x.2) (fun i x => au1 l name value want) (fun i x => x = (l.take i).filter (bv4 name value)) (s0 := []) (by simp) ?_ ?_).trans rfl
 ·rintro out i hi rfl
  left
  have hlen : ((l.take i).filter (bv4 name value)).length ≤ i := by
   have := List.length_filter_le (bv4 name value) (l.take i)
   simp at this; omega
  have hap : ∀ v, aq9 24 ((l.take i).filter (bv4 name value)) [v] = some ((l.take i).filter (bv4 name value) ++ [v]) := fun v => ad0 (by simp; omega) (by simp; omega)
  have hw : IntKind.wrap .i64 ((i : Int) + 1) = (i : Int) + 1 := aa9 (by omega)
  refine ⟨(l.take (i + 1)).filter (bv4 name value), ?_, rfl, rfl⟩
  simp only [at7, dlt hi, if_true, aa6 hi, Option.bind_some, bq6 (h.2 _ (List.getElem_mem hi)), hap, hw]
  rw [List.take_succ_eq_append_getElem hi, List.filter_append]
  change (if bv4 name value l[i] = true then _ else _) = _
  by_cases hh : bv4 name value l[i] = true
  ·rw [if_pos hh]; simp [hh]
  ·rw [if_neg hh]; simp [hh]
 ·rintro out rfl
  simp only [at7, dge, Bool.false_eq_true, if_false, aH8, List.take_length, aV3 (h.filter _), Option.bind_some, Option.map_some]
  rfl
theorem ba7 (name : Str) : ∀ (l : List aa3) (out : List Str), (aD7 name out l).length ≤ out.length + l.length
 | [], out => by simp [aD7]
 | x :: r, out => by
  rw [aD7]
  split
  ·have := ba7 name r (out ++ [(ar5 name x.Attrs).1]); simp at this ⊢; omega
  ·have := ba7 name r out; simp; omega
theorem aV4 (name : Str) : ∀ (l : List aa3) (out : List Str), out.Nodup → (aD7 name out l).Nodup
 | [], out, h => h
 | x :: r, out, h => by
  rw [aD7]
  split
  ·rename_i hc
   refine aV4 name r _ ?_
   rw [List.nodup_append]
   refine ⟨h, by simp, ?_⟩
   intro a ha b hb e
   simp at hb
   rw [Bool.and_eq_true] at hc
   have h2 : out.contains (ar5 name x.Attrs).1 = false := by simpa using hc.2
   have h3 : (ar5 name x.Attrs).1 ∈ out := by rw [← hb, ← e]; exact ha
   rw [List.contains_iff_mem.2 h3] at h2
   cases h2
  ·exact aV4 name r out h
theorem bH9 (l : List aa3) (name : Str) : (az3 l name).Nodup := aV4 name l [] List.nodup_nil
theorem aN4 (l : List aa3) (name : Str) : (az3 l name).length ≤ l.length := by
 have := ba7 name l []; simpa [az3] using this
theorem bA7 {name : Str} : ∀ {l : List aa4}, (ar5 name l).2 = true → ∃ a ∈ l, (ar5 name l).1 = a.Value
 | [], h => by simp [ar5] at h
 | a :: r, h => by
  by_cases hp : be2 name a = true
  ·rw [bA4 hp]; exact ⟨a, by simp, rfl⟩
  ·rw [bq5 hp] at h ⊢
   obtain ⟨b, hb, he⟩ := bA7 h
   exact ⟨b, List.mem_cons_of_mem _ hb, he⟩
theorem aV5 {name : Str} {K : Nat} : ∀ (l : List aa3) (out : List Str), (∀ x ∈ l, ∀ a ∈ x.Attrs, a.Value.length ≤ K) → (∀ v ∈ out, v.length ≤ K) → ∀ v ∈ aD7 name out l, v.length ≤ K
 | [], out, _, h => h
 | x :: r, out, hl, h => by
  rw [aD7]
  split
  ·rename_i hc
   rw [Bool.and_eq_true] at hc
   refine aV5 r _ (fun y hy => hl y (List.mem_cons_of_mem _ hy)) ?_
   intro v hv
   rcases List.mem_append.1 hv with hv | hv
   ·exact h v hv
   ·simp at hv; subst hv
    obtain ⟨a, ha, he⟩ := bA7 hc.1
    rw [he]; exact hl x (by simp) a ha
  ·exact aV5 r _ (fun y hy => hl y (List.mem_cons_of_mem _ hy)) h
def okT (l : List aa3) : Prop := okD l ∧ ∀ x ∈ l, ∀ a ∈ x.Attrs, a.Value.length ≤ 5000
theorem aY8 {l : List aa3} {name : Str} (h : okT l) : ∀ v ∈ az3 l name, v.length ≤ 5000 := aV5 l [] h.2 (by simp)
theorem okT.filter {l : List aa3} (h : okT l) (p : aa3 → Bool) : okT (l.filter p) := ⟨h.1.filter p, fun x hx => h.2 x (List.mem_filter.1 hx).1⟩
theorem au2 {l : List aa3} {name value want : Str} (h : okT l) : ∀ v ∈ au1 l name value want, v.length ≤ 5000 := aY8 (h.filter _)
theorem aV6 {l : List aa3} {name value want : Str} (h : okD l) : (au1 l name value want).length ≤ 1000 := by
 have := aN4 (l.filter (bv4 name value)) want
 have := (h.filter (bv4 name value)).1
 unfold au1; omega
def aN5 : Str := [110, 101, 116]
def bl1 : Str := [115, 101, 108, 102]
def aQ6 : Str := [104, 111, 115, 116]
def a07 : Str := [97, 108, 105, 97, 115]
def am7 : Str := [115, 101, 114, 118, 105, 99, 101]
def aN6 (l : List aa3) (name : Str) : List Str := (az3 l aN5).filter fun n => bH4 n && (!decide (n = aN5) && (decide (name = aN5) || decide (name = n)))
theorem a36 {p : Str → Bool} {xs : List Str} {body : Int × List Str → Option (Step (Int × List Str) (List Str))} (hx : xs.length ≤ 100000)
  (hb : ∀ (i : Nat) (out : List Str) (h : i < xs.length), out.length ≤ i → body ((i : Int), out) = if p xs[i] then some (.cont ((i : Int) + 1, out ++ [xs[i]])) else some (.cont ((i : Int) + 1, out)))
  (he : ∀ out, body ((xs.length : Int), out) = some (.done out)) : ab0 body (0, []) = some (xs.filter p) := by
 refine (ac6 (τ := Int × List Str) xs.length (fun (x : List Str) i => (i, x)) body (fun i x => x ++ (xs.drop i).filter p) (fun i x => x.length ≤ i) (s0 := []) (by simp) ?_ ?_).trans (by simp)
 ·intro out i hi hl
  left
  refine ⟨if p xs[i] then out ++ [xs[i]] else out, ?_, ?_, ?_⟩
  ·rw [hb i out hi hl]; split <;> rfl
  ·simp only [List.drop_eq_getElem_cons hi, List.filter_cons]
   split <;> simp
  ·split <;> (try simp) <;> omega
 ·intro out _
  simp [he]
theorem bI0 {l : List aa3} {name : Str} (h : okD l) : aE6 l name = some (aN6 l name) := by
 unfold aE6 aN6
 have hv : as5 l [110, 101, 116] = some (az3 l aN5) := bl0 h
 have hl := aN4 l aN5
 have h1 := h.1
 rw [hv, Option.bind_some]
 refine a36 (by omega) ?_ ?_
 ·intro i out hi hl2
  have hap : ∀ v, aq9 16 out [v] = some (out ++ [v]) := fun v => ad0 (by simp; omega) (by simp; omega)
  have hw : IntKind.wrap .i64 ((i : Int) + 1) = (i : Int) + 1 := aa9 (by omega)
  simp only [au5, dlt hi, if_true, aa6 hi, Option.bind_some, bO0, hap, hw]
  rfl
 ·intro out
  simp [au5]
theorem bT6 {l : List aa3} (h : okT l) : aM6 l = some ((az3 l aN5).filter fun n => bH4 n && !decide (n = aN5)) := by
 unfold aM6
 have hv : ap0 l [110, 101, 116] = some (az3 l aN5) := aV3 h.1
 have hl := aN4 l aN5
 have h1 := h.1.1
 have hsm := aY8 (name := aN5) h
 rw [hv, Option.bind_some]
 refine a36 (by omega) ?_ ?_
 ·intro i out hi hl2
  have hap : ∀ v, aq9 16 out [v] = some (out ++ [v]) := fun v => ad0 (by simp; omega) (by simp; omega)
  have hw : IntKind.wrap .i64 ((i : Int) + 1) = (i : Int) + 1 := aa9 (by omega)
  have := hsm _ (List.getElem_mem hi)
  simp only [aB6, dlt hi, if_true, aa6 hi, Option.bind_some, bA6 (s := (az3 l aN5)[i]) (by omega), hap, hw]
  change _ = if (bH4 (az3 l aN5)[i] && !decide ((az3 l aN5)[i] = [110, 101, 116])) = true then _ else _
  cases bH4 (az3 l aN5)[i] <;> by_cases hd : (az3 l aN5)[i] = [110, 101, 116] <;> simp [hd]
 ·intro out
  simp [aB6]
theorem bO1 (l : List aa3) : aN6 l aN5 = (az3 l aN5).filter fun n => bH4 n && !decide (n = aN5) := by
 unfold aN6
 congr 1
 funext n
 simp
theorem ba8 {p : Str → Bool} {a : Str} : ∀ {l : List Str}, l.Nodup → l.filter (fun n => p n && decide (a = n)) = if (l.filter p).contains a then [a] else []
 | [], _ => rfl
 | x :: r, h => by
  have hx := List.nodup_cons.1 h
  by_cases hp : p x = true
  ·by_cases hax : a = x
   ·subst hax
    have hr : r.filter (fun n => p n && decide (a = n)) = [] := by
     rw [List.filter_eq_nil_iff]
     intro n hn
     have : a ≠ n := fun e => hx.1 (e ▸ hn)
     simp [this]
    rw [List.filter_cons_of_pos (by simp [hp]), hr, List.filter_cons_of_pos hp]
    simp
   ·rw [List.filter_cons_of_neg (by simp [hax]), ba8 hx.2, List.filter_cons_of_pos hp]
    have : (a == x) = false := by simp [hax]
    rw [List.contains_cons, this, Bool.false_or]
  ·rw [List.filter_cons_of_neg (by simp [hp]), ba8 hx.2, List.filter_cons_of_neg hp]
theorem cb9 {l : List aa3} {name : Str} (h : name ≠ aN5) : aN6 l name = if (aN6 l aN5).contains name then [name] else [] := by
 rw [bO1, ← ba8 (bH9 l aN5)]
 unfold aN6
 congr 1
 funext n
 have : decide (name = aN5) = false := by simpa using h
 rw [this, Bool.false_or, Bool.and_assoc]
theorem b21 {l : List aa3} {name n : Str} (h : n ∈ aN6 l name) : n ∈ az3 l aN5 ∧ bH4 n = true ∧ n ≠ aN5 ∧ (name = aN5 ∨ name = n) := by
 unfold aN6 at h
 obtain ⟨h1, h2⟩ := List.mem_filter.1 h
 simp only [Bool.and_eq_true, Bool.or_eq_true, decide_eq_true_eq, Bool.not_eq_true', decide_eq_false_iff_not] at h2
 exact ⟨h1, h2.1, h2.2.1, h2.2.2⟩
def aD8 (l : List aa3) (host name : Str) : List Str :=
 if name = [42] then [name] else if name = bl1 then (if aN3 host then [host] else []) else if (az3 l aQ6).contains name then [name] else (au1 l a07 name aQ6).filter aN3
theorem bI1 {l : List Str} (hl : l.length ≤ 1000000) : ad9 l = some (l.filter aN3) := by
 unfold ad9
 have hp1 : ∀ a, aC3 a = some (!aN3 a) := by
  intro a; unfold aC3; rw [bk8]; rfl
 have hix : ae5 l = some (aS3 (fun a => !aN3 a) l) := by
  unfold ae5
  refine av1 hl ?_ ?_
  ·intro i hi
   simp only [ad8, dlt hi, if_true, aa6 hi, Option.bind_some, hp1]
  ·simp [ad8]
 rw [hix, Option.bind_some]
 rcases bA3 (fun a => !aN3 a) l with ⟨h1, h2⟩ | ⟨i, h, h1, h2, h3⟩
 ·rw [h1, List.filter_eq_self.2 (fun a ha => by simpa using h2 a ha)]; rfl
 ·have : ¬ ((i : Int) = -1) := by omega
  rw [h1]
  simp only [this, decide_false, Bool.false_eq_true, if_false]
  have := cb6 (p := fun a => !aN3 a) (body := fun s => ab2 s.1 s.2.1 s.2.2) hl (by
   intro i j s hi hj
   simp only [ab2, dlt hj, if_true, aa6 hj, aa6 hi, Option.bind_some, hp1, Int.toNat_natCast]) (by
   intro i s hi
   simp only [ab2, dge, Bool.false_eq_true, if_false, af1, a61 hi, Option.bind_some, Option.map_some]) h h2 h3
  rw [this]
  congr 2
  funext a
  simp
theorem cc0 {l : List aa3} {host name : Str} (h : okD l) : aX5 l host name = some (aD8 l host name) := by
 unfold aX5 aD8
 have hv : as5 l [104, 111, 115, 116] = some (az3 l aQ6) := bl0 h
 have hq : au6 l [97, 108, 105, 97, 115] name [104, 111, 115, 116] = some (au1 l a07 name aQ6) := bv5 h
 have hl := aN4 l aQ6
 have hl2 := aV6 (name := a07) (value := name) (want := aQ6) h
 have h1 := h.1
 simp only [bk8, hv, hq, Option.bind_some, bk9 (l := az3 l aQ6) (v := name) (by omega), bI1 (l := au1 l a07 name aQ6) (by omega)]
 by_cases h42 : name = [42]
 ·simp [h42]
 ·by_cases hs : name = [115, 101, 108, 102]
  ·have : name = bl1 := hs
   simp only [h42, hs, decide_false, decide_true, Bool.false_eq_true, if_false, if_true, Option.bind_some, show ([115, 101, 108, 102] : Str) = bl1 from rfl]
   have : ¬ (bl1 = [42]) := by decide
   simp only [this, if_false, if_true]
   cases aN3 host <;> simp
  ·have hs2 : ¬ (name = bl1) := hs
   simp only [h42, hs, hs2, decide_false, Bool.false_eq_true, if_false, Option.bind_some]
   cases (az3 l aQ6).contains name <;> simp
theorem bI2 {l : List aa3} {host name : Str} (h : okT l) (hh : host.length ≤ 1000000) : aP7 l host name = some (aD8 l host name) := by
 unfold aP7 aD8
 have hv : aP6 l name = some ((az3 l aQ6).contains name) := by
  unfold aP6
  have : ap0 l [104, 111, 115, 116] = some (az3 l aQ6) := aV3 h.1
  have hl := aN4 l aQ6
  have h1 := h.1.1
  rw [this, Option.bind_some, b20 (by omega)]; rfl
 have hq : aq3 l [97, 108, 105, 97, 115] name [104, 111, 115, 116] = some (au1 l a07 name aQ6) := a35 h.1
 have hl2 := aV6 (name := a07) (value := name) (want := aQ6) h.1
 have hsm := au2 (name := a07) (value := name) (want := aQ6) h
 have hk : ∀ xs : List Str, xs.length ≤ 100000 → (∀ v ∈ xs, v.length ≤ 1000000) → aw2 xs = some (xs.filter aN3) := by
  intro xs hx hs
  unfold aw2
  refine a36 hx ?_ ?_
  ·intro i out hi hl2
   have hap : ∀ v, aq9 16 out [v] = some (out ++ [v]) := fun v => ad0 (by simp; omega) (by simp; omega)
   have hw : IntKind.wrap .i64 ((i : Int) + 1) = (i : Int) + 1 := aa9 (by omega)
   simp only [az0, dlt hi, if_true, aa6 hi, Option.bind_some, bq7 (hs _ (List.getElem_mem hi)), hap, hw]
  ·intro out
   simp [az0]
 have k1 := hk (au1 l a07 name aQ6) (by omega) (fun v hv => by have := hsm v hv; omega)
 have k2 := hk [host] (by simp) (by simpa using hh)
 simp only [hv, hq, Option.bind_some, k1, k2]
 by_cases h42 : name = [42]
 ·simp [h42]
 ·by_cases hs : name = [115, 101, 108, 102]
  ·simp only [h42, hs, decide_false, decide_true, Bool.not_true, Bool.false_eq_true, if_false, if_true, Option.bind_some, show ([115, 101, 108, 102] : Str) = bl1 from rfl]
   have : ¬ (bl1 = [42]) := by decide
   simp only [this, if_false, if_true, List.filter_cons, List.filter_nil, decide_false, Bool.false_eq_true]
   cases aN3 host <;> simp
  ·have hs2 : ¬ (name = bl1) := hs
   simp only [h42, hs, hs2, decide_false, Bool.not_false, Bool.false_eq_true, if_false, if_true, Option.bind_some]
   cases (az3 l aQ6).contains name <;> simp
def b22 (c : UInt8) : Bool := decide (48 ≤ (c.toNat : Int)) && decide ((c.toNat : Int) ≤ 57)
def dig (c : UInt8) : Int := (c.toNat : Int) - 48
def bn2 : Int → Str → Int × Int
 | n, [] => (n, 0)
 | n, c :: r => if b22 c && decide (n ≤ (65535 - dig c) / 10) then bn2 (n * 10 + dig c) r else (0, 5)
def cg9 (s : Str) : Int × Int := if decide (s = []) || (decide (1 < s.length) && (match s with | c :: _ => decide (c = 48) | [] => false)) then (0, 5) else bn2 0 s
theorem bA8 {c : UInt8} (h : b22 c = true) : 0 ≤ dig c ∧ dig c ≤ 9 := by
 unfold b22 at h
 rw [Bool.and_eq_true, decide_eq_true_eq, decide_eq_true_eq] at h
 unfold dig; omega
theorem ch0 {d : Int} (h : 0 ≤ d ∧ d ≤ 9) : b70 .i64 (IntKind.wrap .i64 (65535 - d)) 10 = some ((65535 - d) / 10) := by
 unfold b70
 have hw : IntKind.wrap .i64 (65535 - d) = 65535 - d := ai0 (by omega) (by omega)
 have ht : (65535 - d).tdiv 10 = (65535 - d) / 10 := Int.tdiv_eq_ediv_of_nonneg (by omega)
 rw [if_neg (by decide), hw, ht, ai0 (by omega) (by omega)]
theorem bA9 {c : UInt8} (h : b22 c = true) : aG8 (c.toNat : Int) = some (dig c) := by
 have key : ∀ c : UInt8, (!b22 c || decide (aG8 (c.toNat : Int) = some (dig c))) = true := by
  intro c
  unfold aG8 b22 dig
  have h := aX1 (p := fun c : UInt8 => (!(decide (48 ≤ (c.toNat : Int)) && decide ((c.toNat : Int) ≤ 57)) || decide (IntKind.wrap .i64 (IntKind.wrap .u8 ((c.toNat : Int) - 48)) = (c.toNat : Int) - 48))) (by decide +kernel) c
  by_cases hd : (decide (48 ≤ (c.toNat : Int)) && decide ((c.toNat : Int) ≤ 57)) = true
  ·rw [hd] at h
   simp only [Bool.not_true, Bool.false_or, decide_eq_true_eq] at h
   simp [hd, h]
  ·simp [hd]
 have k := key c
 rw [h] at k
 simpa using k
theorem bI3 {c : UInt8} (h : b22 c = false) : ∃ x, aG8 (c.toNat : Int) = some x ∧ 10 ≤ x := by
 unfold aG8
 have h2 : (decide (48 ≤ (c.toNat : Int)) && decide ((c.toNat : Int) ≤ 57)) = false := h
 rw [h2]
 simp only [Bool.false_eq_true, if_false]
 by_cases hd : (decide (97 ≤ (c.toNat : Int)) && decide ((c.toNat : Int) ≤ 102)) = true
 ·rw [hd]
  have h3 := aX1 (p := fun c : UInt8 => (!(decide (97 ≤ (c.toNat : Int)) && decide ((c.toNat : Int) ≤ 102)) || decide (10 ≤ IntKind.wrap .i64 ((IntKind.wrap .i64 (IntKind.wrap .u8 ((c.toNat : Int) - 97))) + 10)))) (by decide +kernel) c
  rw [hd] at h3
  simp only [Bool.not_true, Bool.false_or, decide_eq_true_eq] at h3
  exact ⟨_, rfl, h3⟩
 ·rw [Bool.eq_false_iff.2 hd]
  exact ⟨16, rfl, by omega⟩
theorem bB0 {c : UInt8} (h : b22 c = true) : aA5 (c.toNat : Int) = some (dig c) := by
 unfold aA5
 have h2 : (decide (48 ≤ (c.toNat : Int)) && decide ((c.toNat : Int) ≤ 57)) = true := h
 rw [h2]
 have h3 := aX1 (p := fun c : UInt8 => (!(decide (48 ≤ (c.toNat : Int)) && decide ((c.toNat : Int) ≤ 57)) || decide (IntKind.wrap .i64 (IntKind.wrap .i64 (c.toNat : Int) - 48) = (c.toNat : Int) - 48))) (by decide +kernel) c
 rw [h2] at h3
 simp only [Bool.not_true, Bool.false_or, decide_eq_true_eq] at h3
 simp only [if_true, h3, dig]
theorem bI4 {c : UInt8} (h : b22 c = false) : ∃ x, aA5 (c.toNat : Int) = some x ∧ (x < 0 ∨ 10 ≤ x) := by
 unfold aA5
 have h2 : (decide (48 ≤ (c.toNat : Int)) && decide ((c.toNat : Int) ≤ 57)) = false := h
 rw [h2]
 simp only [Bool.false_eq_true, if_false]
 by_cases hd : (decide (97 ≤ (c.toNat : Int)) && decide ((c.toNat : Int) ≤ 102)) = true
 ·rw [hd]
  have h3 := aX1 (p := fun c : UInt8 => (!(decide (97 ≤ (c.toNat : Int)) && decide ((c.toNat : Int) ≤ 102)) || decide (10 ≤ IntKind.wrap .i64 ((IntKind.wrap .i64 (IntKind.wrap .i64 (c.toNat : Int) - 97)) + 10)))) (by decide +kernel) c
  rw [hd] at h3
  simp only [Bool.not_true, Bool.false_or, decide_eq_true_eq] at h3
  exact ⟨_, rfl, .inr h3⟩
 ·rw [Bool.eq_false_iff.2 hd]
  exact ⟨-1, rfl, .inl (by omega)⟩
theorem b23 {n d : Int} (hn : 0 ≤ n) (hd : 0 ≤ d ∧ d ≤ 9) (h : n ≤ (65535 - d) / 10) : IntKind.wrap .i64 (IntKind.wrap .i64 (n * 10) + d) = n * 10 + d ∧ n * 10 + d ≤ 65535 := by
 have : n * 10 + d ≤ 65535 := by omega
 rw [ai0 (n := n * 10) (by omega) (by omega), ai0 (by omega) (by omega)]
 exact ⟨rfl, this⟩
theorem cm1 {s : Str} (hs : s.length ≤ 1000000) : ab0 (fun x => au7 s 10 65535 x.1 x.2) (0, 0) = some (bn2 0 s) := by
 refine (ac6 (τ := Int × Int) s.length (fun (n : Int) i => (n, i)) (fun x => au7 s 10 65535 x.1 x.2) (fun i n => bn2 n (s.drop i)) (fun _ n => 0 ≤ n ∧ n ≤ 65535) (s0 := 0) (by omega) ?_ ?_).trans rfl
 ·intro n i hi hn
  simp only [au7, dlt hi, if_true, ak8 hi, Option.bind_some, List.drop_eq_getElem_cons hi, bn2]
  cases hd : b22 s[i] with
  | false =>
   obtain ⟨x, hx, h10⟩ := bI3 hd
   right
   simp [hx, h10]
  | true =>
   have hr := bA8 hd
   have h10 : ¬ (10 ≤ dig s[i]) := by omega
   have hq : ¬ (65535 < dig s[i]) := by omega
   simp only [bA9 hd, Option.bind_some, h10, decide_false, Bool.false_eq_true, if_false, ch0 hr, Bool.true_and, hq]
   by_cases hle : n ≤ (65535 - dig s[i]) / 10
   ·have hlt : ¬ ((65535 - dig s[i]) / 10 < n) := by omega
    obtain ⟨e1, e2⟩ := b23 hn.1 hr hle
    left
    refine ⟨n * 10 + dig s[i], ?_, by simp [hle], by omega⟩
    simp only [hlt, decide_false, Bool.false_eq_true, if_false, Option.bind_some, e1]
    rw [aa9 (by omega)]
   ·have hlt : (65535 - dig s[i]) / 10 < n := by omega
    right
    simp [hlt, hle]
 ·intro n _
  simp [au7, bn2]
theorem cm2 {s : Str} (hs : s.length ≤ 1000000) : ab0 (fun x => ao1 s 10 65535 x.1 x.2) (0, 0) = some (bn2 0 s) := by
 refine (ac6 (τ := Int × Int) s.length (fun (n : Int) i => (n, i)) (fun x => ao1 s 10 65535 x.1 x.2) (fun i n => bn2 n (s.drop i)) (fun _ n => 0 ≤ n ∧ n ≤ 65535) (s0 := 0) (by omega) ?_ ?_).trans rfl
 ·intro n i hi hn
  simp only [ao1, dlt hi, if_true, ak8 hi, Option.bind_some, List.drop_eq_getElem_cons hi, bn2]
  cases hd : b22 s[i] with
  | false =>
   obtain ⟨x, hx, h10⟩ := bI4 hd
   right
   rcases h10 with h | h
   ·simp [hx, h]
   ·by_cases h0 : x < 0 <;> simp [hx, h, h0]
  | true =>
   have hr := bA8 hd
   have h0 : ¬ (dig s[i] < 0) := by omega
   have h10 : ¬ (10 ≤ dig s[i]) := by omega
   have hq : ¬ (65535 < dig s[i]) := by omega
   simp only [bB0 hd, Option.bind_some, h0, h10, decide_false, Bool.false_eq_true, if_false, ch0 hr, Bool.true_and, hq]
   by_cases hle : n ≤ (65535 - dig s[i]) / 10
   ·have hlt : ¬ ((65535 - dig s[i]) / 10 < n) := by omega
    obtain ⟨e1, e2⟩ := b23 hn.1 hr hle
    left
    refine ⟨n * 10 + dig s[i], ?_, by simp [hle], by omega⟩
    simp only [hlt, decide_false, Bool.false_eq_true, if_false, e1]
    rw [aa9 (by omega)]
   ·have hlt : (65535 - dig s[i]) / 10 < n := by omega
    right
    simp [hlt, hle]
 ·intro n _
  simp [ao1, bn2]
theorem is48 (c : UInt8) : decide ((c.toNat : Int) = 48) = decide (c = 48) := isC c 48
theorem cu8 {s : Str} (hs : s.length ≤ 1000000) : a63 s 10 65535 = some (cg9 s) := by
 unfold a63 cg9
 rw [cm1 hs]
 cases s with
 | nil => rfl
 | cons c r =>
  have hat : ah7 (c :: r) 0 = some c := rfl
  have hl : decide ((1 : Int) < (List.length (c :: r) : Int)) = decide (1 < (c :: r).length) := by rw [Bool.eq_iff_iff]; simp only [decide_eq_true_eq]; omega
  have hk : aT8 10 = some true := rfl
  simp only [hk, hat, hl, Option.bind_some, is48, reduceCtorEq, decide_false, Bool.false_or]
  cases decide (1 < (c :: r).length) <;> cases decide (c = 48) <;> simp
theorem b24 {s : Str} (hs : s.length ≤ 1000000) : aP8 s 10 65535 = some (cg9 s) := by
 unfold aP8 cg9
 rw [cm2 hs]
 cases s with
 | nil => rfl
 | cons c r =>
  have hat : ah7 (c :: r) 0 = some c := rfl
  have hl : decide ((1 : Int) < (List.length (c :: r) : Int)) = decide (1 < (c :: r).length) := by rw [Bool.eq_iff_iff]; simp only [decide_eq_true_eq]; omega
  have hk : aH9 10 = some true := rfl
  simp only [hk, hat, hl, Option.bind_some, is48, reduceCtorEq, decide_false, Bool.false_or]
  cases decide (1 < (c :: r).length) <;> cases decide (c = 48) <;> simp
def bB1 (s : Str) : Bool := decide ((cg9 s).2 = 0) && decide (0 < (cg9 s).1)
theorem bB2 {s : Str} (hs : s.length ≤ 1000000) : aG9 s = some (bB1 s) := by
 unfold aG9 bB1
 rw [cu8 hs]; rfl
theorem br0 {s : Str} (hs : s.length ≤ 1000000) : aM7 s = some (bB1 s) := by
 unfold aM7 bB1
 rw [b24 hs]
 have : decide (1 ≤ (cg9 s).1) = decide (0 < (cg9 s).1) := by rw [Bool.eq_iff_iff]; simp only [decide_eq_true_eq]; omega
 rw [Option.bind_some, this]
def ao4 : List Str → Str
 | [] => []
 | p :: r => if bB1 p then p else ao4 r
def bB3 (l : List aa3) (net svc : Str) : Str := if bB1 svc then svc else ao4 (au1 l am7 svc net)
def aI1 (l : List aa3) (net svc : Str) : Str := if svc = [] then (match au1 l aN5 net am7 with | [] => [] | x :: _ => bB3 l net x) else bB3 l net svc
theorem bO2 {l : List aa3} {net svc : Str} (h : okT l) (hs : svc.length ≤ 1000000) : aC4 l net svc = some (bB3 l net svc) := by
 unfold aC4 bB3
 have hq : au6 l [115, 101, 114, 118, 105, 99, 101] svc net = some (au1 l am7 svc net) := bv5 h.1
 have hsm := au2 (name := am7) (value := svc) (want := net) h
 have hl := aV6 (name := am7) (value := svc) (want := net) h.1
 rw [bB2 hs, Option.bind_some, hq, Option.bind_some]
 generalize au1 l am7 svc net = xs at hsm hl
 have hloop : ab0 (fun s => au8 xs s) 0 = some (ao4 xs) := by
  refine (ac6 xs.length (fun (_ : Unit) i => i) (fun s => au8 xs s) (fun i _ => ao4 (xs.drop i)) (fun _ _ => True) (s0 := ()) trivial ?_ ?_).trans rfl
  ·intro _ i hi _
   have := hsm _ (List.getElem_mem hi)
   simp only [au8, dlt hi, if_true, aa6 hi, Option.bind_some, bB2 (s := xs[i]) (by omega), List.drop_eq_getElem_cons hi, ao4]
   by_cases hp : bB1 xs[i] = true
   ·right; rw [if_pos hp, if_pos hp]
   ·left
    refine ⟨(), ?_, by rw [if_neg hp], trivial⟩
    rw [if_neg hp, aa9 (by omega)]
  ·intro _ _
   simp [au8, ao4]
 rw [hloop]
 split <;> rfl
theorem bl2 {l : List aa3} {net svc : Str} (h : okT l) (hs : svc.length ≤ 1000000) : az1 l net svc = some (bB3 l net svc) := by
 unfold az1 bB3
 have hq : aq3 l [115, 101, 114, 118, 105, 99, 101] svc net = some (au1 l am7 svc net) := a35 h.1
 have hsm := au2 (name := am7) (value := svc) (want := net) h
 have hl := aV6 (name := am7) (value := svc) (want := net) h.1
 rw [br0 hs, Option.bind_some, hq, Option.bind_some]
 generalize au1 l am7 svc net = xs at hsm hl
 have hloop : ab0 (fun s => aq8 xs s) 0 = some (ao4 xs) := by
  refine (ac6 xs.length (fun (_ : Unit) i => i) (fun s => aq8 xs s) (fun i _ => ao4 (xs.drop i)) (fun _ _ => True) (s0 := ()) trivial ?_ ?_).trans rfl
  ·intro _ i hi _
   have := hsm _ (List.getElem_mem hi)
   simp only [aq8, dlt hi, if_true, aa6 hi, Option.bind_some, br0 (s := xs[i]) (by omega), List.drop_eq_getElem_cons hi, ao4]
   by_cases hp : bB1 xs[i] = true
   ·right; rw [if_pos hp, if_pos hp]
   ·left
    refine ⟨(), ?_, by rw [if_neg hp], trivial⟩
    rw [if_neg hp, aa9 (by omega)]
  ·intro _ _
   simp [aq8, ao4]
 rw [hloop]
 split <;> rfl
theorem cm3 {l : List aa3} {net svc : Str} (h : okT l) (hs : svc.length ≤ 1000000) : a64 l net svc = some (aI1 l net svc) := by
 unfold a64 aI1
 by_cases h0 : svc = []
 ·have hq : au6 l [110, 101, 116] net [115, 101, 114, 118, 105, 99, 101] = some (au1 l aN5 net am7) := bv5 h.1
  have hsm := au2 (name := aN5) (value := net) (want := am7) h
  simp only [h0, decide_true, if_true, hq, Option.bind_some]
  generalize au1 l aN5 net am7 = xs at hsm
  cases xs with
  | nil => rfl
  | cons x r =>
   have hx := hsm x (by simp)
   have hne : ¬ ((List.length (x :: r) : Int) = 0) := by simp only [List.length_cons]; omega
   have hat : aa8 (x :: r) 0 = some x := rfl
   simp only [hne, decide_false, Bool.false_eq_true, if_false, hat, Option.bind_some]
   exact bO2 h (by omega)
 ·simp only [h0, decide_false, Bool.false_eq_true, if_false]
  exact bO2 h hs
theorem bI5 {l : List aa3} {net svc : Str} (h : okT l) (hs : svc.length ≤ 1000000) : aY2 l net svc = some (aI1 l net svc) := by
 unfold aY2 aI1
 by_cases h0 : svc = []
 ·have hq : aq3 l [110, 101, 116] net [115, 101, 114, 118, 105, 99, 101] = some (au1 l aN5 net am7) := a35 h.1
  have hsm := au2 (name := aN5) (value := net) (want := am7) h
  simp only [h0, decide_true, if_true, hq, Option.bind_some]
  generalize au1 l aN5 net am7 = xs at hsm
  cases xs with
  | nil => rfl
  | cons x r =>
   have hx := hsm x (by simp)
   have hne : ¬ ((List.length (x :: r) : Int) = 0) := by simp only [List.length_cons]; omega
   have hat : aa8 (x :: r) 0 = some x := rfl
   simp only [hne, decide_false, Bool.false_eq_true, if_false, hat, Option.bind_some]
   exact bl2 h (by omega)
 ·simp only [h0, decide_false, Bool.false_eq_true, if_false]
  exact bl2 h hs
def ai6 (l : List aa3) (svc : Str) (hs : List Str) (n : Str) : List aa2 := if aI1 l n svc = [] then [] else hs.map fun h => ⟨n, h, aI1 l n svc⟩
def ao5 (l : List aa3) (host : Str) (a : aa2) : List aa2 × Int :=
 if at9 a = false then ([], 36) else if aN6 l a.Net = [] then ([], 37) else if aD8 l host a.Host = [] then ([], 38) else
 if (aN6 l a.Net).flatMap (ai6 l a.Service (aD8 l host a.Host)) = [] then ([], 39) else ((aN6 l a.Net).flatMap (ai6 l a.Service (aD8 l host a.Host)), 0)
theorem bg0 {l : List aa3} {svc : Str} {hs : List Str} {K : Nat} (hk : hs.length ≤ K) : ∀ ns : List Str, (ns.flatMap (ai6 l svc hs)).length ≤ ns.length * K
 | [] => by simp
 | n :: r => by
  rw [List.flatMap_cons, List.length_append, List.length_cons, Nat.add_mul, Nat.one_mul]
  have := bg0 (l := l) (svc := svc) hk r
  have : (ai6 l svc hs n).length ≤ K := by unfold ai6; split <;> simp; omega
  omega
theorem bl3 {l : List aa3} {name : Str} (h : okD l) : (aN6 l name).length ≤ 1000 := by
 have h1 := aN4 l aN5
 have h2 := h.1
 have := List.length_filter_le (fun n => bH4 n && (!decide (n = aN5) && (decide (name = aN5) || decide (name = n)))) (az3 l aN5)
 unfold aN6; omega
theorem ba9 {l : List aa3} {host name : Str} (h : okD l) : (aD8 l host name).length ≤ 1000 := by
 have h1 := aV6 (name := a07) (value := name) (want := aQ6) h
 have := List.length_filter_le aN3 (au1 l a07 name aQ6)
 unfold aD8
 split
 ·simp
 ·split
  ·split <;> simp
  ·split
   ·simp
   ·omega
theorem bd4 {l : List aa3} {host : Str} {a : aa2} (h : okT l) (ha : a.Service.length ≤ 1000000) : aq6 l host a = some (ao5 l host a) := by
 unfold aq6 ao5
 have hn := bl3 (name := a.Net) h.1
 have hh := ba9 (host := host) (name := a.Host) h.1
 simp only [bf9, bI0 h.1, cc0 h.1, Option.bind_some]
 generalize aN6 l a.Net = ns at hn
 generalize aD8 l host a.Host = hs at hh
 cases at9 a with
 | false => rfl
 | true =>
  simp only [Bool.not_true, Bool.false_eq_true, if_false, Bool.true_eq_false]
  by_cases h1 : ns = []
  ·simp [h1]
  ·have h1' : ¬ ((List.length ns : Int) = 0) := by have := List.length_pos_iff.2 h1; omega
   simp only [h1, h1', decide_false, Bool.false_eq_true, if_false]
   by_cases h2 : hs = []
   ·simp [h2]
   ·have h2' : ¬ ((List.length hs : Int) = 0) := by have := List.length_pos_iff.2 h2; omega
    simp only [h2, h2', decide_false, Bool.false_eq_true, if_false]
    refine (ac6 (τ := Int × List aa2) ns.length (fun (x : List aa2) i => (i, x)) (fun x => al1 l a ns hs x.1 x.2) (fun _ _ => if ns.flatMap (ai6 l a.Service hs) = [] then ([], 39) else (ns.flatMap (ai6 l a.Service hs), 0)) (fun i x => x = (ns.take i).flatMap (ai6 l a.Service hs)) (s0 := []) (by simp) ?_ ?_).trans rfl
    ·rintro out i hi rfl
     left
     have hw : IntKind.wrap .i64 ((i : Int) + 1) = (i : Int) + 1 := aa9 (by omega)
     have hlen := bg0 (l := l) (svc := a.Service) hh (ns.take i)
     have hlen2 : ((ns.take i).flatMap (ai6 l a.Service hs)).length ≤ 1000 * 1000 := Nat.le_trans hlen (Nat.mul_le_mul (by simp; omega) (Nat.le_refl _))
     refine ⟨(ns.take (i + 1)).flatMap (ai6 l a.Service hs), ?_, rfl, rfl⟩
     simp only [al1, dlt hi, if_true, aa6 hi, Option.bind_some, cm3 h ha]
     rw [List.take_succ_eq_append_getElem hi, List.flatMap_append]
     generalize (ns.take i).flatMap (ai6 l a.Service hs) = out at hlen2
     simp only [List.flatMap_cons, List.flatMap_nil, List.append_nil, ai6]
     by_cases hp : aI1 l ns[i] a.Service = []
     ·simp [hp, hw]
     ·simp only [hp, decide_false, Bool.false_eq_true, if_false]
      refine (ac6 (τ := Int × List aa2) hs.length (fun (x : List aa2) k => (k, x)) (fun x => al0 hs (i : Int) ns[i] (aI1 l ns[i] a.Service) x.1 x.2) (fun _ _ => Step.cont ((i : Int) + 1, out ++ hs.map fun h => ⟨ns[i], h, aI1 l ns[i] a.Service⟩)) (fun k x => x = out ++ (hs.take k).map fun h => ⟨ns[i], h, aI1 l ns[i] a.Service⟩) (s0 := out) (by simp) ?_ ?_).trans rfl
      ·rintro x k hk rfl
       left
       have hap : ∀ y, aq9 48 (out ++ (hs.take k).map fun h => (⟨ns[i], h, aI1 l ns[i] a.Service⟩ : aa2)) [y] = some ((out ++ (hs.take k).map fun h => ⟨ns[i], h, aI1 l ns[i] a.Service⟩) ++ [y]) := fun y => ad0 (by simp; omega) (by simp; omega)
       refine ⟨out ++ (hs.take (k + 1)).map fun h => ⟨ns[i], h, aI1 l ns[i] a.Service⟩, ?_, rfl, rfl⟩
       simp only [al0, dlt hk, if_true, aa6 hk, Option.bind_some, hap]
       rw [aa9 (by omega), List.take_succ_eq_append_getElem hk, List.map_append, List.append_assoc]
       rfl
      ·rintro x rfl
       simp only [al0, dge, Bool.false_eq_true, if_false, List.take_length, hw]
    ·rintro out rfl
     simp only [al1, dge, Bool.false_eq_true, if_false, ay1, List.take_length]
     by_cases hf : ns.flatMap (ai6 l a.Service hs) = []
     ·simp [hf]
     ·have : ¬ ((List.length (ns.flatMap (ai6 l a.Service hs)) : Int) = 0) := by have := List.length_pos_iff.2 hf; omega
      simp only [hf, this, decide_false, Bool.false_eq_true, if_false, Option.map_some]
theorem bd5 {l : List aa3} {host : Str} {a : aa2} {ns : List Str} (h : okT l) (ha : a.Service.length ≤ 1000000) (hho : host.length ≤ 1000000) (hn : ns.length ≤ 1000) : al7 l host a ns = some (if ns = [] then ([], 37) else if aD8 l host a.Host = [] then ([], 38) else
  if ns.flatMap (ai6 l a.Service (aD8 l host a.Host)) = [] then ([], 39) else (ns.flatMap (ai6 l a.Service (aD8 l host a.Host)), 0)) := by
 unfold al7
 have hh := ba9 (host := host) (name := a.Host) h.1
 simp only [bI2 h hho, Option.bind_some]
 generalize aD8 l host a.Host = hs at hh
 by_cases h1 : ns = []
 ·simp [h1]
 ·have h1' : ¬ ((List.length ns : Int) = 0) := by have := List.length_pos_iff.2 h1; omega
  simp only [h1, h1', decide_false, Bool.false_eq_true, if_false]
  by_cases h2 : hs = []
  ·simp [h2]
  ·have h2' : ¬ ((List.length hs : Int) = 0) := by have := List.length_pos_iff.2 h2; omega
   simp only [h2, h2', decide_false, Bool.false_eq_true, if_false]
   refine (ac6 (τ := Int × List aa2) ns.length (fun (x : List aa2) i => (i, x)) (fun x => ak3 l a ns hs x.1 x.2) (fun _ _ => if ns.flatMap (ai6 l a.Service hs) = [] then ([], 39) else (ns.flatMap (ai6 l a.Service hs), 0)) (fun i x => x = (ns.take i).flatMap (ai6 l a.Service hs)) (s0 := []) (by simp) ?_ ?_).trans rfl
   ·rintro out i hi rfl
    left
    have hw : IntKind.wrap .i64 ((i : Int) + 1) = (i : Int) + 1 := aa9 (by omega)
    have hlen := bg0 (l := l) (svc := a.Service) hh (ns.take i)
    have hlen2 : ((ns.take i).flatMap (ai6 l a.Service hs)).length ≤ 1000 * 1000 := Nat.le_trans hlen (Nat.mul_le_mul (by simp; omega) (Nat.le_refl _))
    refine ⟨(ns.take (i + 1)).flatMap (ai6 l a.Service hs), ?_, rfl, rfl⟩
    simp only [ak3, dlt hi, if_true, aa6 hi, Option.bind_some, bI5 h ha]
    rw [List.take_succ_eq_append_getElem hi, List.flatMap_append]
    generalize (ns.take i).flatMap (ai6 l a.Service hs) = out at hlen2
    simp only [List.flatMap_cons, List.flatMap_nil, List.append_nil, ai6]
    by_cases hp : aI1 l ns[i] a.Service = []
    ·simp only [hp, if_true, List.append_nil]
     refine aL3 ?_
     simp only [ah9, decide_true, Bool.not_true, Bool.and_false, Bool.false_eq_true, if_false, hw]
    ·simp only [hp, if_false]
     refine (ac6 (τ := Int × List aa2) hs.length (fun (x : List aa2) k => (k, x)) (fun x => ah9 ns hs (i : Int) (aI1 l ns[i] a.Service) x.1 x.2) (fun _ _ => Step.cont ((i : Int) + 1, out ++ hs.map fun h => ⟨ns[i], h, aI1 l ns[i] a.Service⟩)) (fun k x => x = out ++ (hs.take k).map fun h => ⟨ns[i], h, aI1 l ns[i] a.Service⟩) (s0 := out) (by simp) ?_ ?_).trans rfl
     ·rintro x k hk rfl
      left
      have hap : ∀ y, aq9 48 (out ++ (hs.take k).map fun h => (⟨ns[i], h, aI1 l ns[i] a.Service⟩ : aa2)) [y] = some ((out ++ (hs.take k).map fun h => ⟨ns[i], h, aI1 l ns[i] a.Service⟩) ++ [y]) := fun y => ad0 (by simp; omega) (by simp; omega)
      refine ⟨out ++ (hs.take (k + 1)).map fun h => ⟨ns[i], h, aI1 l ns[i] a.Service⟩, ?_, rfl, rfl⟩
      simp only [ah9, dlt hk, hp, decide_false, Bool.not_false, Bool.and_true, if_true, aa6 hi, aa6 hk, Option.bind_some, hap]
      rw [aa9 (by omega), List.take_succ_eq_append_getElem hk, List.map_append, List.append_assoc]
      rfl
     ·rintro x rfl
      simp only [ah9, dge, Bool.false_and, Bool.false_eq_true, if_false, List.take_length, hw]
   ·rintro out rfl
    simp only [ak3, dge, Bool.false_eq_true, if_false, aw9, List.take_length]
    by_cases hf : ns.flatMap (ai6 l a.Service hs) = []
    ·simp [hf]
    ·have : ¬ ((List.length (ns.flatMap (ai6 l a.Service hs)) : Int) = 0) := by have := List.length_pos_iff.2 hf; omega
     simp only [hf, this, decide_false, Bool.false_eq_true, if_false, Option.map_some]
theorem aV7 {l : List aa3} {host : Str} {a : aa2} (h : okT l) (h1 : a.Net.length ≤ 1000000) (h2 : a.Host.length ≤ 1000000) (ha : a.Service.length ≤ 1000000) (hho : host.length ≤ 1000000) : at8 l host a = some (ao5 l host a) := by
 unfold at8 ao5
 rw [a34 h1 h2 ha, Option.bind_some]
 have hn := bl3 (name := aN5) h.1
 have hN : aM6 l = some (aN6 l aN5) := by rw [bT6 h, bO1]
 cases at9 a with
 | false => rfl
 | true =>
  simp only [Bool.not_true, Bool.false_eq_true, if_false, Bool.true_eq_false, hN, Option.bind_some]
  by_cases hnet : a.Net = aN5
  ·have hnet' : a.Net = [110, 101, 116] := hnet
   simp only [hnet', decide_true, Bool.not_true, Bool.false_eq_true, if_false, bd5 (host := host) (a := a) h ha hho hn]
   rfl
  ·have hnet' : ¬ (a.Net = [110, 101, 116]) := hnet
   simp only [hnet', decide_false, Bool.not_false, if_true, b20 (l := aN6 l aN5) (v := a.Net) (by omega), Option.bind_some, bd5 (host := host) (a := a) (ns := [a.Net]) h ha hho (by simp)]
   rw [cb9 hnet]
   cases (aN6 l aN5).contains a.Net <;> simp
def bd6 : Str → List aa3 → Str × Int
 | acc, [] => (acc, 0)
 | acc, x :: r => if decide (x.Attrs = []) || x.Attrs.any (·.Query) then ([], 2) else if bG8 x.Attrs ≠ 0 then ([], bG8 x.Attrs) else bd6 (acc ++ (az5 x.Attrs ++ [10])) r
def bn3 (l : List aa3) : Str × Int := if 256 < l.length then ([], 22) else bd6 [] l
def okX (l : List aa3) : Prop := l.length ≤ 300 ∧ ∀ x ∈ l, okL x.Attrs
theorem bB4 {l : List aa4} (h : okL l) : (az5 l).length ≤ 75020000 := by
 have := bk7 h l.length
 rw [List.take_length] at this
 exact this
theorem cm4 {l : List aa3} (h : okX l) : aU3 l = some (bn3 l) := by
 unfold aU3 bn3
 by_cases h0 : 256 < l.length
 ·have : (256 : Int) < (List.length l : Int) := by omega
  simp [h0, this]
 ·have : ¬ ((256 : Int) < (List.length l : Int)) := by omega
  simp only [h0, this, decide_false, Bool.false_eq_true, if_false]
  refine (ac6 (τ := Int × Str) l.length (fun (x : Str) i => (i, x)) (fun x => ay5 l x.1 x.2) (fun i x => bd6 x (l.drop i)) (fun i x => x.length ≤ i * 75020001) (s0 := []) (by simp) ?_ ?_).trans rfl
  ·intro acc i hi hl
   have hok := h.2 _ (List.getElem_mem hi)
   have h1 := hok.1
   have hp := bB4 hok
   have hb : i * 75020001 ≤ 256 * 75020001 := Nat.mul_le_mul (by omega) (Nat.le_refl _)
   have c1 : ax1 (az5 l[i].Attrs) [10] = some (az5 l[i].Attrs ++ [10]) := ad7 (by simp; omega)
   have c2 : bAdd acc (az5 l[i].Attrs ++ [10]) = some (acc ++ (az5 l[i].Attrs ++ [10])) := bS8 (by simp; omega)
   have hw : IntKind.wrap .i64 ((i : Int) + 1) = (i : Int) + 1 := aa9 (by omega)
   have hz : decide ((List.length l[i].Attrs : Int) = 0) = decide (l[i].Attrs = []) := by
    rw [Bool.eq_iff_iff]; simp only [decide_eq_true_eq]
    rw [← List.length_eq_zero_iff]; omega
   simp only [ay5, dlt hi, if_true, aa6 hi, Option.bind_some, cm0 (l := l[i].Attrs) (by omega), cb4 hok, hz, hw, List.drop_eq_getElem_cons hi, bd6]
   cases hd : decide (l[i].Attrs = []) with
   | true => right; simp
   | false =>
    cases hq : l[i].Attrs.any (·.Query) with
    | true => right; simp
    | false =>
     by_cases hc : bG8 l[i].Attrs = 0
     ·left
      refine ⟨acc ++ (az5 l[i].Attrs ++ [10]), ?_, ?_, ?_⟩
      ·simp [hc, c1, c2]
      ·simp [hc]
      ·simp only [List.length_append, List.length_cons, List.length_nil]; omega
     ·right; simp [hc]
  ·intro acc _
   simp [ay5, bd6]
theorem bT7 {l : List aa3} (h : okX l) : aY1 l = some (bn3 l) := by
 unfold aY1 bn3
 by_cases h0 : 256 < l.length
 ·have : (256 : Int) < (List.length l : Int) := by omega
  simp [h0, this]
 ·have : ¬ ((256 : Int) < (List.length l : Int)) := by omega
  simp only [h0, this, decide_false, Bool.false_eq_true, if_false]
  refine (ac6 (τ := Str × Int) l.length (fun (x : Str) i => (x, i)) (fun x => aw0 l x.1 x.2) (fun i x => bd6 x (l.drop i)) (fun i x => x.length ≤ i * 75020001) (s0 := []) (by simp) ?_ ?_).trans rfl
  ·intro acc i hi hl
   have hok := h.2 _ (List.getElem_mem hi)
   have h1 := hok.1
   have hp := bB4 hok
   have hb : i * 75020001 ≤ 256 * 75020001 := Nat.mul_le_mul (by omega) (Nat.le_refl _)
   have c1 : ax1 acc (az5 l[i].Attrs) = some (acc ++ az5 l[i].Attrs) := ad7 (by omega)
   have c2 : ax1 (acc ++ az5 l[i].Attrs) [10] = some (acc ++ az5 l[i].Attrs ++ [10]) := ad7 (by simp; omega)
   have hw : IntKind.wrap .i64 ((i : Int) + 1) = (i : Int) + 1 := aa9 (by omega)
   have hz : decide ((List.length l[i].Attrs : Int) = 0) = decide (l[i].Attrs = []) := by
    rw [Bool.eq_iff_iff]; simp only [decide_eq_true_eq]
    rw [← List.length_eq_zero_iff]; omega
   simp only [aw0, dlt hi, if_true, aa6 hi, Option.bind_some, bT5 (l := l[i].Attrs) (by omega), bH2 hok, hz, hw, List.drop_eq_getElem_cons hi, bd6]
   cases hd : decide (l[i].Attrs = []) with
   | true => right; simp
   | false =>
    cases hq : l[i].Attrs.any (·.Query) with
    | true => right; simp
    | false =>
     by_cases hc : bG8 l[i].Attrs = 0
     ·left
      refine ⟨acc ++ (az5 l[i].Attrs ++ [10]), ?_, ?_, ?_⟩
      ·simp [hc, c1, c2]
      ·simp [hc]
      ·simp only [List.length_append, List.length_cons, List.length_nil]; omega
     ·right; simp [hc]
  ·intro acc _
   simp [aw0, bd6]
def good (x : aa3) : Prop := x.Attrs ≠ [] ∧ bG8 x.Attrs = 0 ∧ x.Attrs.any (·.Query) = false
theorem b25 {d : Nat} (h : d < 10) : cut ([48, 49, 50, 51, 52, 53, 54, 55, 56, 57, 97, 98, 99, 100, 101, 102] : Str) (d : Int) ((d : Int) + 1) = some [UInt8.ofNat (48 + d)] := by
 rcases (by omega : d = 0 ∨ d = 1 ∨ d = 2 ∨ d = 3 ∨ d = 4 ∨ d = 5 ∨ d = 6 ∨ d = 7 ∨ d = 8 ∨ d = 9) with rfl | rfl | rfl | rfl | rfl | rfl | rfl | rfl | rfl | rfl <;> rfl
theorem cc1 (u : Nat) (h : ¬ u < 10) : Go.Lib.decDigits u = Go.Lib.decDigits (u / 10) ++ [UInt8.ofNat (48 + u % 10)] := by
 rw [Go.Lib.decDigits, dif_neg h]
def ct0 (u : Nat) (s : Str) : Str := if u = 0 ∧ s ≠ [] then s else Go.Lib.decDigits u ++ s
theorem b26 (u : Nat) (s : Str) (h : ¬ (u = 0 ∧ s ≠ [])) : ct0 u s = ct0 (u / 10) (UInt8.ofNat (48 + u % 10) :: s) := by
 unfold ct0
 rw [if_neg h]
 by_cases h10 : u < 10
 ·have : u / 10 = 0 := by omega
  rw [this, if_pos ⟨rfl, by simp⟩, Go.Lib.decDigits_one h10, Nat.mod_eq_of_lt h10]; rfl
 ·rw [if_neg (by omega), cc1 u h10, List.append_assoc]; rfl
theorem bb0 {u : Nat} {s : Str} (h : ¬ (u = 0 ∧ s ≠ [])) (hu : u ≤ 9223372036854775808) (hs : s.length ≤ 100) : ao2 10 (-(u : Int)) s = some (.cont (-((u / 10 : Nat) : Int), UInt8.ofNat (48 + u % 10) :: s)) := by
 unfold ao2
 have hc : (decide (-(u : Int) < 0) || decide (s = [])) = true := by
  rcases Nat.eq_zero_or_pos u with h0 | h0
  ·have : s = [] := Classical.byContradiction fun e => h ⟨h0, e⟩
   simp [this]
  ·have hn : -(u : Int) < 0 := by omega
   rw [decide_eq_true hn]; rfl
 have e1 : Int.tmod (-(u : Int)) 10 = -((u % 10 : Nat) : Int) := by rw [Int.neg_tmod]; rfl
 have e2 : Int.tdiv (-(u : Int)) 10 = -((u / 10 : Nat) : Int) := by rw [Int.neg_tdiv]; rfl
 have e3 : IntKind.wrap .i64 (0 - -((u % 10 : Nat) : Int)) = ((u % 10 : Nat) : Int) := by rw [ai0 (by omega) (by omega)]; omega
 have e4 : IntKind.wrap .i64 (((u % 10 : Nat) : Int) + 1) = ((u % 10 : Nat) : Int) + 1 := ai0 (by omega) (by omega)
 have e5 : IntKind.wrap .i64 (-((u / 10 : Nat) : Int)) = -((u / 10 : Nat) : Int) := ai0 (by omega) (by omega)
 rw [if_pos hc]
 unfold remI b70
 rw [if_neg (by decide), if_neg (by decide), Option.bind_some, e1, e3, e4, b25 (by omega), Option.bind_some]
 rw [ad7 (by simp; omega), Option.bind_some, Option.bind_some, e2, e5]
 rfl
theorem b27 {u n : Nat} (h1 : u * 10 ^ n ≤ 9223372036854775808) (h2 : 0 < u) : n ≤ 18 := by
 rcases Nat.lt_or_ge 18 n with h | h
 ·have h3 : 10 ^ 19 ≤ 10 ^ n := Nat.pow_le_pow_right (by omega) h
  have h4 : 1 * 10 ^ n ≤ u * 10 ^ n := Nat.mul_le_mul_right _ h2
  omega
 ·exact h
theorem aV8 {u : Nat} (hu : u ≤ 9223372036854775808) : aC7 (-(u : Int)) 10 = some (Go.Lib.decDigits u) := by
 unfold aC7
 refine (bp9 (σ := Nat × Str) (fun s => ao2 10 s.1 s.2) (fun s => (-(s.1 : Int), s.2)) (fun s => ct0 s.1 s.2) (fun s => s.1 + (if s.2 = [] then 1 else 0)) (fun s => s.1 * 10 ^ s.2.length ≤ 9223372036854775808 ∧ s.2.length ≤ 20) (fun s hs => ?_) (s0 := (u, [])) ⟨by simpa using hu, by simp⟩).trans ?_
 ·obtain ⟨v, s⟩ := s
  obtain ⟨h1, h2⟩ := hs
  simp only at h1 h2 ⊢
  have hv : v ≤ 9223372036854775808 := by
   have : v * 1 ≤ v * 10 ^ s.length := Nat.mul_le_mul_left _ (Nat.one_le_pow _ _ (by omega))
   omega
  by_cases h : v = 0 ∧ s ≠ []
  ·right
   unfold ao2 ct0
   rw [if_pos h, h.1]
   have hs' : decide (s = []) = false := by simpa using h.2
   simp [hs', h.2]
  ·left
   refine ⟨(v / 10, UInt8.ofNat (48 + v % 10) :: s), bb0 h hv (by omega), b26 v s h, ⟨?_, ?_⟩, ?_⟩
   ·simp only [List.length_cons, Nat.pow_succ]
    have e : v / 10 * (10 ^ s.length * 10) = v / 10 * 10 * 10 ^ s.length := by rw [Nat.mul_comm (10 ^ s.length) 10, Nat.mul_assoc]
    rw [e]
    exact Nat.le_trans (Nat.mul_le_mul_right _ (Nat.div_mul_le_self v 10)) h1
   ·simp only [List.length_cons]
    by_cases hs' : s = []
    ·subst hs'; simp
    ·have : 0 < v := Nat.pos_of_ne_zero fun e => h ⟨e, hs'⟩
     have := b27 h1 this
     omega
   ·simp only [reduceCtorEq, if_false]
    by_cases hs' : s = []
    ·rw [if_pos hs']; omega
    ·rw [if_neg hs']
     have : 0 < v := Nat.pos_of_ne_zero fun e => h ⟨e, hs'⟩
     omega
 ·unfold ct0; simp
theorem bv6 {n : Int} (h0 : -9223372036854775808 ≤ n) (h1 : n ≤ 9223372036854775807) : aA6 n 10 = some (Go.Lib.itoa n) := by
 unfold aA6 aH9 Go.Lib.itoa
 by_cases hn : n < 0
 ·have e : n = -((n.natAbs : Nat) : Int) := by omega
  have hd := aV8 (u := n.natAbs) (by omega)
  rw [← e] at hd
  have hl := Go.Lib.itoa_length_le n h0 h1
  unfold Go.Lib.itoa at hl
  rw [if_pos hn] at hl
  simp only [List.length_cons] at hl
  simp [hn, hd, ad7 (a := [45]) (b := Go.Lib.decDigits n.natAbs) (by simp; omega)]
 ·have hw : IntKind.wrap .i64 (0 - n) = -((n.toNat : Nat) : Int) := by rw [ai0 (by omega) (by omega)]; omega
  have hd := aV8 (u := n.toNat) (by omega)
  rw [hw, hd]
  simp [hn]
theorem a38 {n : Int} (h0 : -9223372036854775808 ≤ n) (h1 : n ≤ 9223372036854775807) : aX3 n 10 = some (Go.Lib.itoa n) := by
 unfold aX3 aT8 aA0 aX0
 rw [if_pos ⟨rfl, h0, h1⟩]; rfl
theorem bO3 {n : Int} (h0 : -9223372036854775808 ≤ n) (h1 : n ≤ 9223372036854775807) : (Go.Lib.itoa n).length ≤ 21 := Go.Lib.itoa_length_le n h0 h1
def ch1 (c : UInt8) : Bool := (decide ((c.toNat : Int) = 32)) || ((decide ((c.toNat : Int) = 9)) || ((decide ((c.toNat : Int) = 10)) || (decide ((c.toNat : Int) = 13))))
def bB5 : Str → Str → List Str
 | [], [] => []
 | a :: l, [] => [a :: l]
 | [], c :: r => if ch1 c = true then bB5 [] r else bB5 [c] r
 | a :: l, c :: r => if ch1 c = true then (a :: l) :: bB5 [] r else bB5 (a :: l ++ [c]) r
def aQ7 (s : Str) : List Str := bB5 [] s
theorem bO4 {cur r : Str} {c : UInt8} (h : ch1 c = true) : bB5 cur (c :: r) = (if cur = [] then [] else [cur]) ++ bB5 [] r := by
 cases cur with
 | nil => simp [bB5, h]
 | cons a l => simp [bB5, h]
theorem b28 {cur r : Str} {c : UInt8} (h : ch1 c = false) : bB5 cur (c :: r) = bB5 (cur ++ [c]) r := by
 cases cur with
 | nil => simp [bB5, h]
 | cons a l => simp [bB5, h]
theorem bO5 (cur : Str) : bB5 cur [] = if cur = [] then [] else [cur] := by
 cases cur <;> simp [bB5]
theorem bB6 {s : Str} {k i : Nat} (hk : k ≤ i) (hi : i < s.length) : (s.take (i + 1)).drop k = (s.take i).drop k ++ [s[i]] := by
 rw [List.take_succ_eq_append_getElem hi, List.drop_append_of_le_length (by simp; omega)]
def cu9 (s : Str) (f : Int) (i : Nat) : Str := if f < 0 then [] else (s.take i).drop f.toNat
theorem bv7 {s : Str} (h : s.length ≤ 100000) : aF4 s = some (aQ7 s) := by
 unfold aF4
 have hm : s.length ≤ maxLen := by unfold maxLen; omega
 refine (ac6 (σ := Int × List Str) (τ := Int × Int × List Str) s.length (fun a i => (a.1, i, a.2)) (fun a => ai3 s a.1 a.2.1 a.2.2) (fun i a => a.2 ++ bB5 (cu9 s a.1 i) (s.drop i))
  (fun i a => (a.1 = -1 ∨ (0 ≤ a.1 ∧ a.1 < (i : Int))) ∧ a.2.length ≤ i) (s0 := (-1, [])) ⟨.inl rfl, by simp⟩ ?_ ?_).trans ?_
 ·rintro ⟨f, out⟩ i hi ⟨hf, ho⟩
  simp only at hf ho
  left
  have hlt : (i : Int) < (List.length s : Int) := by omega
  have hk29 : ∀ b : Bool, am1 s f (i : Int) out b = some (.cont (if b = true then (-1, ((i : Int) + 1), if f < 0 then out else out ++ [(s.take i).drop f.toNat]) else (if f < 0 then (i : Int) else f, ((i : Int) + 1), out))) := by
   intro b
   unfold am1
   rw [b01 hi hm]
   cases b with
   | true =>
    by_cases h0 : 0 ≤ f
    ·have hn : ¬ f < 0 := by omega
     have hc : cut s f (i : Int) = some ((s.take i).drop f.toNat) := by
      have := a16 (l := s) (a := f.toNat) (b := i) (by omega) (by omega)
      rw [show ((f.toNat : Nat) : Int) = f by omega] at this
      exact this
     simp only [if_true, decide_eq_true h0, hc, Option.bind_some, if_neg hn]
     rw [ad0 (by simp; omega) (by simp; omega), Option.bind_some]
    ·have hn : f < 0 := by omega
     simp [h0, hn]
   | false =>
    by_cases h0 : f < 0
    ·simp [h0]
    ·simp [h0]
  have hstep : ai3 s f (i : Int) out = some (.cont (if ch1 s[i] = true then (-1, ((i : Int) + 1), if f < 0 then out else out ++ [(s.take i).drop f.toNat]) else (if f < 0 then (i : Int) else f, ((i : Int) + 1), out))) := by
   unfold ai3
   simp only [decide_eq_true hlt, if_true, ak8 hi, Option.bind_some, hk29]
   unfold ch1
   cases decide ((s[i].toNat : Int) = 32) <;> cases decide ((s[i].toNat : Int) = 9) <;> cases decide ((s[i].toNat : Int) = 10) <;> cases decide ((s[i].toNat : Int) = 13) <;> rfl
  have hd : s.drop i = s[i] :: s.drop (i + 1) := List.drop_eq_getElem_cons hi
  cases hs : ch1 s[i] with
  | true =>
   refine ⟨(-1, if f < 0 then out else out ++ [(s.take i).drop f.toNat]), ?_, ?_, .inl rfl, ?_⟩
   ·show ai3 s f (i : Int) out = _
    rw [hstep, hs]; simp
   ·simp only
    rw [hd, bO4 hs]
    unfold cu9
    rcases hf with hf | ⟨h1, h2⟩
    ·simp [hf]
    ·have hn : ¬ f < 0 := by omega
     have hne : (s.take i).drop f.toNat ≠ [] := by
      intro e
      have := congrArg List.length e
      simp at this; omega
     simp [hn, hne]
   ·simp only
    split
    ·omega
    ·simp; omega
  | false =>
   refine ⟨(if f < 0 then (i : Int) else f, out), ?_, ?_, .inr ?_, by simp only; omega⟩
   ·show ai3 s f (i : Int) out = _
    rw [hstep, hs]; simp
   ·simp only
    rw [hd, b28 hs]
    unfold cu9
    rcases hf with hf | ⟨h1, h2⟩
    ·have hni : ¬ ((i : Int) < 0) := by omega
     have e := bB6 (s := s) (k := i) (i := i) (Nat.le_refl _) hi
     have e0 : (s.take i).drop i = [] := List.drop_of_length_le (by simp; omega)
     rw [e0] at e
     simp [hf, hni, e]
    ·have hn : ¬ f < 0 := by omega
     simp only [hn, if_false]
     rw [bB6 (by omega) hi]
   ·simp only
    split <;> omega
 ·rintro ⟨f, out⟩ ⟨hf, ho⟩
  simp only at hf ho
  show ai3 s f (s.length : Int) out = _
  unfold ai3 aK2
  have hn : ¬ ((s.length : Int) < (List.length s : Int)) := by omega
  simp only [decide_eq_false hn, Bool.false_eq_true, if_false, List.drop_length, bO5]
  unfold cu9
  rcases hf with hf | ⟨h1, h2⟩
  ·simp [hf]
  ·have hn : ¬ f < 0 := by omega
   have hc : cut s f (List.length s : Int) = some ((s.take s.length).drop f.toNat) := by
    have := a16 (l := s) (a := f.toNat) (b := s.length) (by omega) (by omega)
    rw [show ((f.toNat : Nat) : Int) = f by omega] at this
    exact this
   have hne : (s.take s.length).drop f.toNat ≠ [] := by
    intro e
    have := congrArg List.length e
    simp at this; omega
   simp only [decide_eq_true h1, if_true, hc, Option.bind_some, if_neg hn, if_neg hne]
   rw [ad0 (by simp; omega) (by simp; omega)]; rfl
 ·simp [aQ7, cu9]
end Go.Proofs.YtofpfpkjdigabaaGreatDoor
