import Derived.Test.YtofpfpkjdigabaaGreatDoorR
import Derived.Test.YtofpfpkjdigabaaGreatDoorVmQ
import Derived.Lib.ReplaceLaws
import Derived.KernelRfl
import Derived.Test.YtofpfpkjdigabaaGreatDoorVmI
import Derived.Lib.ItoaLen
namespace Go.Proofs.YtofpfpkjdigabaaGreatDoor
open Go.Vm
set_option autoImplicit false
set_option linter.unusedVariables false
set_option linter.unusedSimpArgs false
set_option maxRecDepth 100000
theorem bb0 {α : Type} {o : Option α} : (o.bind fun x => some x) = o := by cases o <;> rfl
theorem aa8 {i : Nat} (h : i ≤ 1000000) : IntKind.wrap .i64 ((i : Int) + 1) = (i : Int) + 1 := ag3 (by omega) (by omega)
theorem dlt {i n : Nat} (h : i < n) : decide ((i : Int) < (n : Int)) = true := by simp [h]
theorem dge {n : Nat} : decide ((n : Int) < (n : Int)) = false := by simp
def a12 (stops : Str) : Str → Nat
 | [] => 0
 | c :: r => if stops.contains c then 0 else a12 stops r + 1
theorem b26 (stops s : Str) : a12 stops s ≤ s.length := by
 induction s with
 | nil => exact Nat.le_refl _
 | cons c r ih => unfold a12; split <;> simp <;> omega
theorem bP1 {s stops : Str} (hm : s.length ≤ 1000000) : aM5 s stops = some (a12 stops s : Int) := by
 unfold aM5
 refine (ac1 s.length (fun (_ : Unit) i => i) (fun v => ay9 s stops v) (fun i _ => ((i + a12 stops (s.drop i) : Nat) : Int)) (fun _ _ => True) (s0 := ()) trivial ?_ ?_).trans ?_
 ·intro _ i hi _
  simp only [ay9, dlt hi, if_true, ak8 hi, Option.bind_some, strings_IndexByte, stringslite_IndexByte, aM0, bq7, ci0, List.drop_eq_getElem_cons hi, a12]
  by_cases hc : stops.contains s[i] = true
  ·right; rw [if_pos hc, if_pos hc]; rfl
  ·left
   refine ⟨(), ?_, ?_, trivial⟩
   ·rw [if_neg hc, aa8 (by omega)]
   ·rw [if_neg hc]; omega
 ·intro _ _
  simp [ay9, a12]
 ·simp
theorem bB0 {s p : Str} : stringslite_HasPrefix s p = some (p.isPrefixOf s) := by
 unfold stringslite_HasPrefix
 by_cases h : p.length ≤ s.length
 ·have h1 : ((List.length p : Int) ≤ (List.length s : Int)) := by omega
  simp only [h1, decide_true, if_true, a68 h, Option.bind_some]
  congr 1
  rw [Bool.eq_iff_iff, decide_eq_true_eq, List.isPrefixOf_iff_prefix]
  rw [List.prefix_iff_eq_take]; exact eq_comm
 ·have h1 : ¬ ((List.length p : Int) ≤ (List.length s : Int)) := by omega
  simp only [h1, decide_false, Bool.false_eq_true, if_false, Option.bind_some]
  congr 1
  symm
  rw [Bool.eq_false_iff]
  intro e
  exact h (List.isPrefixOf_iff_prefix.1 e).length_le
def bl4 (c : UInt8) : Bool := (decide (97 ≤ (c.toNat : Int)) && decide ((c.toNat : Int) ≤ 122)) || ((decide (48 ≤ (c.toNat : Int)) && decide ((c.toNat : Int) ≤ 57)) || (decide ((c.toNat : Int) = 45) || decide ((c.toNat : Int) = 95)))
def bW4 (c : UInt8) : Bool := decide (97 ≤ (c.toNat : Int)) && decide ((c.toNat : Int) ≤ 122)
def bl5 (s : Str) : Bool := ([33] : Str).isPrefixOf s
def cc3 (s : Str) : Str := if bl5 s then s.drop 1 else s
def bP2 (s : Str) : Bool := match s with
 | [] => false
 | c :: r => bW4 c && r.all bl4 && decide (s.length ≤ 32)
def bH9 (s : Str) : Bool := bP2 (cc3 s)
theorem bU7 (c : UInt8) (h : bW4 c = true) : bl4 c = true := by
 unfold bW4 at h; unfold bl4; rw [h]; rfl
theorem bU8 {c : UInt8} {r : Str} : bP2 (c :: r) = (bW4 c && (c :: r).all bl4 && decide ((c :: r).length ≤ 32)) := by
 show (bW4 c && r.all bl4 && decide _) = _
 cases h : bW4 c
 ·rfl
 ·rw [List.all_cons, bU7 c h]; rfl
theorem bP3 (s : Str) : (cc3 s).length ≤ s.length := by
 unfold cc3; split <;> simp
theorem bv7 {s : Str} : strings_TrimPrefix s [33] = some (cc3 s) := by
 unfold strings_TrimPrefix stringslite_TrimPrefix
 rw [bB0 (s := s) (p := [33])]
 unfold cc3 bl5
 cases hp : ([33] : Str).isPrefixOf s with
 | false => simp
 | true =>
  have hl : 1 ≤ s.length := (List.isPrefixOf_iff_prefix.1 hp).length_le
  have := a69 (l := s) (a := 1) hl
  simp only [Option.bind_some, if_true]
  rw [show (List.length ([33] : Str) : Int) = ((1 : Nat) : Int) from rfl, this]; rfl
theorem bI0 {s : Str} (hs : s.length ≤ 1000000) : aP2 s = some (bH9 s) := by
 unfold aP2 bH9
 rw [bv7, Option.bind_some]
 have hl := bP3 s
 generalize cc3 s = x at hl ⊢
 cases x with
 | nil => rfl
 | cons c r =>
  have hat : ah8 (c :: r) 0 = some c := rfl
  simp only [reduceCtorEq, decide_false, Bool.false_eq_true, if_false, hat, Option.bind_some, bU8]
  by_cases hlen : (32 : Int) < (List.length (c :: r) : Int)
  ·have : ¬ ((c :: r).length ≤ 32) := by omega
   simp only [hlen, decide_true, if_true, Option.bind_some, this, decide_false, Bool.and_false]
  ·have h32 : (c :: r).length ≤ 32 := by omega
   simp only [hlen, decide_false, Bool.false_eq_true, if_false, h32, decide_true, Bool.and_true]
   have hloop : ab0 (fun s => an8 (c :: r) s) 0 = some ((c :: r).all bl4) := by
    refine (ac1 (c :: r).length (fun (_ : Unit) i => i) (fun v => an8 (c :: r) v) (fun i _ => ((c :: r).drop i).all bl4) (fun _ _ => True) (s0 := ()) trivial ?_ ?_).trans rfl
    ·intro _ i hi _
     have key : ∀ c : UInt8, (bif (decide ((c.toNat : Int) < 97)) then (bif (decide ((c.toNat : Int) < 48)) then ((!decide ((c.toNat : Int) = 45)) && (!decide ((c.toNat : Int) = 95))) else ((decide (57 < (c.toNat : Int))) && ((!decide ((c.toNat : Int) = 45)) && (!decide ((c.toNat : Int) = 95))))) else ((decide (122 < (c.toNat : Int))) && (bif (decide ((c.toNat : Int) < 48)) then ((!decide ((c.toNat : Int) = 45)) && (!decide ((c.toNat : Int) = 95))) else ((decide (57 < (c.toNat : Int))) && ((!decide ((c.toNat : Int) = 45)) && (!decide ((c.toNat : Int) = 95))))))) = !bl4 c := aP1 (by decide +kernel)
     simp only [an8, dlt hi, if_true, ak8 hi, Option.bind_some, List.drop_eq_getElem_cons hi, List.all_cons, key]
     cases hn : bl4 (c :: r)[i]
     ·right; simp
     ·left
      refine ⟨(), ?_, by simp, trivial⟩
      simp only [Bool.not_true, Bool.false_eq_true, if_false]
      rw [aa8 (by omega)]
    ·intro _ _
     simp [an8]
   rw [hloop]
   have k1 : ∀ c : UInt8, bW4 c = (!decide ((c.toNat : Int) < 97) && !decide (122 < (c.toNat : Int))) := aP1 (by decide +kernel)
   rw [k1]
   cases decide ((c.toNat : Int) < 97) <;> cases decide (122 < (c.toNat : Int)) <;> simp
theorem b27 {s : Str} : aJ7 s = some (bl5 s) := by
 unfold aJ7 bl5
 cases s with
 | nil => rfl
 | cons c r =>
  have h1 : (0 : Int) < (List.length (c :: r) : Int) := by simp only [List.length_cons]; omega
  have h2 : ah8 (c :: r) 0 = some c := rfl
  have h3 : decide ((c.toNat : Int) = 33) = decide (c = 33) := isC c 33
  simp only [h1, decide_true, if_true, h2, Option.bind_some, h3, List.isPrefixOf]
  have key : ∀ c : UInt8, decide (c = 33) = ((33 == c) && true) := aP1 (by decide +kernel)
  rw [key]
theorem bU9 {s : Str} (hs : s.length ≤ 1000000) : aM7 s = some (bH9 s) := by
 have hk : aM7 s = az5 (cc3 s) := by
  unfold aM7
  rw [b27, Option.bind_some]
  unfold cc3
  cases hp : bl5 s with
  | false => simp
  | true =>
   have hl : 1 ≤ s.length := (List.isPrefixOf_iff_prefix.1 hp).length_le
   have := a69 (l := s) (a := 1) hl
   simp only [if_true]
   rw [show (1 : Int) = ((1 : Nat) : Int) from rfl, this]; rfl
 rw [hk]
 unfold bH9
 have hl := bP3 s
 generalize cc3 s = x at hl ⊢
 unfold az5
 let tail (i : Nat) (x : Str) : Bool := match i with
  | 0 => bP2 x
  | _ => (x.drop i).all bl4 && (decide (1 ≤ (List.length x : Int)) && decide ((List.length x : Int) ≤ 32))
 refine (ac1 x.length (fun (_ : Unit) i => i) (fun v => aw2 x v) (fun i _ => tail i x) (fun _ _ => True) (s0 := ()) trivial ?_ ?_).trans rfl
 ·intro _ i hi _
  have key : ∀ c : UInt8, ((if (decide (97 ≤ (c.toNat : Int))) then some (decide ((c.toNat : Int) ≤ 122)) else some false) : Option Bool) = some (bW4 c) := by
   intro c; unfold bW4; cases decide (97 ≤ (c.toNat : Int)) <;> rfl
  have key2 : ∀ c : UInt8, (if (decide (48 ≤ (c.toNat : Int))) then (if (decide ((c.toNat : Int) ≤ 57)) then some false else (if (decide ((c.toNat : Int) = 45)) then some false else some (!(decide ((c.toNat : Int) = 95))))) else (if (decide ((c.toNat : Int) = 45)) then some false else some (!(decide ((c.toNat : Int) = 95)))) : Option Bool) = some (!(decide (48 ≤ (c.toNat : Int)) && decide ((c.toNat : Int) ≤ 57) || (decide ((c.toNat : Int) = 45) || decide ((c.toNat : Int) = 95)))) := aP1 (by decide +kernel)
  have key3 : ∀ c : UInt8, bl4 c = (bW4 c || ((decide (48 ≤ (c.toNat : Int)) && decide ((c.toNat : Int) ≤ 57)) || (decide ((c.toNat : Int) = 45) || decide ((c.toNat : Int) = 95)))) := fun c => rfl
  simp only [aw2, dlt hi, if_true, ak8 hi, Option.bind_some, key]
  have hlen1 : (1 : Int) ≤ (List.length x : Int) := by omega
  cases i with
  | zero =>
   cases x with
   | nil => simp at hi
   | cons c r =>
    simp only [List.getElem_cons_zero, tail, bP2]
    cases hlow : bW4 c with
    | false => right; simp
    | true =>
     left
     refine ⟨(), ?_, ?_, trivial⟩
     ·simp only [Bool.not_true, Bool.false_eq_true, if_false, Option.bind_some]
      rw [aa8 (by omega)]
     ·simp only [Bool.true_and, List.drop_succ_cons, List.drop_zero, hlen1, decide_true]
      congr 1
      rw [Bool.eq_iff_iff, decide_eq_true_eq, decide_eq_true_eq]; omega
  | succ i =>
   have h0 : decide (((i + 1 : Nat) : Int) = 0) = false := by simp; omega
   simp only [tail, List.drop_eq_getElem_cons hi, List.all_cons, h0, Bool.false_eq_true, if_false, key2]
   rw [key3]
   cases hlow : bW4 x[i + 1] with
   | true =>
    left
    refine ⟨(), ?_, by simp, trivial⟩
    simp only [Bool.not_true, Bool.false_eq_true, if_false, Option.bind_some]
    rw [aa8 (by omega)]
   | false =>
    simp only [Bool.not_false, if_true, Option.bind_some, Bool.false_or]
    generalize (decide (48 ≤ (x[i + 1].toNat : Int)) && decide ((x[i + 1].toNat : Int) ≤ 57) || (decide ((x[i + 1].toNat : Int) = 45) || decide ((x[i + 1].toNat : Int) = 95))) = q
    cases q with
    | false => right; simp
    | true =>
     left
     refine ⟨(), ?_, by simp, trivial⟩
     simp only [Bool.not_true, Bool.false_eq_true, if_false]
     rw [aa8 (by omega)]
 ·intro _ _
  simp only [aw2, dge, Bool.false_eq_true, if_false]
  cases x with
  | nil => rfl
  | cons c r => simp [tail]
def a82 (v : Str) : Bool := v.all fun c => !([0, 10, 13] : Str).contains c
theorem bB1 (stops s : Str) : decide ((a12 stops s : Int) < (List.length s : Int)) = !(s.all fun c => !stops.contains c) := by
 induction s with
 | nil => rfl
 | cons c r ih =>
  unfold a12
  by_cases hc : stops.contains c = true
  ·rw [if_pos hc]; simp only [List.all_cons, hc]; simp
  ·have hc' : stops.contains c = false := by simpa using hc
   rw [if_neg hc, List.all_cons, hc', Bool.not_false, Bool.true_and, ← ih]
   congr 1
   simp only [List.length_cons, eq_iff_iff]; omega
theorem bI1 {v : Str} (hv : v.length ≤ 1000000) : aH9 v = some (a82 v) := by
 unfold aH9
 refine (ac1 v.length (fun (_ : Unit) i => i) (fun s => at3 v s) (fun i _ => a82 (v.drop i)) (fun _ _ => True) (s0 := ()) trivial ?_ ?_).trans rfl
 ·intro _ i hi _
  have key : ∀ c : UInt8, ((if (decide ((c.toNat : Int) = 0)) then some true else (if (decide ((c.toNat : Int) = 10)) then some true else some (decide ((c.toNat : Int) = 13)))) : Option Bool) = some (([0, 10, 13] : Str).contains c) := aP1 (by decide +kernel)
  simp only [at3, dlt hi, if_true, ak8 hi, Option.bind_some, key, a82, List.drop_eq_getElem_cons hi, List.all_cons]
  cases ([0, 10, 13] : Str).contains v[i] with
  | true => right; simp
  | false =>
   left
   refine ⟨(), ?_, by simp, trivial⟩
   simp only [Bool.false_eq_true, if_false]
   rw [aa8 (by omega)]
 ·intro _ _
  simp [at3, a82]
def aV5 (l : List aa4) (n : Str) : Bool := l.any fun b => decide (b.Name = n)
def chk (before : List aa4) (a : aa4) : Int :=
 if (32 : Int) ≤ (List.length before : Int) then 22 else if bH9 a.Name = false then 6 else if (a.Query && !decide (a.Value = [])) = true ∨ a82 a.Value = false then 2 else if (1024 : Int) < (List.length a.Value : Int) then 4 else if aV5 before a.Name = true then 7 else 0
def aS7 {α : Type} (p : α → Bool) : List α → Int
 | [] => -1
 | a :: r => if p a then 0 else if aS7 p r = -1 then -1 else aS7 p r + 1
theorem bI2 {α : Type} (p : α → Bool) (l : List α) : -1 ≤ aS7 p l := by
 induction l with
 | nil => exact Int.le_refl _
 | cons a r ih => simp only [aS7]; split <;> (try split) <;> omega
theorem bP4 {α : Type} (p : α → Bool) (l : List α) : 0 ≤ aS7 p l ↔ l.any p = true := by
 induction l with
 | nil => simp [aS7]
 | cons a r ih =>
  have := bI2 p r
  rw [List.any_cons, Bool.or_eq_true, ← ih]
  simp only [aS7]
  by_cases hp : p a = true
  ·simp [hp]
  ·rw [if_neg hp]
   split
   ·rename_i h; rw [h]; simp [hp]
   ·simp only [hp, false_or]; omega
theorem aR0 {α : Type} (p : α → Bool) (l : List α) : decide (0 ≤ aS7 p l) = l.any p := by
 rw [Bool.eq_iff_iff, decide_eq_true_eq, bP4]
theorem bv8 {α : Type} {p : α → Bool} {a : α} {r : List α} (h : p a = true) : aS7 p (a :: r) = 0 := by simp [aS7, h]
theorem a83 {α : Type} {p : α → Bool} {a : α} {r : List α} (h : ¬ p a = true) : aS7 p (a :: r) = if aS7 p r = -1 then -1 else aS7 p r + 1 := by simp [aS7, h]
theorem av5 {α : Type} {p : α → Bool} {l : List α} {body : Int → Option (Step Int Int)} (hl : l.length ≤ 1000000)
  (hb : ∀ i (h : i < l.length), body (i : Int) = if p l[i] then some (.done (i : Int)) else some (.cont (IntKind.wrap .i64 ((i : Int) + 1)))) (he : body (l.length : Int) = some (.done (-1))) : ab0 body 0 = some (aS7 p l) := by
 refine (ac1 l.length (fun (_ : Unit) i => i) body (fun i _ => if aS7 p (l.drop i) = -1 then -1 else (i : Int) + aS7 p (l.drop i)) (fun _ _ => True) (s0 := ()) trivial ?_ ?_).trans ?_
 ·intro _ i hi _
  rw [hb i hi, List.drop_eq_getElem_cons hi]
  have := bI2 p (l.drop (i + 1))
  by_cases hp : p l[i] = true
  ·right; rw [if_pos hp, bv8 hp]; simp
  ·left
   refine ⟨(), ?_, ?_, trivial⟩
   ·rw [if_neg hp, aa8 (by omega)]
   ·rw [a83 hp]
    by_cases h : aS7 p (l.drop (i + 1)) = -1
    ·simp [h]
    ·rw [if_neg h, if_neg (by omega), if_neg h]; omega
 ·intro _ _
  rw [he]; simp [aS7]
 ·simp only [List.drop_zero]
  congr 1
  split
  ·rename_i h; exact h.symm
  ·simp
theorem cc4 {before : List aa4} {a : aa4} (hb : before.length ≤ 1000000) (hn : a.Name.length ≤ 1000000) (hv : a.Value.length ≤ 1000000) : aY1 before a = some (chk before a) := by
 unfold aY1 chk
 have hix : ad6 before a = some (aS7 (fun b => decide (b.Name = a.Name)) before) := by
  unfold ad6
  refine av5 hb ?_ ?_
  ·intro i hi
   simp only [ac5, dlt hi, if_true, aa5 hi, Option.bind_some, aU6]
  ·simp [ac5]
 have hc : ac6 before a = some (aV5 before a.Name) := by
  unfold ac6 aV5
  rw [hix, Option.bind_some, aR0]
 simp only [bI0 hn, Option.bind_some, bP1 hv, hc, bB1]
 by_cases h1 : (32 : Int) ≤ (List.length before : Int)
 ·simp [h1]
 ·simp only [h1, decide_false, Bool.false_eq_true, if_false]
  cases bH9 a.Name with
  | false => simp
  | true =>
   simp only [Bool.not_true, Bool.false_eq_true, if_false, Bool.true_eq_false]
   cases a.Query && !decide (a.Value = []) with
   | true => simp
   | false =>
    change (if (!a82 a.Value) = true then _ else _) = _
    cases a82 a.Value with
    | false => simp
    | true =>
     simp only [Bool.not_true, Bool.false_eq_true, if_false, Bool.true_eq_false, or_self]
     by_cases h4 : (1024 : Int) < (List.length a.Value : Int)
     ·simp [h4]
     ·simp only [h4, decide_false, Bool.false_eq_true, if_false]
      cases aV5 before a.Name <;> simp
theorem b28 {before : List aa4} {a : aa4} (hb : before.length ≤ 1000000) (hn : a.Name.length ≤ 1000000) (hv : a.Value.length ≤ 1000000) : a77 before a = some (chk before a) := by
 unfold a77 chk
 have hloop : ab0 (fun s => av2 before a s) 0 = some (if aV5 before a.Name = true then (7 : Int) else 0) := by
  refine (ac1 before.length (fun (_ : Unit) i => i) (fun s => av2 before a s) (fun i _ => if aV5 (before.drop i) a.Name = true then (7 : Int) else 0) (fun _ _ => True) (s0 := ()) trivial ?_ ?_).trans rfl
  ·intro _ i hi _
   simp only [av2, dlt hi, if_true, aa5 hi, Option.bind_some, aV5, List.drop_eq_getElem_cons hi, List.any_cons]
   by_cases h : before[i].Name = a.Name
   ·right; simp [h]
   ·left
    refine ⟨(), ?_, by simp [h], trivial⟩
    simp only [h, decide_false, Bool.false_eq_true, if_false]
    rw [aa8 (by omega)]
  ·intro _ _
   simp [av2, aV5]
 simp only [bU9 hn, Option.bind_some, bI1 hv, hloop]
 by_cases h1 : (32 : Int) ≤ (List.length before : Int)
 ·simp [h1]
 ·simp only [h1, decide_false, Bool.false_eq_true, if_false]
  cases bH9 a.Name with
  | false => simp
  | true =>
   simp only [Bool.not_true, Bool.false_eq_true, if_false, Bool.true_eq_false]
   by_cases h4 : (1024 : Int) < (List.length a.Value : Int)
   ·cases a.Query <;> cases hd : decide (a.Value = []) <;> cases a82 a.Value <;> simp [h4]
   ·cases a.Query <;> cases hd : decide (a.Value = []) <;> cases a82 a.Value <;> simp [h4]
def okA (a : aa4) : Prop := a.Name.length ≤ 5000 ∧ a.Value.length ≤ 5000
def okL (l : List aa4) : Prop := l.length ≤ 5000 ∧ ∀ a ∈ l, okA a
def bB2 (before : List aa4) : List aa4 → Int
 | [] => 0
 | a :: r => if chk before a = 0 then bB2 (before ++ [a]) r else chk before a
def bI3 (l : List aa4) : Int := bB2 [] l
theorem okL.get {l : List aa4} (h : okL l) {i : Nat} (hi : i < l.length) : okA l[i] := h.2 _ (List.getElem_mem hi)
theorem cc5 {l : List aa4} (h : okL l) : aY2 l = some (bI3 l) := by
 unfold aY2
 refine (ac1 l.length (fun (_ : Unit) i => i) (fun s => az0 l s) (fun i _ => bB2 (l.take i) (l.drop i)) (fun _ _ => True) (s0 := ()) trivial ?_ ?_).trans ?_
 ·intro _ i hi _
  have ha := h.get hi
  have h1 := h.1
  simp only [az0, dlt hi, if_true, aa5 hi, Option.bind_some, a68 (Nat.le_of_lt hi), cc4 (before := l.take i) (a := l[i]) (by simp; omega) (by have := ha.1; omega) (by have := ha.2; omega), List.drop_eq_getElem_cons hi, bB2]
  by_cases hz : chk (l.take i) l[i] = 0
  ·left
   refine ⟨(), ?_, ?_, trivial⟩
   ·simp only [hz, decide_true, Bool.not_true, Bool.false_eq_true, if_false]
    rw [aa8 (by omega)]
   ·simp only [hz, if_true]
    rw [List.take_succ_eq_append_getElem hi]
  ·right; simp [hz]
 ·intro _ _
  simp [az0, bB2]
 ·simp [bI3]
theorem bI4 {l : List aa4} (h : okL l) : aP3 l = some (bI3 l) := by
 unfold aP3
 refine (ac1 l.length (fun (_ : Unit) i => i) (fun s => aw3 l s) (fun i _ => bB2 (l.take i) (l.drop i)) (fun _ _ => True) (s0 := ()) trivial ?_ ?_).trans ?_
 ·intro _ i hi _
  have ha := h.get hi
  have h1 := h.1
  simp only [aw3, dlt hi, if_true, aa5 hi, Option.bind_some, a68 (Nat.le_of_lt hi), b28 (before := l.take i) (a := l[i]) (by simp; omega) (by have := ha.1; omega) (by have := ha.2; omega), List.drop_eq_getElem_cons hi, bB2]
  by_cases hz : chk (l.take i) l[i] = 0
  ·left
   refine ⟨(), ?_, ?_, trivial⟩
   ·simp only [hz, decide_true, Bool.not_true, Bool.false_eq_true, if_false]
    rw [aa8 (by omega)]
   ·simp only [hz, if_true]
    rw [List.take_succ_eq_append_getElem hi]
  ·right; simp [hz]
 ·intro _ _
  simp [aw3, bB2]
 ·simp [bI3]
def dbl (s : Str) : Str := s.flatMap fun c => if c = 39 then [39, 39] else [c]
def oddB (s : Str) : Bool := decide (s = []) || s.any fun c => ([32, 9, 39] : Str).contains c
def aV6 (s : Str) : Str := if oddB s then [39] ++ dbl s ++ [39] else s
theorem b29 (s : Str) : (dbl s).length ≤ 2 * s.length := by
 induction s with
 | nil => exact Nat.le_refl _
 | cons c r ih =>
  unfold dbl at ih ⊢
  rw [List.flatMap_cons, List.length_append, List.length_cons]
  split <;> simp only [List.length_cons, List.length_nil] <;> omega
theorem bb1 (s : Str) : (aV6 s).length ≤ 2 * s.length + 2 := by
 have := b29 s
 unfold aV6
 split <;> simp <;> omega
theorem bv9 {c : UInt8} (hc : c ≠ 39) (k : Nat) (s : Str) (hk : k ≤ Go.Lib.count s [39]) : Go.Lib.replaceK [39] [39, 39] k (c :: s) = c :: Go.Lib.replaceK [39] [39, 39] k s := by
 cases k with
 | zero => rfl
 | succ k =>
  obtain ⟨i, hi⟩ := Go.Lib.index_of_count (s := s) (old := [39]) (by omega)
  have hi' : Go.Lib.index (c :: s) [39] = ((i + 1 : Nat) : Int) := by
   have hp : ([39] : Str).isPrefixOf (c :: s) = false := by simp [List.isPrefixOf, Ne.symm hc]
   rw [Go.Lib.index, hp, hi]
   have : ((i : Int) == -1) = false := by rw [beq_eq_false_iff_ne]; omega
   simp [this]
  rw [Go.Lib.replaceK_hit _ _ _ _ _ hi, Go.Lib.replaceK_hit _ _ _ _ _ hi']
  simp [Nat.add_right_comm]
theorem bI5 (s : Str) : Go.Lib.replaceK [39] [39, 39] (Go.Lib.count s [39]) s = dbl s := by
 induction s with
 | nil => rw [Go.Lib.count_one]; rfl
 | cons c r ih =>
  by_cases hc : c = 39
  ·subst hc
   have hi : Go.Lib.index (39 :: r) [39] = ((0 : Nat) : Int) := by rw [Go.Lib.index]; simp [List.isPrefixOf]
   rw [Go.Lib.count_cons_eq, Nat.add_comm 1, Go.Lib.replaceK_hit _ _ _ _ _ hi]
   simp only [List.take_zero, List.nil_append, Nat.zero_add, List.length_cons, List.length_nil, List.drop_succ_cons, List.drop_zero, ih]
   unfold dbl
   rw [List.flatMap_cons, if_pos rfl]
  ·rw [Go.Lib.count_cons_ne _ _ _ hc, bv9 hc _ _ (Nat.le_refl _), ih]
   unfold dbl
   rw [List.flatMap_cons, if_neg hc]; rfl
theorem bw0 {s : Str} (hs : s.length ≤ 1000000) : strings_ReplaceAll s [39] [39, 39] = some (dbl s) := by
 have hc : Go.Lib.count s [39] ≤ s.length := by rw [Go.Lib.count_one]; exact List.count_le_length
 unfold strings_ReplaceAll aP0
 rw [if_pos ⟨by omega, by simp, by simp; omega⟩]
 unfold Go.Lib.replaceAll Go.Lib.replace
 rw [if_neg (by decide)]
 have : Go.Lib.replaceNum s [39] (-1) = Go.Lib.count s [39] := by unfold Go.Lib.replaceNum; rw [if_pos (Or.inl (by omega))]
 rw [this, bI5]
theorem cc6 {s : Str} (hs : s.length ≤ 1000000) : aY3 s = some (aV6 s) := by
 unfold aY3
 have hd := b29 s
 have c1 : ax3 [39] (dbl s) = some ([39] ++ dbl s) := ad3 (by simp; omega)
 have c2 : ax3 ([39] ++ dbl s) [39] = some ([39] ++ dbl s ++ [39]) := ad3 (by simp; omega)
 have hu := b26 [32, 9, 39] s
 have ha := bB1 [32, 9, 39] s
 have hany : (s.any fun c => ([32, 9, 39] : Str).contains c) = !(s.all fun c => !([32, 9, 39] : Str).contains c) := by
  rw [List.any_eq_not_all_not]
 have hdd : decide ((a12 [32, 9, 39] s : Int) = (List.length s : Int)) = (s.all fun c => !([32, 9, 39] : Str).contains c) := by
  cases h : s.all fun c => !([32, 9, 39] : Str).contains c with
  | true => rw [h] at ha; simp only [Bool.not_true, decide_eq_false_iff_not] at ha; simp; omega
  | false => rw [h] at ha; simp only [Bool.not_false, decide_eq_true_eq] at ha; simp; omega
 simp only [bP1 hs, Option.bind_some, bw0 hs, c1, c2, hdd]
 unfold aV6 oddB
 rw [hany]
 cases h : s.all fun c => !([32, 9, 39] : Str).contains c <;> cases hn : decide (s = []) <;> simp
theorem bI6 {s : Str} (hs : s.length ≤ 1000000) : aP4 s = some (aV6 s) := by
 unfold aP4
 refine (ac1 (τ := Str × Bool × Int) s.length (fun (x : Str × Bool) i => (x.1, x.2, i)) (fun x => at4 s x.1 x.2.1 x.2.2)
  (fun i x => if x.2 || (s.drop i).any (fun c => ([32, 9, 39] : Str).contains c) then [39] ++ (x.1 ++ dbl (s.drop i)) ++ [39] else s) (fun i x => x.1.length ≤ 2 * i) (s0 := ([], decide (s = []))) (by simp) ?_ ?_).trans ?_
 ·rintro ⟨out, odd⟩ i hi hv
  simp only at hv
  left
  have key : ∀ c : UInt8, ((if (decide ((c.toNat : Int) = 32)) then some true else (if (decide ((c.toNat : Int) = 9)) then some true else some (decide (c = 39)))) : Option Bool) = some (([32, 9, 39] : Str).contains c) := aP1 (by decide +kernel)
  have hw : IntKind.wrap .i64 ((i : Int) + 1) = (i : Int) + 1 := aa8 (by omega)
  have c1 : ax3 out [s[i]] = some (out ++ [s[i]]) := ad3 (by simp; omega)
  have c2 : ax3 (out ++ [s[i]]) [39] = some (out ++ [s[i]] ++ [39]) := ad3 (by simp; omega)
  have h39 : decide ((s[i].toNat : Int) = 39) = decide (s[i] = 39) := isC s[i] 39
  have hor : ((if odd = true then some true else some (([32, 9, 39] : Str).contains s[i])) : Option Bool) = some (odd || ([32, 9, 39] : Str).contains s[i]) := by cases odd <;> rfl
  refine ⟨(if s[i] = 39 then out ++ [s[i]] ++ [39] else out ++ [s[i]], odd || ([32, 9, 39] : Str).contains s[i]), ?_, ?_, ?_⟩
  ·simp only [at4, dlt hi, if_true, ak8 hi, Option.bind_some, key, hor, hw, cn1 hi, c1, c2, h39]
   by_cases h : s[i] = 39
   ·simp only [h, decide_true, if_true]
   ·simp only [h, decide_false, Bool.false_eq_true, if_false]
  ·simp only [List.drop_eq_getElem_cons hi, List.any_cons, Bool.or_assoc]
   have : dbl (s[i] :: s.drop (i + 1)) = (if s[i] = 39 then [39, 39] else [s[i]]) ++ dbl (s.drop (i + 1)) := by unfold dbl; rw [List.flatMap_cons]
   rw [this]
   by_cases h : s[i] = 39
   ·simp only [h, if_true]; simp
   ·simp only [h, if_false]; simp
  ·simp only
   split <;> simp <;> omega
 ·rintro ⟨out, odd⟩ hv
  simp only at hv
  have c1 : ax3 [39] out = some ([39] ++ out) := ad3 (by simp; omega)
  have c2 : ax3 ([39] ++ out) [39] = some ([39] ++ out ++ [39]) := ad3 (by simp; omega)
  simp only [at4, dge, Bool.false_eq_true, if_false, aI0, c1, c2, Option.bind_some, List.drop_length]
  cases odd <;> simp [dbl]
 ·simp [aV6, oddB]
def bw1 (a : aa4) : Str := if a.Query then a.Name ++ [63] else a.Name ++ [61] ++ aV6 a.Value
theorem cc7 {a : aa4} (h : okA a) : (bw1 a).length ≤ 15003 := by
 have := bb1 a.Value
 have h1 := h.1
 have h2 := h.2
 unfold bw1
 split <;> simp <;> omega
def aA1 (l : List aa4) : Str := Go.Lib.join (l.map bw1) [32]
theorem b30 (xs : List Str) (x sep : Str) : Go.Lib.join (xs ++ [x]) sep = if xs = [] then x else Go.Lib.join xs sep ++ sep ++ x := by
 cases xs with
 | nil => simp [Go.Lib.join_one]
 | cons y r =>
  rw [List.cons_append, Go.Lib.join_cons, Go.Lib.join_cons, if_neg (by simp)]
  simp [Go.Lib.joinTail]
theorem cc8 {K : Nat} {sep : Str} : ∀ {l : List Str}, (∀ x ∈ l, x.length ≤ K) → (Go.Lib.join l sep).length ≤ l.length * (K + sep.length)
 | [], _ => by simp [Go.Lib.join_nil]
 | x :: r, h => by
  rw [Go.Lib.join_cons, List.length_append]
  have hx := h x (by simp)
  have : ∀ r : List Str, (∀ y ∈ r, y.length ≤ K) → (Go.Lib.joinTail sep r).length ≤ r.length * (K + sep.length) := by
   intro r
   induction r with
   | nil => intro _; simp [Go.Lib.joinTail]
   | cons y r ih =>
    intro h
    have h1 := ih fun z hz => h z (List.mem_cons_of_mem _ hz)
    have h2 := h y (by simp)
    unfold Go.Lib.joinTail at h1 ⊢
    rw [List.map_cons, List.flatten_cons, List.length_append, List.length_append, List.length_cons, Nat.add_mul, Nat.one_mul]
    omega
  have := this r fun z hz => h z (List.mem_cons_of_mem _ hz)
  rw [List.length_cons, Nat.add_mul, Nat.one_mul]
  omega
theorem bl6 {l : List aa4} (h : okL l) (i : Nat) : (Go.Lib.join ((l.take i).map bw1) [32]).length ≤ 75020000 := by
 have h1 := cc8 (K := 15003) (sep := [32]) (l := (l.take i).map bw1) (by
  intro x hx
  obtain ⟨a, ha, rfl⟩ := List.mem_map.1 hx
  exact cc7 (h.2 a (List.mem_of_mem_take ha)))
 have h2 := h.1
 simp only [List.length_map, List.length_take, List.length_cons, List.length_nil] at h1
 have : min i l.length * (15003 + (0 + 1)) ≤ 5000 * 15004 := Nat.mul_le_mul (by omega) (by omega)
 omega
theorem cc9 {l : List aa4} (h : okL l) : aY4 l = some (if bI3 l = 0 then (aA1 l, 0) else ([], bI3 l)) := by
 unfold aY4
 rw [cc5 h, Option.bind_some]
 by_cases hz : bI3 l = 0
 ·have hl := h.1
  have hmk : mkC 16 ([] : Str) 0 (List.length l : Int) = some [] := by
   unfold mkC
   rw [if_pos ⟨by omega, by omega, by omega, by omega⟩]; rfl
  simp only [hz, decide_true, Bool.not_true, Bool.false_eq_true, if_false, if_true, hmk, Option.bind_some]
  refine (ac1 (τ := Int × List Str) l.length (fun (x : List Str) i => (i, x)) (fun x => aw0 l x.1 x.2) (fun i _ => (aA1 l, 0)) (fun i x => x = (l.take i).map bw1) (s0 := []) (by simp) ?_ ?_).trans rfl
  ·rintro x i hi rfl
   left
   have ha := h.get hi
   have h1 := ha.1
   have h2 := ha.2
   have hw : IntKind.wrap .i64 ((i : Int) + 1) = (i : Int) + 1 := aa8 (by omega)
   have hq := bb1 l[i].Value
   have c1 : ax3 l[i].Name [63] = some (l[i].Name ++ [63]) := ad3 (by simp; omega)
   have c2 : ax3 l[i].Name [61] = some (l[i].Name ++ [61]) := ad3 (by simp; omega)
   have c3 : ax3 (l[i].Name ++ [61]) (aV6 l[i].Value) = some (l[i].Name ++ [61] ++ aV6 l[i].Value) := ad3 (by simp; omega)
   have ap : ∀ y : Str, ar1 16 ((l.take i).map bw1) [y] = some ((l.take i).map bw1 ++ [y]) := fun y => ad0 (by simp; omega) (by simp; omega)
   refine ⟨(l.take (i + 1)).map bw1, ?_, rfl, rfl⟩
   simp only [aw0, dlt hi, if_true, aa5 hi, Option.bind_some, c1, c2, cc6 (s := l[i].Value) (by omega), c3, ap, hw]
   rw [List.take_succ_eq_append_getElem hi, List.map_append, List.map_cons, List.map_nil]
   unfold bw1
   cases l[i].Query <;> simp
  ·rintro x rfl
   have hj : strings_Join (l.map bw1) [32] = some (aA1 l) := by
    unfold strings_Join aA1
    have := bl6 h l.length
    rw [List.take_length] at this
    exact bH5 (by simp; omega) (by omega)
   simp only [aw0, dge, Bool.false_eq_true, if_false, aL0, List.take_length, hj, Option.bind_some, Option.map_some]
 ·simp [hz]
theorem bI7 {l : List aa4} (h : okL l) : aP5 l = some (if bI3 l = 0 then (aA1 l, 0) else ([], bI3 l)) := by
 unfold aP5
 rw [bI4 h, Option.bind_some]
 by_cases hz : bI3 l = 0
 ·have hl := h.1
  simp only [hz, decide_true, Bool.not_true, Bool.false_eq_true, if_false, if_true]
  refine (ac1 (τ := Str × Int) l.length (fun (x : Str) i => (x, i)) (fun x => at6 l x.1 x.2) (fun i _ => (aA1 l, 0)) (fun i x => x = Go.Lib.join ((l.take i).map bw1) [32]) (s0 := []) (by simp [Go.Lib.join_nil]) ?_ ?_).trans rfl
  ·rintro x i hi rfl
   left
   have ha := h.get hi
   have h1 := ha.1
   have h2 := ha.2
   have hw : IntKind.wrap .i64 ((i : Int) + 1) = (i : Int) + 1 := aa8 (by omega)
   have hq := bb1 l[i].Value
   have hlen := bl6 h i
   refine ⟨Go.Lib.join ((l.take (i + 1)).map bw1) [32], ?_, rfl, rfl⟩
   generalize hp : Go.Lib.join ((l.take i).map bw1) [32] = p at hlen
   have hk : ∀ q : Str, q.length ≤ 75020001 → at5 l i q = some (.cont (q ++ bw1 l[i], (i : Int) + 1)) := by
    intro q hq2
    have c1 : ax3 q l[i].Name = some (q ++ l[i].Name) := ad3 (by omega)
    have c2 : ax3 (q ++ l[i].Name) [63] = some (q ++ l[i].Name ++ [63]) := ad3 (by simp; omega)
    have c3 : ax3 (q ++ l[i].Name) [61] = some (q ++ l[i].Name ++ [61]) := ad3 (by simp; omega)
    have c4 : ax3 (q ++ l[i].Name ++ [61]) (aV6 l[i].Value) = some (q ++ l[i].Name ++ [61] ++ aV6 l[i].Value) := ad3 (by simp; omega)
    simp only [at5, aa5 hi, Option.bind_some, c1, c2, c3, bI6 (s := l[i].Value) (by omega), c4, hw]
    unfold bw1
    cases l[i].Query <;> simp
   have hsn : Go.Lib.join ((l.take (i + 1)).map bw1) [32] = if i = 0 then bw1 l[i] else p ++ [32] ++ bw1 l[i] := by
    rw [List.take_succ_eq_append_getElem hi, List.map_append, List.map_cons, List.map_nil, b30, hp]
    by_cases h0 : i = 0
    ·subst h0; simp
    ·rw [if_neg, if_neg h0]
     simp only [List.map_eq_nil_iff, List.take_eq_nil_iff, not_or]
     exact ⟨h0, by intro e; rw [e] at hi; simp at hi⟩
   have c5 : ax3 p [32] = some (p ++ [32]) := ad3 (by simp; omega)
   simp only [at6, dlt hi, if_true]
   rw [hsn]
   by_cases h0 : i = 0
   ·have hp0 : p = [] := by rw [← hp, h0]; simp [Go.Lib.join_nil]
    rw [hk p (by omega), hp0]
    simp [h0]
   ·have : (0 : Int) < (i : Int) := by omega
    simp only [this, decide_true, if_true, c5, Option.bind_some, h0, if_false]
    rw [hk _ (by simp; omega)]
  ·rintro x rfl
   simp only [at6, dge, Bool.false_eq_true, if_false, List.take_length]
   rfl
 ·simp [hz]
def cv6 (c : UInt8) : Bool := decide ((c.toNat : Int) = 32) || decide ((c.toNat : Int) = 9)
def endsB (s : Str) : Bool := match s with
 | [] => true
 | c :: _ => cv6 c
def bad (e : Int) : aa4 × Nat × Int := (⟨[], [], false⟩, 0, e)
def fin (s : Str) (a : aa4) (n : Nat) : aa4 × Nat × Int := if endsB (s.drop n) then (a, n, 0) else bad 2
def agree (x : aa4 × Int × Int) (at_ : Nat) (o : aa4 × Nat × Int) : Prop := x.2.2 = o.2.2 ∧ (o.2.2 = 0 → x.1 = o.1 ∧ x.2.1 = ((at_ + o.2.1 : Nat) : Int))
def be7 (name : Str) (a : aa4) : Bool := !a.Query && decide (a.Name = name)
def ar8 (name : Str) : List aa4 → Str × Bool
 | [] => ([], false)
 | a :: r => if be7 name a then (a.Value, true) else ar8 name r
theorem bB3 {α : Type} (p : α → Bool) (l : List α) : (aS7 p l = -1 ∧ ∀ a ∈ l, p a = false) ∨ ∃ i, ∃ h : i < l.length, aS7 p l = (i : Int) ∧ p l[i] = true ∧ ∀ a ∈ l.take i, p a = false := by
 induction l with
 | nil => left; exact ⟨rfl, by simp⟩
 | cons a r ih =>
  by_cases hp : p a = true
  ·right; exact ⟨0, by simp, bv8 hp, hp, by simp⟩
  ·have hp' := Bool.eq_false_iff.2 hp
   rcases ih with ⟨h1, h2⟩ | ⟨i, h, h1, h2, h3⟩
   ·left
    refine ⟨by rw [a83 hp, if_pos h1], ?_⟩
    intro x hx
    rcases List.mem_cons.1 hx with rfl | hx
    ·exact hp'
    ·exact h2 x hx
   ·right
    refine ⟨i + 1, by simpa using h, ?_, by simpa using h2, ?_⟩
    ·rw [a83 hp, h1, if_neg (by omega)]; omega
    ·intro x hx
     rw [List.take_succ_cons] at hx
     rcases List.mem_cons.1 hx with rfl | hx
     ·exact hp'
     ·exact h3 x hx
theorem bB4 {name : Str} {a : aa4} {r : List aa4} (h : be7 name a = true) : ar8 name (a :: r) = (a.Value, true) := by simp [ar8, h]
theorem br2 {name : Str} {a : aa4} {r : List aa4} (h : ¬ be7 name a = true) : ar8 name (a :: r) = ar8 name r := by simp [ar8, h]
theorem bV0 {name : Str} {l : List aa4} (h : ∀ a ∈ l, be7 name a = false) : ar8 name l = ([], false) := by
 induction l with
 | nil => rfl
 | cons a r ih => rw [ar8, h a (by simp), if_neg (by simp)]; exact ih fun x hx => h x (List.mem_cons_of_mem _ hx)
theorem bP5 {name : Str} : ∀ {l : List aa4} {i : Nat} (h : i < l.length), be7 name l[i] = true → (∀ a ∈ l.take i, be7 name a = false) → ar8 name l = (l[i].Value, true)
 | [], _, h, _, _ => by simp at h
 | a :: r, 0, _, h1, _ => by
  simp only [List.getElem_cons_zero] at h1 ⊢
  rw [ar8, if_pos h1]
 | a :: r, i + 1, h, h1, h2 => by
  rw [ar8, h2 a (by simp), if_neg (by simp)]
  exact bP5 (i := i) (by simpa using h) (by simpa using h1) fun x hx => h2 x (by rw [List.take_succ_cons]; exact List.mem_cons_of_mem _ hx)
theorem cd0 {l : List aa4} {name : Str} (hl : l.length ≤ 1000000) : aX9 l name = some (aS7 (be7 name) l) := by
 unfold aX9
 rw [bb0]
 unfold af9
 refine av5 hl ?_ ?_
 ·intro i hi
  simp only [ac3, dlt hi, if_true, aa5 hi, Option.bind_some, aU4]
  rfl
 ·simp [ac3]
theorem b31 {l : List aa4} {name : Str} (hl : l.length ≤ 1000000) : aU5 l name = some (ar8 name l) := by
 unfold aU5
 rw [cd0 hl, Option.bind_some]
 rcases bB3 (be7 name) l with ⟨h1, h2⟩ | ⟨i, h, h1, h2, h3⟩
 ·rw [h1, bV0 h2]; rfl
 ·have : ¬ ((i : Int) < 0) := by omega
  rw [h1, bP5 h h2 h3]
  simp only [this, decide_false, Bool.false_eq_true, if_false, aa5 h, Option.bind_some]
theorem br3 {l : List aa4} {name : Str} (hl : l.length ≤ 1000000) : aM9 l name = some (ar8 name l) := by
 unfold aM9
 refine (ac1 l.length (fun (_ : Unit) i => i) (fun s => av4 l name s) (fun i _ => ar8 name (l.drop i)) (fun _ _ => True) (s0 := ()) trivial ?_ ?_).trans rfl
 ·intro _ i hi _
  have hbody : av4 l name (i : Int) = if be7 name l[i] then some (.done (l[i].Value, true)) else some (.cont ((i : Int) + 1)) := by
   simp only [av4, dlt hi, if_true, aa5 hi, Option.bind_some]
   rw [aa8 (by omega), show be7 name l[i] = (!l[i].Query && decide (l[i].Name = name)) from rfl]
   by_cases h : l[i].Name = name <;> cases hq : l[i].Query <;> simp [h]
  rw [hbody, List.drop_eq_getElem_cons hi]
  by_cases hf : be7 name l[i] = true
  ·right; rw [if_pos hf, bB4 hf]
  ·left; rw [if_neg hf, br2 hf]; exact ⟨(), rfl, rfl, trivial⟩
 ·intro _ _
  simp [av4, ar8]
theorem cd1 {α : Type} {p : α → Bool} {l : List α} {body : Int × Int × List α → Option (Step (Int × Int × List α) (List α))} (hl : l.length ≤ 1000000)
  (hb : ∀ (i j : Nat) (s : List α) (hi : i < s.length) (hj : j < s.length), body ((i : Int), (j : Int), s) = if !p s[j] then some (.cont (IntKind.wrap .i64 ((i : Int) + 1), IntKind.wrap .i64 ((j : Int) + 1), s.set i s[j])) else some (.cont ((i : Int), IntKind.wrap .i64 ((j : Int) + 1), s)))
  (he : ∀ (i : Nat) (s : List α), i ≤ s.length → body ((i : Int), (s.length : Int), s) = some (.done (s.take i))) {i0 : Nat} (h0 : i0 < l.length) (hp0 : p l[i0] = true) (hbef : ∀ a ∈ l.take i0, p a = false) :
  ab0 body ((i0 : Int), IntKind.wrap .i64 ((i0 : Int) + 1), l) = some (l.filter fun a => !p a) := by
 have hw0 : IntKind.wrap .i64 ((i0 : Int) + 1) = ((i0 + 1 : Nat) : Int) := by rw [ag3 (by omega) (by omega)]; omega
 rw [hw0]
 have hf0 : (l.take (i0 + 1)).filter (fun a => !p a) = l.take i0 := by
  rw [List.take_succ_eq_append_getElem h0, List.filter_append, List.filter_eq_self.2 (fun a ha => by simp [hbef a ha])]
  simp [hp0]
 refine (bq6 (σ := Nat × Nat × List α) body (fun x => ((x.1 : Int), (x.2.1 : Int), x.2.2)) (fun _ => l.filter fun a => !p a) (fun x => l.length - x.2.1)
  (fun x => x.1 < x.2.1 ∧ x.2.1 ≤ l.length ∧ x.2.2.length = l.length ∧ x.2.2.take x.1 = (l.take x.2.1).filter (fun a => !p a) ∧ x.2.2.drop x.2.1 = l.drop x.2.1) ?_ (s0 := (i0, i0 + 1, l)) ⟨by simp, by simp only; omega, rfl, by simp only; exact hf0.symm, rfl⟩).trans rfl
 rintro ⟨i, j, s⟩ ⟨h1, h2, h3, h4, h5⟩
 simp only at h1 h2 h3 h4 h5
 rcases Nat.lt_or_ge j l.length with hj | hj
 ·left
  have hjs : j < s.length := by omega
  have hwi : IntKind.wrap .i64 ((i : Int) + 1) = ((i + 1 : Nat) : Int) := by rw [ag3 (by omega) (by omega)]; omega
  have hwj : IntKind.wrap .i64 ((j : Int) + 1) = ((j + 1 : Nat) : Int) := by rw [ag3 (by omega) (by omega)]; omega
  have hsj : s[j] = l[j] := by
   rw [List.drop_eq_getElem_cons hjs, List.drop_eq_getElem_cons hj] at h5
   exact (List.cons.inj h5).1
  have h5' : s.drop (j + 1) = l.drop (j + 1) := by
   rw [List.drop_eq_getElem_cons hjs, List.drop_eq_getElem_cons hj] at h5
   exact (List.cons.inj h5).2
  simp only
  rw [hb i j s (by omega) hjs]
  cases hp : p s[j] with
  | true =>
   refine ⟨(i, j + 1, s), ?_, by trivial, ⟨by simp only; omega, by simp only; omega, h3, ?_, h5'⟩, by simp only; omega⟩
   ·simp only [Bool.not_true, Bool.false_eq_true, if_false, hwj]
   ·simp only
    rw [h4, List.take_succ_eq_append_getElem hj, List.filter_append]
    simp [← hsj, hp]
  | false =>
   refine ⟨(i + 1, j + 1, s.set i s[j]), ?_, by trivial, ⟨by simp only; omega, by simp only; omega, by simp [h3], ?_, ?_⟩, by simp only; omega⟩
   ·simp only [Bool.not_false, if_true, hwi, hwj]
   ·simp only
    rw [List.take_succ_eq_append_getElem (by simp; omega), List.getElem_set_self, List.take_set_of_le (Nat.le_refl _), h4, List.take_succ_eq_append_getElem hj, List.filter_append]
    simp [← hsj, hp]
   ·simp only
    rw [List.drop_set_of_lt (by omega)]; exact h5'
 ·right
  have : j = s.length := by omega
  subst this
  simp only
  rw [he i s (by omega), h4, List.take_of_length_le hj]
theorem cv7 (l : List UInt8) (c : UInt8) : decide (Go.Lib.indexByte l c < 0) = !l.contains c := by
 rw [← ci0, Bool.eq_iff_iff]
 simp
theorem bB5 (l : Str) (c : UInt8) : strings_IndexByte l (c.toNat : Int) = some (Go.Lib.indexByte l c) := by
 unfold strings_IndexByte stringslite_IndexByte aM0
 rw [bq7]; rfl
def dC (more : Str) (c : UInt8) : Bool := ((decide (97 ≤ (c.toNat : Int)) && decide ((c.toNat : Int) ≤ 122)) || (decide (48 ≤ (c.toNat : Int)) && decide ((c.toNat : Int) ≤ 57))) || more.contains c
def am6 (s more : Str) (most : Nat) : Bool := !decide (s = []) && (decide (s.length ≤ most) && s.all (dC more))
theorem bI8 {s more : Str} {most : Nat} (hm : most ≤ 1000000) : aM2 s (most : Int) more = some (am6 s more most) := by
 unfold aM2 am6
 by_cases h0 : s = []
 ·simp [h0]
 by_cases h1 : s.length ≤ most
 ·have h2 : ¬ ((most : Int) < (List.length s : Int)) := by omega
  simp only [h0, h2, decide_false, Bool.or_self, Bool.false_eq_true, if_false, h1, decide_true, Bool.not_false, Bool.true_and]
  refine (ac1 s.length (fun (_ : Unit) i => i) (fun v => ay5 s more v) (fun i _ => (s.drop i).all (dC more)) (fun _ _ => True) (s0 := ()) trivial ?_ ?_).trans rfl
  ·intro _ i hi _
   have key : ∀ (b : Bool) (c : UInt8), ((if (decide ((c.toNat : Int) < 97)) then (if (decide ((c.toNat : Int) < 48)) then some (!b) else (if (decide (57 < (c.toNat : Int))) then some (!b) else some false)) else (if (decide (122 < (c.toNat : Int))) then (if (decide ((c.toNat : Int) < 48)) then some (!b) else (if (decide (57 < (c.toNat : Int))) then some (!b) else some false)) else some false)) : Option Bool)
     = some (!(((decide (97 ≤ (c.toNat : Int)) && decide ((c.toNat : Int) ≤ 122)) || (decide (48 ≤ (c.toNat : Int)) && decide ((c.toNat : Int) ≤ 57))) || b)) := by
    intro b
    cases b
    ·exact aP1 (by decide +kernel)
    ·exact aP1 (by decide +kernel)
   simp only [ay5, dlt hi, if_true, ak8 hi, Option.bind_some, bB5, cv7, key, List.drop_eq_getElem_cons hi, List.all_cons]
   change (∃ s', (if (!dC more s[i]) = true then _ else _) = _ ∧ _ ∧ _) ∨ (if (!dC more s[i]) = true then _ else _) = _
   cases dC more s[i] with
   | false => right; simp
   | true =>
    left
    refine ⟨(), ?_, by simp, trivial⟩
    simp only [Bool.not_true, Bool.false_eq_true, if_false]
    rw [aa8 (by omega)]
  ·intro _ _
   simp [ay5]
 ·have h2 : ((most : Int) < (List.length s : Int)) := by omega
  simp [h0, h1, h2]
theorem bw2 {s more : Str} {i : Nat} (hi : i < s.length) (hl : s.length ≤ 1000000) (hm : more.length ≤ 1000000) (ok : Bool) :
  ab0 (fun x => aj6 s more (i : Int) x.1 x.2) (ok, 0) = some (if (ok || more.contains s[i]) = true then Step.cont ((i : Int) + 1) else Step.done false) := by
 refine (ac1 (τ := Bool × Int) more.length (fun (x : Bool) k => (x, k)) (fun x => aj6 s more (i : Int) x.1 x.2) (fun k x => if (x || (more.drop k).contains s[i]) = true then Step.cont ((i : Int) + 1) else Step.done false) (fun _ _ => True) (s0 := ok) trivial ?_ ?_).trans (by simp)
 ·intro x k hk _
  left
  refine ⟨x || decide (s[i] = more[k]), ?_, ?_, trivial⟩
  ·simp only [aj6, dlt hk, if_true, ak8 hi, ak8 hk, Option.bind_some, isC]
   rw [aa8 (by omega)]
   cases x <;> rfl
  ·simp only [List.drop_eq_getElem_cons hk, List.contains_cons]
   have : (s[i] == more[k]) = decide (s[i] = more[k]) := by rw [Bool.eq_iff_iff]; simp
   rw [this, Bool.or_assoc]
 ·intro x _
  simp only [aj6, dge, Bool.false_eq_true, if_false, aB0, List.drop_length]
  rw [aa8 (by omega)]
  cases x <;> simp
theorem bb2 {s more : Str} {most : Nat} (hs : s.length ≤ 1000000) (hm : more.length ≤ 1000000) : aq3 s more (most : Int) = some (am6 s more most) := by
 unfold aq3
 refine (ac1 s.length (fun (_ : Unit) i => i) (fun v => ao1 s more (most : Int) v) (fun i _ => (s.drop i).all (dC more) && (!decide (s = []) && decide (s.length ≤ most))) (fun _ _ => True) (s0 := ()) trivial ?_ ?_).trans ?_
 ·intro _ i hi _
  have key : ∀ c : UInt8, ((if (decide (97 ≤ (c.toNat : Int))) then (if (decide ((c.toNat : Int) ≤ 122)) then some true else (if (decide (48 ≤ (c.toNat : Int))) then some (decide ((c.toNat : Int) ≤ 57)) else some false)) else (if (decide (48 ≤ (c.toNat : Int))) then some (decide ((c.toNat : Int) ≤ 57)) else some false)) : Option Bool)
    = some ((decide (97 ≤ (c.toNat : Int)) && decide ((c.toNat : Int) ≤ 122)) || (decide (48 ≤ (c.toNat : Int)) && decide ((c.toNat : Int) ≤ 57))) := aP1 (by decide +kernel)
  simp only [ao1, dlt hi, if_true, ak8 hi, Option.bind_some, key, bw2 hi hs hm, List.drop_eq_getElem_cons hi, List.all_cons]
  change (∃ s', some (if dC more s[i] = true then _ else _) = _ ∧ _ ∧ _) ∨ some (if dC more s[i] = true then _ else _) = _
  cases dC more s[i] with
  | false => right; simp
  | true => left; exact ⟨(), by simp, by simp, trivial⟩
 ·intro _ _
  simp only [ao1, dge, Bool.false_eq_true, if_false, List.drop_length, List.all_nil, Bool.true_and]
  congr 2
  cases s with
  | nil => rfl
  | cons c r =>
   have : decide ((1 : Int) ≤ (List.length (c :: r) : Int)) = true := by simp only [List.length_cons, decide_eq_true_eq]; omega
   rw [this]
   have e : decide ((List.length (c :: r) : Int) ≤ (most : Int)) = decide (List.length (c :: r) ≤ most) := by rw [Bool.eq_iff_iff]; simp only [decide_eq_true_eq]; omega
   rw [e]; simp
 ·simp only [List.drop_zero, am6]
  congr 1
  cases s.all (dC more) <;> cases decide (s = []) <;> cases decide (s.length ≤ most) <;> rfl
def bI9 (s : Str) : Bool := am6 s [45, 95] 32 && (match s with | c :: _ => decide (97 ≤ (c.toNat : Int)) | [] => false)
def aN8 (s : Str) : Bool := am6 s [45, 95, 46] 64
def svcB (s : Str) : Bool := decide (s = []) || am6 s [45, 95] 32
def au2 (a : aa2) : Bool := bI9 a.Net && ((decide (a.Host = [42]) || aN8 a.Host) && svcB a.Service)
theorem bP6 (s : Str) : aM3 s = some (bI9 s) := by
 unfold aM3 bI9
 have h := bI8 (s := s) (more := [45, 95]) (most := 32) (by omega)
 rw [show ((32 : Nat) : Int) = 32 from rfl] at h
 rw [h, Option.bind_some]
 cases hl : am6 s [45, 95] 32 with
 | false => simp
 | true =>
  cases s with
  | nil => simp [am6] at hl
  | cons c r =>
   have hat : ah8 (c :: r) 0 = some c := rfl
   have hd : dC [45, 95] c = true := by
    unfold am6 at hl
    simp only [Bool.and_eq_true, List.all_cons] at hl
    exact hl.2.2.1
   have key : ∀ c : UInt8, (!dC [45, 95] c || !decide (97 ≤ (c.toNat : Int)) || decide ((c.toNat : Int) ≤ 122)) = true := aX6 (by decide +kernel)
   have k := key c
   rw [hd] at k
   simp only [if_true, hat, Option.bind_some, Bool.true_and]
   cases h97 : decide (97 ≤ (c.toNat : Int)) with
   | false => simp
   | true => rw [h97] at k; simp only [Bool.not_true, Bool.false_or] at k; simp [k]
theorem bl7 (s : Str) : aA8 s = some (aN8 s) := by
 unfold aA8 aN8
 have h := bI8 (s := s) (more := [45, 95, 46]) (most := 64) (by omega)
 rw [show ((64 : Nat) : Int) = 64 from rfl] at h
 rw [h]; rfl
theorem bB6 {s : Str} (hs : s.length ≤ 1000000) : aV1 s = some (bI9 s) := by
 unfold aV1 bI9
 have h := bb2 (s := s) (more := [45, 95]) (most := 32) hs (by simp)
 rw [show ((32 : Nat) : Int) = 32 from rfl] at h
 rw [h, Option.bind_some]
 cases hl : am6 s [45, 95] 32 with
 | false => simp
 | true =>
  cases s with
  | nil => simp [am6] at hl
  | cons c r =>
   have hat : ah8 (c :: r) 0 = some c := rfl
   simp [hat]
theorem br4 {s : Str} (hs : s.length ≤ 1000000) : aM8 s = some (aN8 s) := by
 unfold aM8 aN8
 have h := bb2 (s := s) (more := [45, 95, 46]) (most := 64) hs (by simp)
 rw [show ((64 : Nat) : Int) = 64 from rfl] at h
 rw [h]; rfl
theorem bg7 (a : aa2) : aG3 a = some (au2 a) := by
 unfold aG3 au2 svcB
 have h := bI8 (s := a.Service) (more := [45, 95]) (most := 32) (by omega)
 rw [show ((32 : Nat) : Int) = 32 from rfl] at h
 simp only [h, bP6, bl7, Option.bind_some]
 cases bI9 a.Net <;> cases h1 : decide (a.Host = [42]) <;> cases aN8 a.Host <;> cases h2 : decide (a.Service = []) <;> cases am6 a.Service [45, 95] 32 <;> simp
theorem a41 {a : aa2} (h1 : a.Net.length ≤ 1000000) (h2 : a.Host.length ≤ 1000000) (h3 : a.Service.length ≤ 1000000) : aB1 a = some (au2 a) := by
 unfold aB1 au2 svcB
 have h := bb2 (s := a.Service) (more := [45, 95]) (most := 32) h3 (by simp)
 rw [show ((32 : Nat) : Int) = 32 from rfl] at h
 simp only [h, bB6 h1, br4 h2, Option.bind_some]
 cases bI9 a.Net <;> cases h1 : decide (a.Host = [42]) <;> cases aN8 a.Host <;> cases h2 : decide (a.Service = []) <;> cases am6 a.Service [45, 95] 32 <;> simp
def au3 (sep : UInt8) : Str → Str → List Str
 | acc, [] => [acc]
 | acc, c :: r => if c = sep then acc :: au3 sep [] r else au3 sep (acc ++ [c]) r
theorem bJ0 {sep : UInt8} {a : Str} (h : sep ∉ a) (acc : Str) : au3 sep acc a = [acc ++ a] := by
 induction a generalizing acc with
 | nil => simp [au3]
 | cons c r ih =>
  simp only [List.mem_cons, not_or] at h
  rw [au3, if_neg (fun e => h.1 e.symm), ih h.2]
  simp
theorem bV1 {sep : UInt8} {a b : Str} (h : sep ∉ a) (acc : Str) : au3 sep acc (a ++ sep :: b) = (acc ++ a) :: au3 sep [] b := by
 induction a generalizing acc with
 | nil => simp [au3]
 | cons c r ih =>
  simp only [List.mem_cons, not_or] at h
  rw [List.cons_append, au3, if_neg (fun e => h.1 e.symm), ih h.2]
  simp
theorem bb3 {sep : UInt8} : ∀ (p acc : Str), ∀ x ∈ au3 sep acc p, x.length ≤ acc.length + p.length
 | [], acc, x, h => by simp [au3] at h; subst h; simp
 | c :: r, acc, x, h => by
  unfold au3 at h
  split at h
  ·rcases List.mem_cons.1 h with rfl | h
   ·omega
   ·have := bb3 r [] x h
    simp at this ⊢; omega
  ·have := bb3 r (acc ++ [c]) x h
   simp at this ⊢; omega
theorem bJ1 (l : Str) (c : UInt8) : (c ∉ l ∧ Go.Lib.indexByte l c = -1) ∨ ∃ a b, l = a ++ c :: b ∧ c ∉ a ∧ Go.Lib.indexByte l c = (a.length : Int) := by
 induction l with
 | nil => exact .inl ⟨by simp, rfl⟩
 | cons x r ih =>
  by_cases hx : x = c
  ·subst hx
   exact .inr ⟨[], r, rfl, by simp, by simp [Go.Lib.indexByte]⟩
  ·have hx' : (x == c) = false := by simpa using hx
   rcases ih with ⟨h1, h2⟩ | ⟨a, b, h1, h2, h3⟩
   ·refine .inl ⟨by simp [h1, Ne.symm hx], ?_⟩
    simp [Go.Lib.indexByte, hx', h2]
   ·refine .inr ⟨x :: a, b, by rw [h1]; rfl, by simp [h2, Ne.symm hx], ?_⟩
    have : ¬ ((a.length : Int) = -1) := by omega
    simp [Go.Lib.indexByte, hx', h3, this]
theorem bJ2 {p : Str} {sep : UInt8} (h : p.length ≤ 1000000000) : aw9 p [sep] 0 (-1) = some (au3 sep [] p) := by
 unfold aw9
 simp only [show decide ((-1 : Int) = 0) = false from rfl, show decide (([sep] : Str) = []) = false by simp, show decide ((-1 : Int) < 0) = true from rfl, if_true, Bool.false_eq_true, if_false]
 have hcnt : strings_Count p [sep] = some ((p.count sep : Nat) : Int) := rfl
 have hle : p.count sep ≤ p.length := List.count_le_length
 rw [hcnt, Option.bind_some, ag3 (by omega) (by omega)]
 unfold ap7
 have hmin : min ((p.count sep : Int) + 1) (IntKind.wrap .i64 ((List.length p : Int) + 1)) = ((p.count sep + 1 : Nat) : Int) := by
  rw [ag3 (by omega) (by omega)]; omega
 have hmk : mkC 16 ([] : Str) (((p.count sep + 1 : Nat) : Int)) (((p.count sep + 1 : Nat) : Int)) = some (List.replicate (p.count sep + 1) []) := by
  unfold mkC
  rw [if_pos ⟨by omega, by omega, by omega, by omega⟩, Int.toNat_natCast]
 have hlim : IntKind.wrap .i64 (((p.count sep + 1 : Nat) : Int) - 1) = ((p.count sep : Nat) : Int) := by rw [ag3 (by omega) (by omega)]; omega
 rw [hmin, hmk, Option.bind_some]
 refine (ac1 (τ := Str × Int × List Str) (p.count sep) (fun (s : Str × List Str) i => (s.1, i, s.2)) (fun s => aj1 p [sep] 0 ((p.count sep : Int) + 1) s.1 s.2.1 s.2.2)
  (fun i s => s.2.take i ++ au3 sep [] s.1) (fun i s => i + s.1.count sep = p.count sep ∧ s.2.length = p.count sep + 1 ∧ s.1.length ≤ p.length) (s0 := (p, List.replicate (p.count sep + 1) [])) ⟨by simp, by simp, Nat.le_refl _⟩ ?_ ?_).trans ?_
 ·rintro ⟨s, a⟩ i hi ⟨h1, h2, h3⟩
  simp only at h1 h2 h3
  left
  rcases bJ1 s sep with ⟨hn, _⟩ | ⟨x, y, rfl, hx, hix⟩
  ·have : s.count sep = 0 := List.count_eq_zero.2 hn
   omega
  ·have hidx : strings_Index (x ++ sep :: y) [sep] = some (x.length : Int) := by
    show some _ = _
    rw [hix]
   simp only [List.length_append, List.length_cons] at h3
   have hia : i < a.length := by omega
   have e1 : cut (x ++ sep :: y) 0 (IntKind.wrap .i64 ((x.length : Int) + 0)) = some x := by
    rw [ag3 (by omega) (by omega), Int.add_zero, a68 (by simp)]
    simp
   have e2 : cut (x ++ sep :: y) (IntKind.wrap .i64 ((x.length : Int) + (List.length ([sep] : Str) : Int))) (List.length (x ++ sep :: y) : Int) = some y := by
    have hw : IntKind.wrap .i64 ((x.length : Int) + (List.length ([sep] : Str) : Int)) = ((x.length + 1 : Nat) : Int) := by
     rw [ag3 (by simp; omega) (by simp; omega)]; simp
    rw [hw, a69 (by simp)]
    rw [show (x ++ sep :: y) = (x ++ [sep]) ++ y by simp, List.drop_left' (by simp)]
   have hneg : ¬ ((x.length : Int) < 0) := by omega
   have hcond : (i : Int) < ((p.count sep : Nat) : Int) := by omega
   refine ⟨(y, a.set i x), ?_, ?_, ?_, by simp [h2], by simp; omega⟩
   ·simp only [aj1, hmin, hlim, hcond, decide_true, if_true, hidx, Option.bind_some, hneg, decide_false, Bool.false_eq_true, if_false, e1, e2, aa5 hia, Int.toNat_natCast]
    rw [b15 hi (by unfold maxLen; omega)]
   ·simp only
    rw [bV1 hx, List.take_succ_eq_append_getElem (by simp; omega), List.getElem_set_self, List.take_set_of_le (Nat.le_refl _)]
    simp
   ·simp only [List.count_append, List.count_cons, List.count_eq_zero.2 hx] at h1
    simp at h1 ⊢
    omega
 ·rintro ⟨s, a⟩ ⟨h1, h2, h3⟩
  simp only at h1 h2 h3
  have hc : s.count sep = 0 := by omega
  have hia : p.count sep < a.length := by omega
  have hcond : ¬ (((p.count sep : Nat) : Int) < ((p.count sep : Nat) : Int)) := by omega
  have e1 : cut (List.set a (p.count sep) s) 0 (IntKind.wrap .i64 (((p.count sep : Nat) : Int) + 1)) = some (List.take (p.count sep) a ++ [s]) := by
   rw [ag3 (by omega) (by omega)]
   have := a68 (l := List.set a (p.count sep) s) (b := p.count sep + 1) (by simp; omega)
   rw [show ((p.count sep + 1 : Nat) : Int) = ((p.count sep : Nat) : Int) + 1 by omega] at this
   rw [this, List.take_succ_eq_append_getElem (by simp; omega), List.getElem_set_self, List.take_set_of_le (Nat.le_refl _)]
  simp only [aj1, ap6, hmin, hlim, hcond, decide_false, Bool.false_eq_true, if_false, aa5 hia, Option.bind_some, Int.toNat_natCast, e1, Option.map_some]
  rw [bJ0 (List.count_eq_zero.1 hc)]
  rfl
 ·simp
theorem cd2 {p : Str} {sep : UInt8} (h : p.length ≤ 1000000000) : aF3 p [sep] = some (au3 sep [] p) := by
 unfold aF3
 rw [bJ2 h]; rfl
theorem is33 (c : UInt8) : decide ((c.toNat : Int) = 33) = decide (c = 33) := isC c 33
theorem bJ3 {p : Str} (h : p.length ≤ 50000) : aQ0 p = some (au3 33 [] p) := by
 unfold aQ0
 refine (ac1 (τ := Int × Int × List Str) (p.length + 1) (fun (s : Nat × List Str) i => ((s.1 : Int), i, s.2)) (fun s => ak2 p s.1 s.2.1 s.2.2)
  (fun i s => if i = p.length + 1 then s.2 else s.2 ++ au3 33 ((p.take i).drop s.1) (p.drop i)) (fun i s => s.1 ≤ i ∧ s.2.length ≤ i) (s0 := (0, [])) ⟨by simp, by simp⟩ ?_ ?_).trans ?_
 ·rintro ⟨from', out⟩ i hi ⟨h1, h2⟩
  simp only at h1 h2
  left
  have hle : (i : Int) ≤ (List.length p : Int) := by omega
  have hcut : cut p (from' : Int) (i : Int) = some ((p.take i).drop from') := a24 h1 (by omega)
  have happ : ar1 16 out [(p.take i).drop from'] = some (out ++ [(p.take i).drop from']) := ad0 (by simp; omega) (by simp; omega)
  have hw : IntKind.wrap .i64 ((i : Int) + 1) = (i : Int) + 1 := ag3 (by omega) (by omega)
  by_cases hi2 : i = p.length
  ·have hi3 : (i : Int) = (List.length p : Int) := by omega
   refine ⟨(i + 1, out ++ [(p.take i).drop from']), ?_, ?_, by simp, by simp; omega⟩
   ·simp only [ak2, hle, hi3, decide_true, if_true, Option.bind_some]
    rw [← hi3, hcut, Option.bind_some, happ, Option.bind_some, hw]
    simp
   ·simp only
    rw [if_neg (by omega), if_pos (by omega), hi2]
    simp [au3]
  ·have hi3 : ¬ (i : Int) = (List.length p : Int) := by omega
   have hlt : i < p.length := by omega
   by_cases hs : p[i] = 33
   ·refine ⟨(i + 1, out ++ [(p.take i).drop from']), ?_, ?_, by simp, by simp; omega⟩
    ·simp only [ak2, hle, hi3, decide_true, decide_false, if_true, Bool.false_eq_true, if_false, ak8 hlt, Option.bind_some, is33, hs, hcut, happ, hw]
     rfl
    ·simp only
     rw [if_neg (by omega), if_neg (by omega), List.drop_eq_getElem_cons hlt, au3, if_pos hs]
     have : (p.take (i + 1)).drop (i + 1) = [] := List.drop_of_length_le (by simp; omega)
     rw [this, List.append_assoc]; rfl
   ·refine ⟨(from', out), ?_, ?_, by simp; omega, by simp; omega⟩
    ·simp only [ak2, hle, hi3, decide_true, decide_false, if_true, Bool.false_eq_true, if_false, ak8 hlt, Option.bind_some, is33, hs, hw]
    ·simp only
     rw [if_neg (by omega), if_neg (by omega), List.drop_eq_getElem_cons hlt, au3, if_neg hs]
     congr 2
     rw [List.take_succ_eq_append_getElem hlt, List.drop_append_of_le_length (by simp; omega)]
 ·rintro ⟨from', out⟩ ⟨h1, h2⟩
  have : ¬ (((p.length + 1 : Nat) : Int) ≤ (List.length p : Int)) := by omega
  simp [ak2]
  omega
 ·simp
def be8 : aa2 × Int := (⟨[], [], []⟩, 36)
def af3 (s : Str) : aa2 × Int := match au3 33 [] s with
 | [n, h] => if au2 ⟨n, h, []⟩ then (⟨n, h, []⟩, 0) else be8
 | [n, h, v] => if au2 ⟨n, h, v⟩ && !decide (v = []) then (⟨n, h, v⟩, 0) else be8
 | _ => be8
theorem cd3 {n v : Str} : au2 ⟨n, [], v⟩ = false := by
 unfold au2
 have : (decide (([] : Str) = [42]) || aN8 []) = false := by decide
 simp only [this, Bool.false_and, Bool.and_false]
theorem b32 {s : Str} (h : s.length ≤ 50000) : aG4 s = some (af3 s) := by
 unfold aG4 af3
 rw [cd2 (by omega), Option.bind_some]
 generalize au3 33 [] s = l
 match l with
 | [] => rfl
 | [a] => rfl
 | [n, h] =>
  have e1 : aa9 [n, h] 0 = some n := rfl
  have e2 : aa9 [n, h] 1 = some h := rfl
  simp only [List.length_cons, List.length_nil, e1, e2, Option.bind_some, ay6, bg7]
  cases au2 ⟨n, h, []⟩ <;> simp [be8]
 | [n, h, v] =>
  have e1 : aa9 [n, h, v] 0 = some n := rfl
  have e2 : aa9 [n, h, v] 1 = some h := rfl
  have e3 : aa9 [n, h, v] 2 = some v := rfl
  simp only [List.length_cons, List.length_nil, e1, e2, e3, Option.bind_some, ay6, bg7]
  cases au2 ⟨n, h, v⟩ <;> cases hv : decide (v = []) <;> simp_all [be8]
 | a :: b :: c :: d :: r =>
  have : (3 : Int) < (List.length (a :: b :: c :: d :: r) : Int) := by simp only [List.length_cons]; omega
  simp only [this, decide_true, Bool.or_true, if_true]
  rfl
theorem br5 {s : Str} (h : s.length ≤ 50000) : aI3 s = some (af3 s) := by
 unfold aI3 af3
 rw [bJ3 h, Option.bind_some]
 have hm := bb3 (sep := 33) s []
 generalize au3 33 [] s = l at hm
 match l, hm with
 | [], _ => rfl
 | [a], _ => rfl
 | [n, h], hm =>
  have e1 : aa9 [n, h] 0 = some n := rfl
  have e2 : aa9 [n, h] 1 = some h := rfl
  have e4 : aa9 [n, h] (IntKind.wrap .i64 (2 - 1)) = some h := rfl
  have l1 := hm n (by simp)
  have l2 := hm h (by simp)
  have hr := a41 (a := ⟨n, h, []⟩) (by simp only; simp at l1; omega) (by simp only; simp at l2; omega) (by simp)
  have hl : (List.length [n, h] : Int) = 2 := rfl
  simp only [hl, e1, e2, e4, Option.bind_some, aw5, hr]
  by_cases hh : h = []
  ·subst hh
   simp [cd3, be8]
  ·cases au2 ⟨n, h, []⟩ <;> simp [be8, hh]
 | [n, h, v], hm =>
  have e1 : aa9 [n, h, v] 0 = some n := rfl
  have e2 : aa9 [n, h, v] 1 = some h := rfl
  have e3 : aa9 [n, h, v] 2 = some v := rfl
  have e4 : aa9 [n, h, v] (IntKind.wrap .i64 (3 - 1)) = some v := rfl
  have l1 := hm n (by simp)
  have l2 := hm h (by simp)
  have l3 := hm v (by simp)
  have hr := a41 (a := ⟨n, h, v⟩) (by simp only; simp at l1; omega) (by simp only; simp at l2; omega) (by simp only; simp at l3; omega)
  have hl : (List.length [n, h, v] : Int) = 3 := rfl
  simp only [hl, e1, e2, e3, e4, Option.bind_some, aw5, hr]
  by_cases hv : v = []
  ·subst hv; cases au2 ⟨n, h, []⟩ <;> simp [be8]
  ·cases au2 ⟨n, h, v⟩ <;> simp [be8, hv]
 | a :: b :: c :: d :: r, _ =>
  have h1 : (3 : Int) < (List.length (a :: b :: c :: d :: r) : Int) := by simp only [List.length_cons]; omega
  have h2 : ¬ ((List.length (a :: b :: c :: d :: r) : Int) < 2) := by simp only [List.length_cons]; omega
  simp only [h1, h2, decide_true, decide_false, Bool.false_eq_true, if_false, if_true, Option.bind_some]
  rfl
def br6 (a : aa2) : Str × Int := if au2 a then (a.Net ++ [33] ++ a.Host ++ (if a.Service = [] then [] else [33] ++ a.Service), 0) else ([], 36)
theorem b33 {a : aa2} (h1 : a.Net.length ≤ 1000000) (h2 : a.Host.length ≤ 1000000) (h3 : a.Service.length ≤ 1000000) : aM4 a = some (br6 a) := by
 unfold aM4 br6
 have c1 : ax3 a.Net [33] = some (a.Net ++ [33]) := ad3 (by simp; omega)
 have c2 : ax3 (a.Net ++ [33]) a.Host = some (a.Net ++ [33] ++ a.Host) := ad3 (by simp; omega)
 have c3 : ax3 [33] a.Service = some ([33] ++ a.Service) := ad3 (by simp; omega)
 have c4 : ax3 (a.Net ++ [33] ++ a.Host) ([33] ++ a.Service) = some (a.Net ++ [33] ++ a.Host ++ ([33] ++ a.Service)) := ad3 (by simp; omega)
 simp only [bg7, c1, c2, c3, c4, Option.bind_some]
 cases au2 a <;> by_cases hs : a.Service = [] <;> simp [hs]
theorem cn2 {l : List aa4} (h : l.length ≤ 1000000) : a74 l = some (l.any (·.Query)) := by
 unfold a74 af2
 have hix : ad5 l = some (aS7 (fun a => a.Query) l) := by
  unfold ad5
  refine av5 h ?_ ?_
  ·intro i hi
   simp only [ac4, dlt hi, if_true, aa5 hi, Option.bind_some, a26]
  ·simp [ac4]
 rw [hix, Option.bind_some, Option.bind_some, aR0]
theorem bV2 {l : List aa4} (h : l.length ≤ 1000000) : aY5 l = some (l.any (·.Query)) := by
 unfold aY5
 refine (ac1 l.length (fun (_ : Unit) i => i) (fun s => az4 l s) (fun i _ => (l.drop i).any (·.Query)) (fun _ _ => True) (s0 := ()) trivial ?_ ?_).trans rfl
 ·intro _ i hi _
  simp only [az4, dlt hi, if_true, aa5 hi, Option.bind_some, List.drop_eq_getElem_cons hi, List.any_cons]
  cases l[i].Query with
  | true => right; simp
  | false =>
   left
   refine ⟨(), ?_, by simp, trivial⟩
   simp only [Bool.false_eq_true, if_false]
   rw [aa8 (by omega)]
 ·intro _ _
  simp [az4]
def okE (out : List aa3) : Prop := out.length ≤ 256 ∧ ∀ x ∈ out, x.Attrs.length ≤ 32 ∧ ∀ a ∈ x.Attrs, okA a
theorem bl8 {l : List Str} {v : Str} (h : l.length ≤ 1000000) : af0 l v = some (l.contains v) := by
 unfold af0
 have hix : ah5 l v = some (aS7 (fun x => decide (v = x)) l) := by
  unfold ah5
  refine av5 h ?_ ?_
  ·intro i hi
   simp only [ag2, dlt hi, if_true, aa5 hi, Option.bind_some]
  ·simp [ag2]
 rw [hix, Option.bind_some, aR0]
 congr 1
 rw [Bool.eq_iff_iff]
 simp
theorem b34 {l : List Str} {v : Str} (h : l.length ≤ 1000000) : aN0 l v = some (l.contains v) := by
 unfold aN0
 refine (ac1 l.length (fun (_ : Unit) i => i) (fun s => aD3 l v s) (fun i _ => (l.drop i).contains v) (fun _ _ => True) (s0 := ()) trivial ?_ ?_).trans rfl
 ·intro _ i hi _
  simp only [aD3, dlt hi, if_true, aa5 hi, Option.bind_some, List.drop_eq_getElem_cons hi, List.contains_cons]
  by_cases hv : l[i] = v
  ·right
   have : (v == l[i]) = true := by simp [hv]
   simp [hv]
  ·left
   have : (v == l[i]) = false := by simp [Ne.symm hv]
   refine ⟨(), ?_, by rw [this, Bool.false_or], trivial⟩
   simp only [hv, decide_false, Bool.false_eq_true, if_false]
   rw [aa8 (by omega)]
 ·intro _ _
  simp [aD3]
def aE5 (name : Str) : List Str → List aa3 → List Str
 | out, [] => out
 | out, x :: r => if (ar8 name x.Attrs).2 && !out.contains (ar8 name x.Attrs).1 then aE5 name (out ++ [(ar8 name x.Attrs).1]) r else aE5 name out r
def az9 (l : List aa3) (name : Str) : List Str := aE5 name [] l
def okD (l : List aa3) : Prop := l.length ≤ 1000 ∧ ∀ x ∈ l, x.Attrs.length ≤ 1000000
theorem bl9 {l : List aa3} {name : Str} (h : okD l) : as8 l name = some (az9 l name) := by
 unfold as8 az9
 have h1 := h.1
 refine (ac1 (τ := Int × List Str) l.length (fun (x : List Str) i => (i, x)) (fun x => av8 l name x.1 x.2) (fun i x => aE5 name x (l.drop i)) (fun i x => x.length ≤ i) (s0 := []) (by simp) ?_ ?_).trans rfl
 ·intro out i hi hl
  left
  have hap : ∀ v, ar1 16 out [v] = some (out ++ [v]) := fun v => ad0 (by simp; omega) (by simp; omega)
  have hw : IntKind.wrap .i64 ((i : Int) + 1) = (i : Int) + 1 := aa8 (by omega)
  refine ⟨if (ar8 name l[i].Attrs).2 && !out.contains (ar8 name l[i].Attrs).1 then out ++ [(ar8 name l[i].Attrs).1] else out, ?_, ?_, ?_⟩
  ·simp only [av8, dlt hi, if_true, aa5 hi, Option.bind_some, b31 (h.2 _ (List.getElem_mem hi)), a25, bl8 (l := out) (by omega), hap, hw]
   cases (ar8 name l[i].Attrs).2 <;> cases out.contains (ar8 name l[i].Attrs).1 <;> rfl
  ·simp only [List.drop_eq_getElem_cons hi, aE5]
   split <;> rfl
  ·split <;> (try simp) <;> omega
 ·intro out _
  simp [av8, aE5]
theorem aV7 {l : List aa3} {name : Str} (h : okD l) : ap1 l name = some (az9 l name) := by
 unfold ap1 az9
 have h1 := h.1
 refine (ac1 (τ := Int × List Str) l.length (fun (x : List Str) i => (i, x)) (fun x => aq7 l name x.1 x.2) (fun i x => aE5 name x (l.drop i)) (fun i x => x.length ≤ i) (s0 := []) (by simp) ?_ ?_).trans rfl
 ·intro out i hi hl
  left
  have hap : ∀ v, ar1 16 out [v] = some (out ++ [v]) := fun v => ad0 (by simp; omega) (by simp; omega)
  have hw : IntKind.wrap .i64 ((i : Int) + 1) = (i : Int) + 1 := aa8 (by omega)
  refine ⟨if (ar8 name l[i].Attrs).2 && !out.contains (ar8 name l[i].Attrs).1 then out ++ [(ar8 name l[i].Attrs).1] else out, ?_, ?_, ?_⟩
  ·simp only [aq7, dlt hi, if_true, aa5 hi, Option.bind_some, br3 (h.2 _ (List.getElem_mem hi)), b34 (l := out) (by omega), hap, hw]
   cases (ar8 name l[i].Attrs).2 <;> cases out.contains (ar8 name l[i].Attrs).1 <;> rfl
  ·simp only [List.drop_eq_getElem_cons hi, aE5]
   split <;> rfl
  ·split <;> (try simp) <;> omega
 ·intro out _
  simp [aq7, aE5]
def bw3 (name value : Str) (x : aa3) : Bool := (ar8 name x.Attrs).2 && decide ((ar8 name x.Attrs).1 = value)
def au4 (l : List aa3) (name value want : Str) : List Str := az9 (l.filter (bw3 name value)) want
theorem okD.filter {l : List aa3} (h : okD l) (p : aa3 → Bool) : okD (l.filter p) := ⟨Nat.le_trans (List.length_filter_le _ _) h.1, fun x hx => h.2 x (List.mem_filter.1 hx).1⟩
theorem bw4 {l : List aa3} {name value want : Str} (h : okD l) : au9 l name value want = some (au4 l name value want) := by
 unfold au9
 have h1 := h.1
 refine (ac1 (τ := Int × List aa3) l.length (fun (x : List aa3) i => (i, x)) (fun x => av9 l name value want x.1 x.2) (fun i x => au4 l name value want) (fun i x => x = (l.take i).filter (bw3 name value)) (s0 := []) (by simp) ?_ ?_).trans rfl
 ·rintro out i hi rfl
  left
  have hlen : ((l.take i).filter (bw3 name value)).length ≤ i := by
   have := List.length_filter_le (bw3 name value) (l.take i)
   simp at this; omega
  have hap : ∀ v, ar1 24 ((l.take i).filter (bw3 name value)) [v] = some ((l.take i).filter (bw3 name value) ++ [v]) := fun v => ad0 (by simp; omega) (by simp; omega)
  have hw : IntKind.wrap .i64 ((i : Int) + 1) = (i : Int) + 1 := aa8 (by omega)
  refine ⟨(l.take (i + 1)).filter (bw3 name value), ?_, rfl, rfl⟩
  simp only [av9, dlt hi, if_true, aa5 hi, Option.bind_some, b31 (h.2 _ (List.getElem_mem hi)), hap, hw]
  rw [List.take_succ_eq_append_getElem hi, List.filter_append]
  change (if bw3 name value l[i] = true then _ else _) = _
  by_cases hh : bw3 name value l[i] = true
  ·rw [if_pos hh]; simp [hh]
  ·rw [if_neg hh]; simp [hh]
 ·rintro out rfl
  simp only [av9, dge, Bool.false_eq_true, if_false, aK9, List.take_length, bl9 (h.filter _), Option.bind_some, Option.map_some]
  rfl
theorem a42 {l : List aa3} {name value want : Str} (h : okD l) : aq4 l name value want = some (au4 l name value want) := by
 unfold aq4
 have h1 := h.1
 refine (ac1 (τ := Int × List aa3) l.length (fun (x : List aa3) i => (i, x)) (fun x => au0 l name value want x.1 x.2) (fun i x => au4 l name value want) (fun i x => x = (l.take i).filter (bw3 name value)) (s0 := []) (by simp) ?_ ?_).trans rfl
 ·rintro out i hi rfl
  left
  have hlen : ((l.take i).filter (bw3 name value)).length ≤ i := by
   have := List.length_filter_le (bw3 name value) (l.take i)
   simp at this; omega
  have hap : ∀ v, ar1 24 ((l.take i).filter (bw3 name value)) [v] = some ((l.take i).filter (bw3 name value) ++ [v]) := fun v => ad0 (by simp; omega) (by simp; omega)
  have hw : IntKind.wrap .i64 ((i : Int) + 1) = (i : Int) + 1 := aa8 (by omega)
  refine ⟨(l.take (i + 1)).filter (bw3 name value), ?_, rfl, rfl⟩
  simp only [au0, dlt hi, if_true, aa5 hi, Option.bind_some, br3 (h.2 _ (List.getElem_mem hi)), hap, hw]
  rw [List.take_succ_eq_append_getElem hi, List.filter_append]
  change (if bw3 name value l[i] = true then _ else _) = _
  by_cases hh : bw3 name value l[i] = true
  ·rw [if_pos hh]; simp [hh]
  ·rw [if_neg hh]; simp [hh]
 ·rintro out rfl
  simp only [au0, dge, Bool.false_eq_true, if_false, aI4, List.take_length, aV7 (h.filter _), Option.bind_some, Option.map_some]
  rfl
theorem bb4 (name : Str) : ∀ (l : List aa3) (out : List Str), (aE5 name out l).length ≤ out.length + l.length
 | [], out => by simp [aE5]
 | x :: r, out => by
  rw [aE5]
  split
  ·have := bb4 name r (out ++ [(ar8 name x.Attrs).1]); simp at this ⊢; omega
  ·have := bb4 name r out; simp; omega
theorem aV8 (name : Str) : ∀ (l : List aa3) (out : List Str), out.Nodup → (aE5 name out l).Nodup
 | [], out, h => h
 | x :: r, out, h => by
  rw [aE5]
  split
  ·rename_i hc
   refine aV8 name r _ ?_
   rw [List.nodup_append]
   refine ⟨h, by simp, ?_⟩
   intro a ha b hb e
   simp at hb
   rw [Bool.and_eq_true] at hc
   have h2 : out.contains (ar8 name x.Attrs).1 = false := by simpa using hc.2
   have h3 : (ar8 name x.Attrs).1 ∈ out := by rw [← hb, ← e]; exact ha
   rw [List.contains_iff_mem.2 h3] at h2
   cases h2
  ·exact aV8 name r out h
theorem bJ4 (l : List aa3) (name : Str) : (az9 l name).Nodup := aV8 name l [] List.nodup_nil
theorem aN9 (l : List aa3) (name : Str) : (az9 l name).length ≤ l.length := by
 have := bb4 name l []; simpa [az9] using this
theorem bB7 {name : Str} : ∀ {l : List aa4}, (ar8 name l).2 = true → ∃ a ∈ l, (ar8 name l).1 = a.Value
 | [], h => by simp [ar8] at h
 | a :: r, h => by
  by_cases hp : be7 name a = true
  ·rw [bB4 hp]; exact ⟨a, by simp, rfl⟩
  ·rw [br2 hp] at h ⊢
   obtain ⟨b, hb, he⟩ := bB7 h
   exact ⟨b, List.mem_cons_of_mem _ hb, he⟩
theorem aV9 {name : Str} {K : Nat} : ∀ (l : List aa3) (out : List Str), (∀ x ∈ l, ∀ a ∈ x.Attrs, a.Value.length ≤ K) → (∀ v ∈ out, v.length ≤ K) → ∀ v ∈ aE5 name out l, v.length ≤ K
 | [], out, _, h => h
 | x :: r, out, hl, h => by
  rw [aE5]
  split
  ·rename_i hc
   rw [Bool.and_eq_true] at hc
   refine aV9 r _ (fun y hy => hl y (List.mem_cons_of_mem _ hy)) ?_
   intro v hv
   rcases List.mem_append.1 hv with hv | hv
   ·exact h v hv
   ·simp at hv; subst hv
    obtain ⟨a, ha, he⟩ := bB7 hc.1
    rw [he]; exact hl x (by simp) a ha
  ·exact aV9 r _ (fun y hy => hl y (List.mem_cons_of_mem _ hy)) h
def okT (l : List aa3) : Prop := okD l ∧ ∀ x ∈ l, ∀ a ∈ x.Attrs, a.Value.length ≤ 5000
theorem aZ3 {l : List aa3} {name : Str} (h : okT l) : ∀ v ∈ az9 l name, v.length ≤ 5000 := aV9 l [] h.2 (by simp)
theorem okT.filter {l : List aa3} (h : okT l) (p : aa3 → Bool) : okT (l.filter p) := ⟨h.1.filter p, fun x hx => h.2 x (List.mem_filter.1 hx).1⟩
theorem au5 {l : List aa3} {name value want : Str} (h : okT l) : ∀ v ∈ au4 l name value want, v.length ≤ 5000 := aZ3 (h.filter _)
theorem aW0 {l : List aa3} {name value want : Str} (h : okD l) : (au4 l name value want).length ≤ 1000 := by
 have := aN9 (l.filter (bw3 name value)) want
 have := (h.filter (bw3 name value)).1
 unfold au4; omega
def aO0 : Str := [110, 101, 116]
def bm0 : Str := [115, 101, 108, 102]
def aR1 : Str := [104, 111, 115, 116]
def a13 : Str := [97, 108, 105, 97, 115]
def am7 : Str := [115, 101, 114, 118, 105, 99, 101]
def aO1 (l : List aa3) (name : Str) : List Str := (az9 l aO0).filter fun n => bI9 n && (!decide (n = aO0) && (decide (name = aO0) || decide (name = n)))
theorem a43 {p : Str → Bool} {xs : List Str} {body : Int × List Str → Option (Step (Int × List Str) (List Str))} (hx : xs.length ≤ 100000)
  (hb : ∀ (i : Nat) (out : List Str) (h : i < xs.length), out.length ≤ i → body ((i : Int), out) = if p xs[i] then some (.cont ((i : Int) + 1, out ++ [xs[i]])) else some (.cont ((i : Int) + 1, out)))
  (he : ∀ out, body ((xs.length : Int), out) = some (.done out)) : ab0 body (0, []) = some (xs.filter p) := by
 refine (ac1 (τ := Int × List Str) xs.length (fun (x : List Str) i => (i, x)) body (fun i x => x ++ (xs.drop i).filter p) (fun i x => x.length ≤ i) (s0 := []) (by simp) ?_ ?_).trans (by simp)
 ·intro out i hi hl
  left
  refine ⟨if p xs[i] then out ++ [xs[i]] else out, ?_, ?_, ?_⟩
  ·rw [hb i out hi hl]; split <;> rfl
  ·simp only [List.drop_eq_getElem_cons hi, List.filter_cons]
   split <;> simp
  ·split <;> (try simp) <;> omega
 ·intro out _
  simp [he]
theorem bJ5 {l : List aa3} {name : Str} (h : okD l) : aF4 l name = some (aO1 l name) := by
 unfold aF4 aO1
 have hv : as8 l [110, 101, 116] = some (az9 l aO0) := bl9 h
 have hl := aN9 l aO0
 have h1 := h.1
 rw [hv, Option.bind_some]
 refine a43 (by omega) ?_ ?_
 ·intro i out hi hl2
  have hap : ∀ v, ar1 16 out [v] = some (out ++ [v]) := fun v => ad0 (by simp; omega) (by simp; omega)
  have hw : IntKind.wrap .i64 ((i : Int) + 1) = (i : Int) + 1 := aa8 (by omega)
  simp only [au8, dlt hi, if_true, aa5 hi, Option.bind_some, bP6, hap, hw]
  rfl
 ·intro out
  simp [au8]
theorem bV3 {l : List aa3} (h : okT l) : aN1 l = some ((az9 l aO0).filter fun n => bI9 n && !decide (n = aO0)) := by
 unfold aN1
 have hv : ap1 l [110, 101, 116] = some (az9 l aO0) := aV7 h.1
 have hl := aN9 l aO0
 have h1 := h.1.1
 have hsm := aZ3 (name := aO0) h
 rw [hv, Option.bind_some]
 refine a43 (by omega) ?_ ?_
 ·intro i out hi hl2
  have hap : ∀ v, ar1 16 out [v] = some (out ++ [v]) := fun v => ad0 (by simp; omega) (by simp; omega)
  have hw : IntKind.wrap .i64 ((i : Int) + 1) = (i : Int) + 1 := aa8 (by omega)
  have := hsm _ (List.getElem_mem hi)
  simp only [aC3, dlt hi, if_true, aa5 hi, Option.bind_some, bB6 (s := (az9 l aO0)[i]) (by omega), hap, hw]
  change _ = if (bI9 (az9 l aO0)[i] && !decide ((az9 l aO0)[i] = [110, 101, 116])) = true then _ else _
  cases bI9 (az9 l aO0)[i] <;> by_cases hd : (az9 l aO0)[i] = [110, 101, 116] <;> simp [hd]
 ·intro out
  simp [aC3]
theorem bP7 (l : List aa3) : aO1 l aO0 = (az9 l aO0).filter fun n => bI9 n && !decide (n = aO0) := by
 unfold aO1
 congr 1
 funext n
 simp
theorem bb5 {p : Str → Bool} {a : Str} : ∀ {l : List Str}, l.Nodup → l.filter (fun n => p n && decide (a = n)) = if (l.filter p).contains a then [a] else []
 | [], _ => rfl
 | x :: r, h => by
  have hx := List.nodup_cons.1 h
  by_cases hp : p x = true
  ·by_cases hax : a = x
   ·subst hax
    have hr : r.filter (fun n => p n && decide (a = n)) = [] := by
     rw [List.filter_eq_nil_iff]
     intro n hn
     have : a ≠ n := fun e => hx.1 (e ▸ hn)
     simp [this]
    rw [List.filter_cons_of_pos (by simp [hp]), hr, List.filter_cons_of_pos hp]
    simp
   ·rw [List.filter_cons_of_neg (by simp [hax]), bb5 hx.2, List.filter_cons_of_pos hp]
    have : (a == x) = false := by simp [hax]
    rw [List.contains_cons, this, Bool.false_or]
  ·rw [List.filter_cons_of_neg (by simp [hp]), bb5 hx.2, List.filter_cons_of_neg hp]
theorem cd4 {l : List aa3} {name : Str} (h : name ≠ aO0) : aO1 l name = if (aO1 l aO0).contains name then [name] else [] := by
 rw [bP7, ← bb5 (bJ4 l aO0)]
 unfold aO1
 congr 1
 funext n
 have : decide (name = aO0) = false := by simpa using h
 rw [this, Bool.false_or, Bool.and_assoc]
theorem b35 {l : List aa3} {name n : Str} (h : n ∈ aO1 l name) : n ∈ az9 l aO0 ∧ bI9 n = true ∧ n ≠ aO0 ∧ (name = aO0 ∨ name = n) := by
 unfold aO1 at h
 obtain ⟨h1, h2⟩ := List.mem_filter.1 h
 simp only [Bool.and_eq_true, Bool.or_eq_true, decide_eq_true_eq, Bool.not_eq_true', decide_eq_false_iff_not] at h2
 exact ⟨h1, h2.1, h2.2.1, h2.2.2⟩
def aE6 (l : List aa3) (host name : Str) : List Str :=
 if name = [42] then [name] else if name = bm0 then (if aN8 host then [host] else []) else if (az9 l aR1).contains name then [name] else (au4 l a13 name aR1).filter aN8
theorem bJ6 {l : List Str} (hl : l.length ≤ 1000000) : ad9 l = some (l.filter aN8) := by
 unfold ad9
 have hp1 : ∀ a, aD0 a = some (!aN8 a) := by
  intro a; unfold aD0; rw [bl7]; rfl
 have hix : ae5 l = some (aS7 (fun a => !aN8 a) l) := by
  unfold ae5
  refine av5 hl ?_ ?_
  ·intro i hi
   simp only [ad8, dlt hi, if_true, aa5 hi, Option.bind_some, hp1]
  ·simp [ad8]
 rw [hix, Option.bind_some]
 rcases bB3 (fun a => !aN8 a) l with ⟨h1, h2⟩ | ⟨i, h, h1, h2, h3⟩
 ·rw [h1, List.filter_eq_self.2 (fun a ha => by simpa using h2 a ha)]; rfl
 ·have : ¬ ((i : Int) = -1) := by omega
  rw [h1]
  simp only [this, decide_false, Bool.false_eq_true, if_false]
  have := cd1 (p := fun a => !aN8 a) (body := fun s => ab2 s.1 s.2.1 s.2.2) hl (by
   intro i j s hi hj
   simp only [ab2, dlt hj, if_true, aa5 hj, aa5 hi, Option.bind_some, hp1, Int.toNat_natCast]) (by
   intro i s hi
   simp only [ab2, dge, Bool.false_eq_true, if_false, af1, a68 hi, Option.bind_some, Option.map_some]) h h2 h3
  rw [this]
  congr 2
  funext a
  simp
theorem cd5 {l : List aa3} {host name : Str} (h : okD l) : aY0 l host name = some (aE6 l host name) := by
 unfold aY0 aE6
 have hv : as8 l [104, 111, 115, 116] = some (az9 l aR1) := bl9 h
 have hq : au9 l [97, 108, 105, 97, 115] name [104, 111, 115, 116] = some (au4 l a13 name aR1) := bw4 h
 have hl := aN9 l aR1
 have hl2 := aW0 (name := a13) (value := name) (want := aR1) h
 have h1 := h.1
 simp only [bl7, hv, hq, Option.bind_some, bl8 (l := az9 l aR1) (v := name) (by omega), bJ6 (l := au4 l a13 name aR1) (by omega)]
 by_cases h42 : name = [42]
 ·simp [h42]
 ·by_cases hs : name = [115, 101, 108, 102]
  ·have : name = bm0 := hs
   simp only [h42, hs, decide_false, decide_true, Bool.false_eq_true, if_false, if_true, Option.bind_some, show ([115, 101, 108, 102] : Str) = bm0 from rfl]
   have : ¬ (bm0 = [42]) := by decide
   simp only [this, if_false, if_true]
   cases aN8 host <;> simp
  ·have hs2 : ¬ (name = bm0) := hs
   simp only [h42, hs, hs2, decide_false, Bool.false_eq_true, if_false, Option.bind_some]
   cases (az9 l aR1).contains name <;> simp
theorem bJ7 {l : List aa3} {host name : Str} (h : okT l) (hh : host.length ≤ 1000000) : aQ2 l host name = some (aE6 l host name) := by
 unfold aQ2 aE6
 have hv : aQ1 l name = some ((az9 l aR1).contains name) := by
  unfold aQ1
  have : ap1 l [104, 111, 115, 116] = some (az9 l aR1) := aV7 h.1
  have hl := aN9 l aR1
  have h1 := h.1.1
  rw [this, Option.bind_some, b34 (by omega)]; rfl
 have hq : aq4 l [97, 108, 105, 97, 115] name [104, 111, 115, 116] = some (au4 l a13 name aR1) := a42 h.1
 have hl2 := aW0 (name := a13) (value := name) (want := aR1) h.1
 have hsm := au5 (name := a13) (value := name) (want := aR1) h
 have hk : ∀ xs : List Str, xs.length ≤ 100000 → (∀ v ∈ xs, v.length ≤ 1000000) → aw6 xs = some (xs.filter aN8) := by
  intro xs hx hs
  unfold aw6
  refine a43 hx ?_ ?_
  ·intro i out hi hl2
   have hap : ∀ v, ar1 16 out [v] = some (out ++ [v]) := fun v => ad0 (by simp; omega) (by simp; omega)
   have hw : IntKind.wrap .i64 ((i : Int) + 1) = (i : Int) + 1 := aa8 (by omega)
   simp only [az6, dlt hi, if_true, aa5 hi, Option.bind_some, br4 (hs _ (List.getElem_mem hi)), hap, hw]
  ·intro out
   simp [az6]
 have k1 := hk (au4 l a13 name aR1) (by omega) (fun v hv => by have := hsm v hv; omega)
 have k2 := hk [host] (by simp) (by simpa using hh)
 simp only [hv, hq, Option.bind_some, k1, k2]
 by_cases h42 : name = [42]
 ·simp [h42]
 ·by_cases hs : name = [115, 101, 108, 102]
  ·simp only [h42, hs, decide_false, decide_true, Bool.not_true, Bool.false_eq_true, if_false, if_true, Option.bind_some, show ([115, 101, 108, 102] : Str) = bm0 from rfl]
   have : ¬ (bm0 = [42]) := by decide
   simp only [this, if_false, if_true, List.filter_cons, List.filter_nil, decide_false, Bool.false_eq_true]
   cases aN8 host <;> simp
  ·have hs2 : ¬ (name = bm0) := hs
   simp only [h42, hs, hs2, decide_false, Bool.not_false, Bool.false_eq_true, if_false, if_true, Option.bind_some]
   cases (az9 l aR1).contains name <;> simp
def b36 (c : UInt8) : Bool := decide (48 ≤ (c.toNat : Int)) && decide ((c.toNat : Int) ≤ 57)
def dig (c : UInt8) : Int := (c.toNat : Int) - 48
def bo0 : Int → Str → Int × Int
 | n, [] => (n, 0)
 | n, c :: r => if b36 c && decide (n ≤ (65535 - dig c) / 10) then bo0 (n * 10 + dig c) r else (0, 5)
def ci2 (s : Str) : Int × Int := if decide (s = []) || (decide (1 < s.length) && (match s with | c :: _ => decide (c = 48) | [] => false)) then (0, 5) else bo0 0 s
theorem bB8 {c : UInt8} (h : b36 c = true) : 0 ≤ dig c ∧ dig c ≤ 9 := by
 unfold b36 at h
 rw [Bool.and_eq_true, decide_eq_true_eq, decide_eq_true_eq] at h
 unfold dig; omega
theorem ci3 {d : Int} (h : 0 ≤ d ∧ d ≤ 9) : b86 .i64 (IntKind.wrap .i64 (65535 - d)) 10 = some ((65535 - d) / 10) := by
 unfold b86
 have hw : IntKind.wrap .i64 (65535 - d) = 65535 - d := ag3 (by omega) (by omega)
 have ht : (65535 - d).tdiv 10 = (65535 - d) / 10 := Int.tdiv_eq_ediv_of_nonneg (by omega)
 rw [if_neg (by decide), hw, ht, ag3 (by omega) (by omega)]
theorem bB9 {c : UInt8} (h : b36 c = true) : aH4 (c.toNat : Int) = some (dig c) := by
 have key : ∀ c : UInt8, (!b36 c || decide (aH4 (c.toNat : Int) = some (dig c))) = true := by
  intro c
  unfold aH4 b36 dig
  have h := aX6 (p := fun c : UInt8 => (!(decide (48 ≤ (c.toNat : Int)) && decide ((c.toNat : Int) ≤ 57)) || decide (IntKind.wrap .i64 (IntKind.wrap .u8 ((c.toNat : Int) - 48)) = (c.toNat : Int) - 48))) (by decide +kernel) c
  by_cases hd : (decide (48 ≤ (c.toNat : Int)) && decide ((c.toNat : Int) ≤ 57)) = true
  ·rw [hd] at h
   simp only [Bool.not_true, Bool.false_or, decide_eq_true_eq] at h
   simp [hd, h]
  ·simp [hd]
 have k := key c
 rw [h] at k
 simpa using k
theorem bJ8 {c : UInt8} (h : b36 c = false) : ∃ x, aH4 (c.toNat : Int) = some x ∧ 10 ≤ x := by
 unfold aH4
 have h2 : (decide (48 ≤ (c.toNat : Int)) && decide ((c.toNat : Int) ≤ 57)) = false := h
 rw [h2]
 simp only [Bool.false_eq_true, if_false]
 by_cases hd : (decide (97 ≤ (c.toNat : Int)) && decide ((c.toNat : Int) ≤ 102)) = true
 ·rw [hd]
  have h3 := aX6 (p := fun c : UInt8 => (!(decide (97 ≤ (c.toNat : Int)) && decide ((c.toNat : Int) ≤ 102)) || decide (10 ≤ IntKind.wrap .i64 ((IntKind.wrap .i64 (IntKind.wrap .u8 ((c.toNat : Int) - 97))) + 10)))) (by decide +kernel) c
  rw [hd] at h3
  simp only [Bool.not_true, Bool.false_or, decide_eq_true_eq] at h3
  exact ⟨_, rfl, h3⟩
 ·rw [Bool.eq_false_iff.2 hd]
  exact ⟨16, rfl, by omega⟩
theorem bC0 {c : UInt8} (h : b36 c = true) : aB2 (c.toNat : Int) = some (dig c) := by
 unfold aB2
 have h2 : (decide (48 ≤ (c.toNat : Int)) && decide ((c.toNat : Int) ≤ 57)) = true := h
 rw [h2]
 have h3 := aX6 (p := fun c : UInt8 => (!(decide (48 ≤ (c.toNat : Int)) && decide ((c.toNat : Int) ≤ 57)) || decide (IntKind.wrap .i64 (IntKind.wrap .i64 (c.toNat : Int) - 48) = (c.toNat : Int) - 48))) (by decide +kernel) c
 rw [h2] at h3
 simp only [Bool.not_true, Bool.false_or, decide_eq_true_eq] at h3
 simp only [if_true, h3, dig]
theorem bJ9 {c : UInt8} (h : b36 c = false) : ∃ x, aB2 (c.toNat : Int) = some x ∧ (x < 0 ∨ 10 ≤ x) := by
 unfold aB2
 have h2 : (decide (48 ≤ (c.toNat : Int)) && decide ((c.toNat : Int) ≤ 57)) = false := h
 rw [h2]
 simp only [Bool.false_eq_true, if_false]
 by_cases hd : (decide (97 ≤ (c.toNat : Int)) && decide ((c.toNat : Int) ≤ 102)) = true
 ·rw [hd]
  have h3 := aX6 (p := fun c : UInt8 => (!(decide (97 ≤ (c.toNat : Int)) && decide ((c.toNat : Int) ≤ 102)) || decide (10 ≤ IntKind.wrap .i64 ((IntKind.wrap .i64 (IntKind.wrap .i64 (c.toNat : Int) - 97)) + 10)))) (by decide +kernel) c
  rw [hd] at h3
  simp only [Bool.not_true, Bool.false_or, decide_eq_true_eq] at h3
  exact ⟨_, rfl, .inr h3⟩
 ·rw [Bool.eq_false_iff.2 hd]
  exact ⟨-1, rfl, .inl (by omega)⟩
theorem b37 {n d : Int} (hn : 0 ≤ n) (hd : 0 ≤ d ∧ d ≤ 9) (h : n ≤ (65535 - d) / 10) : IntKind.wrap .i64 (IntKind.wrap .i64 (n * 10) + d) = n * 10 + d ∧ n * 10 + d ≤ 65535 := by
 have : n * 10 + d ≤ 65535 := by omega
 rw [ag3 (n := n * 10) (by omega) (by omega), ag3 (by omega) (by omega)]
 exact ⟨rfl, this⟩
theorem cn3 {s : Str} (hs : s.length ≤ 1000000) : ab0 (fun x => av0 s 10 65535 x.1 x.2) (0, 0) = some (bo0 0 s) := by
 refine (ac1 (τ := Int × Int) s.length (fun (n : Int) i => (n, i)) (fun x => av0 s 10 65535 x.1 x.2) (fun i n => bo0 n (s.drop i)) (fun _ n => 0 ≤ n ∧ n ≤ 65535) (s0 := 0) (by omega) ?_ ?_).trans rfl
 ·intro n i hi hn
  simp only [av0, dlt hi, if_true, ak8 hi, Option.bind_some, List.drop_eq_getElem_cons hi, bo0]
  cases hd : b36 s[i] with
  | false =>
   obtain ⟨x, hx, h10⟩ := bJ8 hd
   right
   simp [hx, h10]
  | true =>
   have hr := bB8 hd
   have h10 : ¬ (10 ≤ dig s[i]) := by omega
   have hq : ¬ (65535 < dig s[i]) := by omega
   simp only [bB9 hd, Option.bind_some, h10, decide_false, Bool.false_eq_true, if_false, ci3 hr, Bool.true_and, hq]
   by_cases hle : n ≤ (65535 - dig s[i]) / 10
   ·have hlt : ¬ ((65535 - dig s[i]) / 10 < n) := by omega
    obtain ⟨e1, e2⟩ := b37 hn.1 hr hle
    left
    refine ⟨n * 10 + dig s[i], ?_, by simp [hle], by omega⟩
    simp only [hlt, decide_false, Bool.false_eq_true, if_false, Option.bind_some, e1]
    rw [aa8 (by omega)]
   ·have hlt : (65535 - dig s[i]) / 10 < n := by omega
    right
    simp [hlt, hle]
 ·intro n _
  simp [av0, bo0]
theorem cn4 {s : Str} (hs : s.length ≤ 1000000) : ab0 (fun x => ao2 s 10 65535 x.1 x.2) (0, 0) = some (bo0 0 s) := by
 refine (ac1 (τ := Int × Int) s.length (fun (n : Int) i => (n, i)) (fun x => ao2 s 10 65535 x.1 x.2) (fun i n => bo0 n (s.drop i)) (fun _ n => 0 ≤ n ∧ n ≤ 65535) (s0 := 0) (by omega) ?_ ?_).trans rfl
 ·intro n i hi hn
  simp only [ao2, dlt hi, if_true, ak8 hi, Option.bind_some, List.drop_eq_getElem_cons hi, bo0]
  cases hd : b36 s[i] with
  | false =>
   obtain ⟨x, hx, h10⟩ := bJ9 hd
   right
   rcases h10 with h | h
   ·simp [hx, h]
   ·by_cases h0 : x < 0 <;> simp [hx, h, h0]
  | true =>
   have hr := bB8 hd
   have h0 : ¬ (dig s[i] < 0) := by omega
   have h10 : ¬ (10 ≤ dig s[i]) := by omega
   have hq : ¬ (65535 < dig s[i]) := by omega
   simp only [bC0 hd, Option.bind_some, h0, h10, decide_false, Bool.false_eq_true, if_false, ci3 hr, Bool.true_and, hq]
   by_cases hle : n ≤ (65535 - dig s[i]) / 10
   ·have hlt : ¬ ((65535 - dig s[i]) / 10 < n) := by omega
    obtain ⟨e1, e2⟩ := b37 hn.1 hr hle
    left
    refine ⟨n * 10 + dig s[i], ?_, by simp [hle], by omega⟩
    simp only [hlt, decide_false, Bool.false_eq_true, if_false, e1]
    rw [aa8 (by omega)]
   ·have hlt : (65535 - dig s[i]) / 10 < n := by omega
    right
    simp [hlt, hle]
 ·intro n _
  simp [ao2, bo0]
theorem is48 (c : UInt8) : decide ((c.toNat : Int) = 48) = decide (c = 48) := isC c 48
theorem cv8 {s : Str} (hs : s.length ≤ 1000000) : a71 s 10 65535 = some (ci2 s) := by
 unfold a71 ci2
 rw [cn3 hs]
 cases s with
 | nil => rfl
 | cons c r =>
  have hat : ah8 (c :: r) 0 = some c := rfl
  have hl : decide ((1 : Int) < (List.length (c :: r) : Int)) = decide (1 < (c :: r).length) := by rw [Bool.eq_iff_iff]; simp only [decide_eq_true_eq]; omega
  have hk : aU2 10 = some true := rfl
  simp only [hk, hat, hl, Option.bind_some, is48, reduceCtorEq, decide_false, Bool.false_or]
  cases decide (1 < (c :: r).length) <;> cases decide (c = 48) <;> simp
theorem b38 {s : Str} (hs : s.length ≤ 1000000) : aQ3 s 10 65535 = some (ci2 s) := by
 unfold aQ3 ci2
 rw [cn4 hs]
 cases s with
 | nil => rfl
 | cons c r =>
  have hat : ah8 (c :: r) 0 = some c := rfl
  have hl : decide ((1 : Int) < (List.length (c :: r) : Int)) = decide (1 < (c :: r).length) := by rw [Bool.eq_iff_iff]; simp only [decide_eq_true_eq]; omega
  have hk : aI5 10 = some true := rfl
  simp only [hk, hat, hl, Option.bind_some, is48, reduceCtorEq, decide_false, Bool.false_or]
  cases decide (1 < (c :: r).length) <;> cases decide (c = 48) <;> simp
def bC1 (s : Str) : Bool := decide ((ci2 s).2 = 0) && decide (0 < (ci2 s).1)
theorem bC2 {s : Str} (hs : s.length ≤ 1000000) : aH5 s = some (bC1 s) := by
 unfold aH5 bC1
 rw [cv8 hs]; rfl
theorem br7 {s : Str} (hs : s.length ≤ 1000000) : aN2 s = some (bC1 s) := by
 unfold aN2 bC1
 rw [b38 hs]
 have : decide (1 ≤ (ci2 s).1) = decide (0 < (ci2 s).1) := by rw [Bool.eq_iff_iff]; simp only [decide_eq_true_eq]; omega
 rw [Option.bind_some, this]
def ao5 : List Str → Str
 | [] => []
 | p :: r => if bC1 p then p else ao5 r
def bC3 (l : List aa3) (net svc : Str) : Str := if bC1 svc then svc else ao5 (au4 l am7 svc net)
def aI7 (l : List aa3) (net svc : Str) : Str := if svc = [] then (match au4 l aO0 net am7 with | [] => [] | x :: _ => bC3 l net x) else bC3 l net svc
theorem bP8 {l : List aa3} {net svc : Str} (h : okT l) (hs : svc.length ≤ 1000000) : aD1 l net svc = some (bC3 l net svc) := by
 unfold aD1 bC3
 have hq : au9 l [115, 101, 114, 118, 105, 99, 101] svc net = some (au4 l am7 svc net) := bw4 h.1
 have hsm := au5 (name := am7) (value := svc) (want := net) h
 have hl := aW0 (name := am7) (value := svc) (want := net) h.1
 rw [bC2 hs, Option.bind_some, hq, Option.bind_some]
 generalize au4 l am7 svc net = xs at hsm hl
 have hloop : ab0 (fun s => av1 xs s) 0 = some (ao5 xs) := by
  refine (ac1 xs.length (fun (_ : Unit) i => i) (fun s => av1 xs s) (fun i _ => ao5 (xs.drop i)) (fun _ _ => True) (s0 := ()) trivial ?_ ?_).trans rfl
  ·intro _ i hi _
   have := hsm _ (List.getElem_mem hi)
   simp only [av1, dlt hi, if_true, aa5 hi, Option.bind_some, bC2 (s := xs[i]) (by omega), List.drop_eq_getElem_cons hi, ao5]
   by_cases hp : bC1 xs[i] = true
   ·right; rw [if_pos hp, if_pos hp]
   ·left
    refine ⟨(), ?_, by rw [if_neg hp], trivial⟩
    rw [if_neg hp, aa8 (by omega)]
  ·intro _ _
   simp [av1, ao5]
 rw [hloop]
 split <;> rfl
theorem bm1 {l : List aa3} {net svc : Str} (h : okT l) (hs : svc.length ≤ 1000000) : az7 l net svc = some (bC3 l net svc) := by
 unfold az7 bC3
 have hq : aq4 l [115, 101, 114, 118, 105, 99, 101] svc net = some (au4 l am7 svc net) := a42 h.1
 have hsm := au5 (name := am7) (value := svc) (want := net) h
 have hl := aW0 (name := am7) (value := svc) (want := net) h.1
 rw [br7 hs, Option.bind_some, hq, Option.bind_some]
 generalize au4 l am7 svc net = xs at hsm hl
 have hloop : ab0 (fun s => ar0 xs s) 0 = some (ao5 xs) := by
  refine (ac1 xs.length (fun (_ : Unit) i => i) (fun s => ar0 xs s) (fun i _ => ao5 (xs.drop i)) (fun _ _ => True) (s0 := ()) trivial ?_ ?_).trans rfl
  ·intro _ i hi _
   have := hsm _ (List.getElem_mem hi)
   simp only [ar0, dlt hi, if_true, aa5 hi, Option.bind_some, br7 (s := xs[i]) (by omega), List.drop_eq_getElem_cons hi, ao5]
   by_cases hp : bC1 xs[i] = true
   ·right; rw [if_pos hp, if_pos hp]
   ·left
    refine ⟨(), ?_, by rw [if_neg hp], trivial⟩
    rw [if_neg hp, aa8 (by omega)]
  ·intro _ _
   simp [ar0, ao5]
 rw [hloop]
 split <;> rfl
theorem cn5 {l : List aa3} {net svc : Str} (h : okT l) (hs : svc.length ≤ 1000000) : a73 l net svc = some (aI7 l net svc) := by
 unfold a73 aI7
 by_cases h0 : svc = []
 ·have hq : au9 l [110, 101, 116] net [115, 101, 114, 118, 105, 99, 101] = some (au4 l aO0 net am7) := bw4 h.1
  have hsm := au5 (name := aO0) (value := net) (want := am7) h
  simp only [h0, decide_true, if_true, hq, Option.bind_some]
  generalize au4 l aO0 net am7 = xs at hsm
  cases xs with
  | nil => rfl
  | cons x r =>
   have hx := hsm x (by simp)
   have hne : ¬ ((List.length (x :: r) : Int) = 0) := by simp only [List.length_cons]; omega
   have hat : aa9 (x :: r) 0 = some x := rfl
   simp only [hne, decide_false, Bool.false_eq_true, if_false, hat, Option.bind_some]
   exact bP8 h (by omega)
 ·simp only [h0, decide_false, Bool.false_eq_true, if_false]
  exact bP8 h hs
theorem bK0 {l : List aa3} {net svc : Str} (h : okT l) (hs : svc.length ≤ 1000000) : aY7 l net svc = some (aI7 l net svc) := by
 unfold aY7 aI7
 by_cases h0 : svc = []
 ·have hq : aq4 l [110, 101, 116] net [115, 101, 114, 118, 105, 99, 101] = some (au4 l aO0 net am7) := a42 h.1
  have hsm := au5 (name := aO0) (value := net) (want := am7) h
  simp only [h0, decide_true, if_true, hq, Option.bind_some]
  generalize au4 l aO0 net am7 = xs at hsm
  cases xs with
  | nil => rfl
  | cons x r =>
   have hx := hsm x (by simp)
   have hne : ¬ ((List.length (x :: r) : Int) = 0) := by simp only [List.length_cons]; omega
   have hat : aa9 (x :: r) 0 = some x := rfl
   simp only [hne, decide_false, Bool.false_eq_true, if_false, hat, Option.bind_some]
   exact bm1 h (by omega)
 ·simp only [h0, decide_false, Bool.false_eq_true, if_false]
  exact bm1 h hs
def ai6 (l : List aa3) (svc : Str) (hs : List Str) (n : Str) : List aa2 := if aI7 l n svc = [] then [] else hs.map fun h => ⟨n, h, aI7 l n svc⟩
def ao6 (l : List aa3) (host : Str) (a : aa2) : List aa2 × Int :=
 if au2 a = false then ([], 36) else if aO1 l a.Net = [] then ([], 37) else if aE6 l host a.Host = [] then ([], 38) else
 if (aO1 l a.Net).flatMap (ai6 l a.Service (aE6 l host a.Host)) = [] then ([], 39) else ((aO1 l a.Net).flatMap (ai6 l a.Service (aE6 l host a.Host)), 0)
theorem bg8 {l : List aa3} {svc : Str} {hs : List Str} {K : Nat} (hk : hs.length ≤ K) : ∀ ns : List Str, (ns.flatMap (ai6 l svc hs)).length ≤ ns.length * K
 | [] => by simp
 | n :: r => by
  rw [List.flatMap_cons, List.length_append, List.length_cons, Nat.add_mul, Nat.one_mul]
  have := bg8 (l := l) (svc := svc) hk r
  have : (ai6 l svc hs n).length ≤ K := by unfold ai6; split <;> simp; omega
  omega
theorem bm2 {l : List aa3} {name : Str} (h : okD l) : (aO1 l name).length ≤ 1000 := by
 have h1 := aN9 l aO0
 have h2 := h.1
 have := List.length_filter_le (fun n => bI9 n && (!decide (n = aO0) && (decide (name = aO0) || decide (name = n)))) (az9 l aO0)
 unfold aO1; omega
theorem bb6 {l : List aa3} {host name : Str} (h : okD l) : (aE6 l host name).length ≤ 1000 := by
 have h1 := aW0 (name := a13) (value := name) (want := aR1) h
 have := List.length_filter_le aN8 (au4 l a13 name aR1)
 unfold aE6
 split
 ·simp
 ·split
  ·split <;> simp
  ·split
   ·simp
   ·omega
theorem bd9 {l : List aa3} {host : Str} {a : aa2} (h : okT l) (ha : a.Service.length ≤ 1000000) : aq8 l host a = some (ao6 l host a) := by
 unfold aq8 ao6
 have hn := bm2 (name := a.Net) h.1
 have hh := bb6 (host := host) (name := a.Host) h.1
 simp only [bg7, bJ5 h.1, cd5 h.1, Option.bind_some]
 generalize aO1 l a.Net = ns at hn
 generalize aE6 l host a.Host = hs at hh
 cases au2 a with
 | false => rfl
 | true =>
  simp only [Bool.not_true, Bool.false_eq_true, if_false, Bool.true_eq_false]
  by_cases h1 : ns = []
  ·simp [h1]
  ·have h1' : ¬ ((List.length ns : Int) = 0) := by have := List.length_pos_iff.2 h1; omega
   simp only [h1, h1', decide_false, Bool.false_eq_true, if_false]
   by_cases h2 : hs = []
   ·simp [h2]
   ·have h2' : ¬ ((List.length hs : Int) = 0) := by have := List.length_pos_iff.2 h2; omega
    simp only [h2, h2', decide_false, Bool.false_eq_true, if_false]
    refine (ac1 (τ := Int × List aa2) ns.length (fun (x : List aa2) i => (i, x)) (fun x => al1 l a ns hs x.1 x.2) (fun _ _ => if ns.flatMap (ai6 l a.Service hs) = [] then ([], 39) else (ns.flatMap (ai6 l a.Service hs), 0)) (fun i x => x = (ns.take i).flatMap (ai6 l a.Service hs)) (s0 := []) (by simp) ?_ ?_).trans rfl
    ·rintro out i hi rfl
     left
     have hw : IntKind.wrap .i64 ((i : Int) + 1) = (i : Int) + 1 := aa8 (by omega)
     have hlen := bg8 (l := l) (svc := a.Service) hh (ns.take i)
     have hlen2 : ((ns.take i).flatMap (ai6 l a.Service hs)).length ≤ 1000 * 1000 := Nat.le_trans hlen (Nat.mul_le_mul (by simp; omega) (Nat.le_refl _))
     refine ⟨(ns.take (i + 1)).flatMap (ai6 l a.Service hs), ?_, rfl, rfl⟩
     simp only [al1, dlt hi, if_true, aa5 hi, Option.bind_some, cn5 h ha]
     rw [List.take_succ_eq_append_getElem hi, List.flatMap_append]
     generalize (ns.take i).flatMap (ai6 l a.Service hs) = out at hlen2
     simp only [List.flatMap_cons, List.flatMap_nil, List.append_nil, ai6]
     by_cases hp : aI7 l ns[i] a.Service = []
     ·simp [hp, hw]
     ·simp only [hp, decide_false, Bool.false_eq_true, if_false]
      refine (ac1 (τ := Int × List aa2) hs.length (fun (x : List aa2) k => (k, x)) (fun x => al0 hs (i : Int) ns[i] (aI7 l ns[i] a.Service) x.1 x.2) (fun _ _ => Step.cont ((i : Int) + 1, out ++ hs.map fun h => ⟨ns[i], h, aI7 l ns[i] a.Service⟩)) (fun k x => x = out ++ (hs.take k).map fun h => ⟨ns[i], h, aI7 l ns[i] a.Service⟩) (s0 := out) (by simp) ?_ ?_).trans rfl
      ·rintro x k hk rfl
       left
       have hap : ∀ y, ar1 48 (out ++ (hs.take k).map fun h => (⟨ns[i], h, aI7 l ns[i] a.Service⟩ : aa2)) [y] = some ((out ++ (hs.take k).map fun h => ⟨ns[i], h, aI7 l ns[i] a.Service⟩) ++ [y]) := fun y => ad0 (by simp; omega) (by simp; omega)
       refine ⟨out ++ (hs.take (k + 1)).map fun h => ⟨ns[i], h, aI7 l ns[i] a.Service⟩, ?_, rfl, rfl⟩
       simp only [al0, dlt hk, if_true, aa5 hk, Option.bind_some, hap]
       rw [aa8 (by omega), List.take_succ_eq_append_getElem hk, List.map_append, List.append_assoc]
       rfl
      ·rintro x rfl
       simp only [al0, dge, Bool.false_eq_true, if_false, List.take_length, hw]
    ·rintro out rfl
     simp only [al1, dge, Bool.false_eq_true, if_false, ay7, List.take_length]
     by_cases hf : ns.flatMap (ai6 l a.Service hs) = []
     ·simp [hf]
     ·have : ¬ ((List.length (ns.flatMap (ai6 l a.Service hs)) : Int) = 0) := by have := List.length_pos_iff.2 hf; omega
      simp only [hf, this, decide_false, Bool.false_eq_true, if_false, Option.map_some]
theorem be0 {l : List aa3} {host : Str} {a : aa2} {ns : List Str} (h : okT l) (ha : a.Service.length ≤ 1000000) (hho : host.length ≤ 1000000) (hn : ns.length ≤ 1000) : al7 l host a ns = some (if ns = [] then ([], 37) else if aE6 l host a.Host = [] then ([], 38) else
  if ns.flatMap (ai6 l a.Service (aE6 l host a.Host)) = [] then ([], 39) else (ns.flatMap (ai6 l a.Service (aE6 l host a.Host)), 0)) := by
 unfold al7
 have hh := bb6 (host := host) (name := a.Host) h.1
 simp only [bJ7 h hho, Option.bind_some]
 generalize aE6 l host a.Host = hs at hh
 by_cases h1 : ns = []
 ·simp [h1]
 ·have h1' : ¬ ((List.length ns : Int) = 0) := by have := List.length_pos_iff.2 h1; omega
  simp only [h1, h1', decide_false, Bool.false_eq_true, if_false]
  by_cases h2 : hs = []
  ·simp [h2]
  ·have h2' : ¬ ((List.length hs : Int) = 0) := by have := List.length_pos_iff.2 h2; omega
   simp only [h2, h2', decide_false, Bool.false_eq_true, if_false]
   refine (ac1 (τ := Int × List aa2) ns.length (fun (x : List aa2) i => (i, x)) (fun x => ak3 l a ns hs x.1 x.2) (fun _ _ => if ns.flatMap (ai6 l a.Service hs) = [] then ([], 39) else (ns.flatMap (ai6 l a.Service hs), 0)) (fun i x => x = (ns.take i).flatMap (ai6 l a.Service hs)) (s0 := []) (by simp) ?_ ?_).trans rfl
   ·rintro out i hi rfl
    left
    have hw : IntKind.wrap .i64 ((i : Int) + 1) = (i : Int) + 1 := aa8 (by omega)
    have hlen := bg8 (l := l) (svc := a.Service) hh (ns.take i)
    have hlen2 : ((ns.take i).flatMap (ai6 l a.Service hs)).length ≤ 1000 * 1000 := Nat.le_trans hlen (Nat.mul_le_mul (by simp; omega) (Nat.le_refl _))
    refine ⟨(ns.take (i + 1)).flatMap (ai6 l a.Service hs), ?_, rfl, rfl⟩
    simp only [ak3, dlt hi, if_true, aa5 hi, Option.bind_some, bK0 h ha]
    rw [List.take_succ_eq_append_getElem hi, List.flatMap_append]
    generalize (ns.take i).flatMap (ai6 l a.Service hs) = out at hlen2
    simp only [List.flatMap_cons, List.flatMap_nil, List.append_nil, ai6]
    by_cases hp : aI7 l ns[i] a.Service = []
    ·simp only [hp, if_true, List.append_nil]
     refine aL9 ?_
     simp only [ai0, decide_true, Bool.not_true, Bool.and_false, Bool.false_eq_true, if_false, hw]
    ·simp only [hp, if_false]
     refine (ac1 (τ := Int × List aa2) hs.length (fun (x : List aa2) k => (k, x)) (fun x => ai0 ns hs (i : Int) (aI7 l ns[i] a.Service) x.1 x.2) (fun _ _ => Step.cont ((i : Int) + 1, out ++ hs.map fun h => ⟨ns[i], h, aI7 l ns[i] a.Service⟩)) (fun k x => x = out ++ (hs.take k).map fun h => ⟨ns[i], h, aI7 l ns[i] a.Service⟩) (s0 := out) (by simp) ?_ ?_).trans rfl
     ·rintro x k hk rfl
      left
      have hap : ∀ y, ar1 48 (out ++ (hs.take k).map fun h => (⟨ns[i], h, aI7 l ns[i] a.Service⟩ : aa2)) [y] = some ((out ++ (hs.take k).map fun h => ⟨ns[i], h, aI7 l ns[i] a.Service⟩) ++ [y]) := fun y => ad0 (by simp; omega) (by simp; omega)
      refine ⟨out ++ (hs.take (k + 1)).map fun h => ⟨ns[i], h, aI7 l ns[i] a.Service⟩, ?_, rfl, rfl⟩
      simp only [ai0, dlt hk, hp, decide_false, Bool.not_false, Bool.and_true, if_true, aa5 hi, aa5 hk, Option.bind_some, hap]
      rw [aa8 (by omega), List.take_succ_eq_append_getElem hk, List.map_append, List.append_assoc]
      rfl
     ·rintro x rfl
      simp only [ai0, dge, Bool.false_and, Bool.false_eq_true, if_false, List.take_length, hw]
   ·rintro out rfl
    simp only [ak3, dge, Bool.false_eq_true, if_false, ax4, List.take_length]
    by_cases hf : ns.flatMap (ai6 l a.Service hs) = []
    ·simp [hf]
    ·have : ¬ ((List.length (ns.flatMap (ai6 l a.Service hs)) : Int) = 0) := by have := List.length_pos_iff.2 hf; omega
     simp only [hf, this, decide_false, Bool.false_eq_true, if_false, Option.map_some]
theorem aW1 {l : List aa3} {host : Str} {a : aa2} (h : okT l) (h1 : a.Net.length ≤ 1000000) (h2 : a.Host.length ≤ 1000000) (ha : a.Service.length ≤ 1000000) (hho : host.length ≤ 1000000) : au1 l host a = some (ao6 l host a) := by
 unfold au1 ao6
 rw [a41 h1 h2 ha, Option.bind_some]
 have hn := bm2 (name := aO0) h.1
 have hN : aN1 l = some (aO1 l aO0) := by rw [bV3 h, bP7]
 cases au2 a with
 | false => rfl
 | true =>
  simp only [Bool.not_true, Bool.false_eq_true, if_false, Bool.true_eq_false, hN, Option.bind_some]
  by_cases hnet : a.Net = aO0
  ·have hnet' : a.Net = [110, 101, 116] := hnet
   simp only [hnet', decide_true, Bool.not_true, Bool.false_eq_true, if_false, be0 (host := host) (a := a) h ha hho hn]
   rfl
  ·have hnet' : ¬ (a.Net = [110, 101, 116]) := hnet
   simp only [hnet', decide_false, Bool.not_false, if_true, b34 (l := aO1 l aO0) (v := a.Net) (by omega), Option.bind_some, be0 (host := host) (a := a) (ns := [a.Net]) h ha hho (by simp)]
   rw [cd4 hnet]
   cases (aO1 l aO0).contains a.Net <;> simp
def be1 : Str → List aa3 → Str × Int
 | acc, [] => (acc, 0)
 | acc, x :: r => if decide (x.Attrs = []) || x.Attrs.any (·.Query) then ([], 2) else if bI3 x.Attrs ≠ 0 then ([], bI3 x.Attrs) else be1 (acc ++ (aA1 x.Attrs ++ [10])) r
def bo1 (l : List aa3) : Str × Int := if 256 < l.length then ([], 22) else be1 [] l
def okX (l : List aa3) : Prop := l.length ≤ 300 ∧ ∀ x ∈ l, okL x.Attrs
theorem bC4 {l : List aa4} (h : okL l) : (aA1 l).length ≤ 75020000 := by
 have := bl6 h l.length
 rw [List.take_length] at this
 exact this
theorem cn6 {l : List aa3} (h : okX l) : aU7 l = some (bo1 l) := by
 unfold aU7 bo1
 by_cases h0 : 256 < l.length
 ·have : (256 : Int) < (List.length l : Int) := by omega
  simp [h0, this]
 ·have : ¬ ((256 : Int) < (List.length l : Int)) := by omega
  simp only [h0, this, decide_false, Bool.false_eq_true, if_false]
  refine (ac1 (τ := Int × Str) l.length (fun (x : Str) i => (i, x)) (fun x => az1 l x.1 x.2) (fun i x => be1 x (l.drop i)) (fun i x => x.length ≤ i * 75020001) (s0 := []) (by simp) ?_ ?_).trans rfl
  ·intro acc i hi hl
   have hok := h.2 _ (List.getElem_mem hi)
   have h1 := hok.1
   have hp := bC4 hok
   have hb : i * 75020001 ≤ 256 * 75020001 := Nat.mul_le_mul (by omega) (Nat.le_refl _)
   have c1 : ax3 (aA1 l[i].Attrs) [10] = some (aA1 l[i].Attrs ++ [10]) := ad3 (by simp; omega)
   have c2 : bAdd acc (aA1 l[i].Attrs ++ [10]) = some (acc ++ (aA1 l[i].Attrs ++ [10])) := bU5 (by simp; omega)
   have hw : IntKind.wrap .i64 ((i : Int) + 1) = (i : Int) + 1 := aa8 (by omega)
   have hz : decide ((List.length l[i].Attrs : Int) = 0) = decide (l[i].Attrs = []) := by
    rw [Bool.eq_iff_iff]; simp only [decide_eq_true_eq]
    rw [← List.length_eq_zero_iff]; omega
   simp only [az1, dlt hi, if_true, aa5 hi, Option.bind_some, cn2 (l := l[i].Attrs) (by omega), cc9 hok, hz, hw, List.drop_eq_getElem_cons hi, be1]
   cases hd : decide (l[i].Attrs = []) with
   | true => right; simp
   | false =>
    cases hq : l[i].Attrs.any (·.Query) with
    | true => right; simp
    | false =>
     by_cases hc : bI3 l[i].Attrs = 0
     ·left
      refine ⟨acc ++ (aA1 l[i].Attrs ++ [10]), ?_, ?_, ?_⟩
      ·simp [hc, c1, c2]
      ·simp [hc]
      ·simp only [List.length_append, List.length_cons, List.length_nil]; omega
     ·right; simp [hc]
  ·intro acc _
   simp [az1, be1]
theorem bV4 {l : List aa3} (h : okX l) : aY6 l = some (bo1 l) := by
 unfold aY6 bo1
 by_cases h0 : 256 < l.length
 ·have : (256 : Int) < (List.length l : Int) := by omega
  simp [h0, this]
 ·have : ¬ ((256 : Int) < (List.length l : Int)) := by omega
  simp only [h0, this, decide_false, Bool.false_eq_true, if_false]
  refine (ac1 (τ := Str × Int) l.length (fun (x : Str) i => (x, i)) (fun x => aw4 l x.1 x.2) (fun i x => be1 x (l.drop i)) (fun i x => x.length ≤ i * 75020001) (s0 := []) (by simp) ?_ ?_).trans rfl
  ·intro acc i hi hl
   have hok := h.2 _ (List.getElem_mem hi)
   have h1 := hok.1
   have hp := bC4 hok
   have hb : i * 75020001 ≤ 256 * 75020001 := Nat.mul_le_mul (by omega) (Nat.le_refl _)
   have c1 : ax3 acc (aA1 l[i].Attrs) = some (acc ++ aA1 l[i].Attrs) := ad3 (by omega)
   have c2 : ax3 (acc ++ aA1 l[i].Attrs) [10] = some (acc ++ aA1 l[i].Attrs ++ [10]) := ad3 (by simp; omega)
   have hw : IntKind.wrap .i64 ((i : Int) + 1) = (i : Int) + 1 := aa8 (by omega)
   have hz : decide ((List.length l[i].Attrs : Int) = 0) = decide (l[i].Attrs = []) := by
    rw [Bool.eq_iff_iff]; simp only [decide_eq_true_eq]
    rw [← List.length_eq_zero_iff]; omega
   simp only [aw4, dlt hi, if_true, aa5 hi, Option.bind_some, bV2 (l := l[i].Attrs) (by omega), bI7 hok, hz, hw, List.drop_eq_getElem_cons hi, be1]
   cases hd : decide (l[i].Attrs = []) with
   | true => right; simp
   | false =>
    cases hq : l[i].Attrs.any (·.Query) with
    | true => right; simp
    | false =>
     by_cases hc : bI3 l[i].Attrs = 0
     ·left
      refine ⟨acc ++ (aA1 l[i].Attrs ++ [10]), ?_, ?_, ?_⟩
      ·simp [hc, c1, c2]
      ·simp [hc]
      ·simp only [List.length_append, List.length_cons, List.length_nil]; omega
     ·right; simp [hc]
  ·intro acc _
   simp [aw4, be1]
def good (x : aa3) : Prop := x.Attrs ≠ [] ∧ bI3 x.Attrs = 0 ∧ x.Attrs.any (·.Query) = false
theorem b39 {d : Nat} (h : d < 10) : cut ([48, 49, 50, 51, 52, 53, 54, 55, 56, 57, 97, 98, 99, 100, 101, 102] : Str) (d : Int) ((d : Int) + 1) = some [UInt8.ofNat (48 + d)] := by
 rcases (by omega : d = 0 ∨ d = 1 ∨ d = 2 ∨ d = 3 ∨ d = 4 ∨ d = 5 ∨ d = 6 ∨ d = 7 ∨ d = 8 ∨ d = 9) with rfl | rfl | rfl | rfl | rfl | rfl | rfl | rfl | rfl | rfl <;> rfl
theorem cd6 (u : Nat) (h : ¬ u < 10) : Go.Lib.decDigits u = Go.Lib.decDigits (u / 10) ++ [UInt8.ofNat (48 + u % 10)] := by
 rw [Go.Lib.decDigits, dif_neg h]
def cu0 (u : Nat) (s : Str) : Str := if u = 0 ∧ s ≠ [] then s else Go.Lib.decDigits u ++ s
theorem b40 (u : Nat) (s : Str) (h : ¬ (u = 0 ∧ s ≠ [])) : cu0 u s = cu0 (u / 10) (UInt8.ofNat (48 + u % 10) :: s) := by
 unfold cu0
 rw [if_neg h]
 by_cases h10 : u < 10
 ·have : u / 10 = 0 := by omega
  rw [this, if_pos ⟨rfl, by simp⟩, Go.Lib.decDigits_one h10, Nat.mod_eq_of_lt h10]; rfl
 ·rw [if_neg (by omega), cd6 u h10, List.append_assoc]; rfl
theorem bb7 {u : Nat} {s : Str} (h : ¬ (u = 0 ∧ s ≠ [])) (hu : u ≤ 9223372036854775808) (hs : s.length ≤ 100) : ao3 10 (-(u : Int)) s = some (.cont (-((u / 10 : Nat) : Int), UInt8.ofNat (48 + u % 10) :: s)) := by
 unfold ao3
 have hc : (decide (-(u : Int) < 0) || decide (s = [])) = true := by
  rcases Nat.eq_zero_or_pos u with h0 | h0
  ·have : s = [] := Classical.byContradiction fun e => h ⟨h0, e⟩
   simp [this]
  ·have hn : -(u : Int) < 0 := by omega
   rw [decide_eq_true hn]; rfl
 have e1 : Int.tmod (-(u : Int)) 10 = -((u % 10 : Nat) : Int) := by rw [Int.neg_tmod]; rfl
 have e2 : Int.tdiv (-(u : Int)) 10 = -((u / 10 : Nat) : Int) := by rw [Int.neg_tdiv]; rfl
 have e3 : IntKind.wrap .i64 (0 - -((u % 10 : Nat) : Int)) = ((u % 10 : Nat) : Int) := by rw [ag3 (by omega) (by omega)]; omega
 have e4 : IntKind.wrap .i64 (((u % 10 : Nat) : Int) + 1) = ((u % 10 : Nat) : Int) + 1 := ag3 (by omega) (by omega)
 have e5 : IntKind.wrap .i64 (-((u / 10 : Nat) : Int)) = -((u / 10 : Nat) : Int) := ag3 (by omega) (by omega)
 rw [if_pos hc]
 unfold remI b86
 rw [if_neg (by decide), if_neg (by decide), Option.bind_some, e1, e3, e4, b39 (by omega), Option.bind_some]
 rw [ad3 (by simp; omega), Option.bind_some, Option.bind_some, e2, e5]
 rfl
theorem b41 {u n : Nat} (h1 : u * 10 ^ n ≤ 9223372036854775808) (h2 : 0 < u) : n ≤ 18 := by
 rcases Nat.lt_or_ge 18 n with h | h
 ·have h3 : 10 ^ 19 ≤ 10 ^ n := Nat.pow_le_pow_right (by omega) h
  have h4 : 1 * 10 ^ n ≤ u * 10 ^ n := Nat.mul_le_mul_right _ h2
  omega
 ·exact h
theorem aW2 {u : Nat} (hu : u ≤ 9223372036854775808) : aD4 (-(u : Int)) 10 = some (Go.Lib.decDigits u) := by
 unfold aD4
 refine (bq6 (σ := Nat × Str) (fun s => ao3 10 s.1 s.2) (fun s => (-(s.1 : Int), s.2)) (fun s => cu0 s.1 s.2) (fun s => s.1 + (if s.2 = [] then 1 else 0)) (fun s => s.1 * 10 ^ s.2.length ≤ 9223372036854775808 ∧ s.2.length ≤ 20) (fun s hs => ?_) (s0 := (u, [])) ⟨by simpa using hu, by simp⟩).trans ?_
 ·obtain ⟨v, s⟩ := s
  obtain ⟨h1, h2⟩ := hs
  simp only at h1 h2 ⊢
  have hv : v ≤ 9223372036854775808 := by
   have : v * 1 ≤ v * 10 ^ s.length := Nat.mul_le_mul_left _ (Nat.one_le_pow _ _ (by omega))
   omega
  by_cases h : v = 0 ∧ s ≠ []
  ·right
   unfold ao3 cu0
   rw [if_pos h, h.1]
   have hs' : decide (s = []) = false := by simpa using h.2
   simp [hs', h.2]
  ·left
   refine ⟨(v / 10, UInt8.ofNat (48 + v % 10) :: s), bb7 h hv (by omega), b40 v s h, ⟨?_, ?_⟩, ?_⟩
   ·simp only [List.length_cons, Nat.pow_succ]
    have e : v / 10 * (10 ^ s.length * 10) = v / 10 * 10 * 10 ^ s.length := by rw [Nat.mul_comm (10 ^ s.length) 10, Nat.mul_assoc]
    rw [e]
    exact Nat.le_trans (Nat.mul_le_mul_right _ (Nat.div_mul_le_self v 10)) h1
   ·simp only [List.length_cons]
    by_cases hs' : s = []
    ·subst hs'; simp
    ·have : 0 < v := Nat.pos_of_ne_zero fun e => h ⟨e, hs'⟩
     have := b41 h1 this
     omega
   ·simp only [reduceCtorEq, if_false]
    by_cases hs' : s = []
    ·rw [if_pos hs']; omega
    ·rw [if_neg hs']
     have : 0 < v := Nat.pos_of_ne_zero fun e => h ⟨e, hs'⟩
     omega
 ·unfold cu0; simp
theorem bw5 {n : Int} (h0 : -9223372036854775808 ≤ n) (h1 : n ≤ 9223372036854775807) : aB3 n 10 = some (Go.Lib.itoa n) := by
 unfold aB3 aI5 Go.Lib.itoa
 by_cases hn : n < 0
 ·have e : n = -((n.natAbs : Nat) : Int) := by omega
  have hd := aW2 (u := n.natAbs) (by omega)
  rw [← e] at hd
  have hl := Go.Lib.itoa_length_le n h0 h1
  unfold Go.Lib.itoa at hl
  rw [if_pos hn] at hl
  simp only [List.length_cons] at hl
  simp [hn, hd, ad3 (a := [45]) (b := Go.Lib.decDigits n.natAbs) (by simp; omega)]
 ·have hw : IntKind.wrap .i64 (0 - n) = -((n.toNat : Nat) : Int) := by rw [ag3 (by omega) (by omega)]; omega
  have hd := aW2 (u := n.toNat) (by omega)
  rw [hw, hd]
  simp [hn]
theorem a44 {n : Int} (h0 : -9223372036854775808 ≤ n) (h1 : n ≤ 9223372036854775807) : aX8 n 10 = some (Go.Lib.itoa n) := by
 unfold aX8 aU2 aA6 aX5
 rw [if_pos ⟨rfl, h0, h1⟩]; rfl
theorem bP9 {n : Int} (h0 : -9223372036854775808 ≤ n) (h1 : n ≤ 9223372036854775807) : (Go.Lib.itoa n).length ≤ 21 := Go.Lib.itoa_length_le n h0 h1
def ci4 (c : UInt8) : Bool := (decide ((c.toNat : Int) = 32)) || ((decide ((c.toNat : Int) = 9)) || ((decide ((c.toNat : Int) = 10)) || (decide ((c.toNat : Int) = 13))))
def bC5 : Str → Str → List Str
 | [], [] => []
 | a :: l, [] => [a :: l]
 | [], c :: r => if ci4 c = true then bC5 [] r else bC5 [c] r
 | a :: l, c :: r => if ci4 c = true then (a :: l) :: bC5 [] r else bC5 (a :: l ++ [c]) r
def aD9 (s : Str) : List Str := bC5 [] s
theorem bQ0 {cur r : Str} {c : UInt8} (h : ci4 c = true) : bC5 cur (c :: r) = (if cur = [] then [] else [cur]) ++ bC5 [] r := by
 cases cur with
 | nil => simp [bC5, h]
 | cons a l => simp [bC5, h]
theorem b42 {cur r : Str} {c : UInt8} (h : ci4 c = false) : bC5 cur (c :: r) = bC5 (cur ++ [c]) r := by
 cases cur with
 | nil => simp [bC5, h]
 | cons a l => simp [bC5, h]
theorem bQ1 (cur : Str) : bC5 cur [] = if cur = [] then [] else [cur] := by
 cases cur <;> simp [bC5]
theorem bC6 {s : Str} {k i : Nat} (hk : k ≤ i) (hi : i < s.length) : (s.take (i + 1)).drop k = (s.take i).drop k ++ [s[i]] := by
 rw [List.take_succ_eq_append_getElem hi, List.drop_append_of_le_length (by simp; omega)]
def cv9 (s : Str) (f : Int) (i : Nat) : Str := if f < 0 then [] else (s.take i).drop f.toNat
theorem a84 {s : Str} (h : s.length ≤ 100000) : aA7 s = some (aD9 s) := by
 unfold aA7
 have hm : s.length ≤ maxLen := by unfold maxLen; omega
 refine (ac1 (σ := Int × List Str) (τ := Int × Int × List Str) s.length (fun a i => (a.1, i, a.2)) (fun a => ai3 s a.1 a.2.1 a.2.2) (fun i a => a.2 ++ bC5 (cv9 s a.1 i) (s.drop i))
  (fun i a => (a.1 = -1 ∨ (0 ≤ a.1 ∧ a.1 < (i : Int))) ∧ a.2.length ≤ i) (s0 := (-1, [])) ⟨.inl rfl, by simp⟩ ?_ ?_).trans ?_
 ·rintro ⟨f, out⟩ i hi ⟨hf, ho⟩
  simp only at hf ho
  left
  have hlt : (i : Int) < (List.length s : Int) := by omega
  have hk29 : ∀ b : Bool, am1 s f (i : Int) out b = some (.cont (if b = true then (-1, ((i : Int) + 1), if f < 0 then out else out ++ [(s.take i).drop f.toNat]) else (if f < 0 then (i : Int) else f, ((i : Int) + 1), out))) := by
   intro b
   unfold am1
   rw [b15 hi hm]
   cases b with
   | true =>
    by_cases h0 : 0 ≤ f
    ·have hn : ¬ f < 0 := by omega
     have hc : cut s f (i : Int) = some ((s.take i).drop f.toNat) := by
      have := a24 (l := s) (a := f.toNat) (b := i) (by omega) (by omega)
      rw [show ((f.toNat : Nat) : Int) = f by omega] at this
      exact this
     simp only [if_true, decide_eq_true h0, hc, Option.bind_some, if_neg hn]
     rw [ad0 (by simp; omega) (by simp; omega), Option.bind_some]
    ·have hn : f < 0 := by omega
     simp [h0, hn]
   | false =>
    by_cases h0 : f < 0
    ·simp [h0]
    ·simp [h0]
  have hstep : ai3 s f (i : Int) out = some (.cont (if ci4 s[i] = true then (-1, ((i : Int) + 1), if f < 0 then out else out ++ [(s.take i).drop f.toNat]) else (if f < 0 then (i : Int) else f, ((i : Int) + 1), out))) := by
   unfold ai3
   simp only [decide_eq_true hlt, if_true, ak8 hi, Option.bind_some, hk29]
   unfold ci4
   cases decide ((s[i].toNat : Int) = 32) <;> cases decide ((s[i].toNat : Int) = 9) <;> cases decide ((s[i].toNat : Int) = 10) <;> cases decide ((s[i].toNat : Int) = 13) <;> rfl
  have hd : s.drop i = s[i] :: s.drop (i + 1) := List.drop_eq_getElem_cons hi
  cases hs : ci4 s[i] with
  | true =>
   refine ⟨(-1, if f < 0 then out else out ++ [(s.take i).drop f.toNat]), ?_, ?_, .inl rfl, ?_⟩
   ·show ai3 s f (i : Int) out = _
    rw [hstep, hs]; simp
   ·simp only
    rw [hd, bQ0 hs]
    unfold cv9
    rcases hf with hf | ⟨h1, h2⟩
    ·simp [hf]
    ·have hn : ¬ f < 0 := by omega
     have hne : (s.take i).drop f.toNat ≠ [] := by
      intro e
      have := congrArg List.length e
      simp at this; omega
     simp [hn, hne]
   ·simp only
    split
    ·omega
    ·simp; omega
  | false =>
   refine ⟨(if f < 0 then (i : Int) else f, out), ?_, ?_, .inr ?_, by simp only; omega⟩
   ·show ai3 s f (i : Int) out = _
    rw [hstep, hs]; simp
   ·simp only
    rw [hd, b42 hs]
    unfold cv9
    rcases hf with hf | ⟨h1, h2⟩
    ·have hni : ¬ ((i : Int) < 0) := by omega
     have e := bC6 (s := s) (k := i) (i := i) (Nat.le_refl _) hi
     have e0 : (s.take i).drop i = [] := List.drop_of_length_le (by simp; omega)
     rw [e0] at e
     simp [hf, hni, e]
    ·have hn : ¬ f < 0 := by omega
     simp only [hn, if_false]
     rw [bC6 (by omega) hi]
   ·simp only
    split <;> omega
 ·rintro ⟨f, out⟩ ⟨hf, ho⟩
  simp only at hf ho
  show ai3 s f (s.length : Int) out = _
  unfold ai3 aK8
  have hn : ¬ ((s.length : Int) < (List.length s : Int)) := by omega
  simp only [decide_eq_false hn, Bool.false_eq_true, if_false, List.drop_length, bQ1]
  unfold cv9
  rcases hf with hf | ⟨h1, h2⟩
  ·simp [hf]
  ·have hn : ¬ f < 0 := by omega
   have hc : cut s f (List.length s : Int) = some ((s.take s.length).drop f.toNat) := by
    have := a24 (l := s) (a := f.toNat) (b := s.length) (by omega) (by omega)
    rw [show ((f.toNat : Nat) : Int) = f by omega] at this
    exact this
   have hne : (s.take s.length).drop f.toNat ≠ [] := by
    intro e
    have := congrArg List.length e
    simp at this; omega
   simp only [decide_eq_true h1, if_true, hc, Option.bind_some, if_neg hn, if_neg hne]
   rw [ad0 (by simp; omega) (by simp; omega)]; rfl
 ·simp [aD9, cv9]
end Go.Proofs.YtofpfpkjdigabaaGreatDoor
