import Derived.Test.YtofpfpkjdigabaaGreatDoorR
import Derived.Test.YtofpfpkjdigabaaGreatDoorVmQ
import Derived.Lib.ReplaceLaws
import Derived.KernelRfl
import Derived.Test.YtofpfpkjdigabaaGreatDoorVmI
import Derived.Lib.ItoaLen
namespace Go.Proofs.YtofpfpkjdigabaaGreatDoor
open Go.Vm
set_option autoImplicit false
set_option linter.unusedVariables false
set_option linter.unusedSimpArgs false
set_option maxRecDepth 100000
theorem bb0 {α : Type} {o : Option α} : (o.bind fun x => some x) = o := by cases o <;> rfl
theorem aa7 {i : Nat} (h : i ≤ 1000000) : IntKind.wrap .i64 ((i : Int) + 1) = (i : Int) + 1 := ag0 (by omega) (by omega)
theorem dlt {i n : Nat} (h : i < n) : decide ((i : Int) < (n : Int)) = true := by simp [h]
theorem dge {n : Nat} : decide ((n : Int) < (n : Int)) = false := by simp
def a19 (stops : Str) : Str → Nat
 | [] => 0
 | c :: r => if stops.contains c then 0 else a19 stops r + 1
theorem b41 (stops s : Str) : a19 stops s ≤ s.length := by
 induction s with
 | nil => exact Nat.le_refl _
 | cons c r ih => unfold a19; split <;> simp <;> omega
theorem bP9 {s stops : Str} (hm : s.length ≤ 1000000) : aO0 s stops = some (a19 stops s : Int) := by
 unfold aO0
 refine (ab7 s.length (fun (_ : Unit) i => i) (fun v => aA1 s stops v) (fun i _ => ((i + a19 stops (s.drop i) : Nat) : Int)) (fun _ _ => True) (s0 := ()) trivial ?_ ?_).trans ?_
 ·intro _ i hi _
  simp only [aA1, dlt hi, if_true, al1 hi, Option.bind_some, strings_IndexByte, stringslite_IndexByte, aN5, br5, ck7, List.drop_eq_getElem_cons hi, a19]
  by_cases hc : stops.contains s[i] = true
  ·right; rw [if_pos hc, if_pos hc]; rfl
  ·left
   refine ⟨(), ?_, ?_, trivial⟩
   ·rw [if_neg hc, aa7 (by omega)]
   ·rw [if_neg hc]; omega
 ·intro _ _
  simp [aA1, a19]
 ·simp
theorem bB5 {s p : Str} : stringslite_HasPrefix s p = some (p.isPrefixOf s) := by
 unfold stringslite_HasPrefix
 by_cases h : p.length ≤ s.length
 ·have h1 : ((List.length p : Int) ≤ (List.length s : Int)) := by omega
  simp only [h1, decide_true, if_true, a74 h, Option.bind_some]
  congr 1
  rw [Bool.eq_iff_iff, decide_eq_true_eq, List.isPrefixOf_iff_prefix]
  rw [List.prefix_iff_eq_take]; exact eq_comm
 ·have h1 : ¬ ((List.length p : Int) ≤ (List.length s : Int)) := by omega
  simp only [h1, decide_false, Bool.false_eq_true, if_false, Option.bind_some]
  congr 1
  symm
  rw [Bool.eq_false_iff]
  intro e
  exact h (List.isPrefixOf_iff_prefix.1 e).length_le
def bl5 (c : UInt8) : Bool := (decide (97 ≤ (c.toNat : Int)) && decide ((c.toNat : Int) ≤ 122)) || ((decide (48 ≤ (c.toNat : Int)) && decide ((c.toNat : Int) ≤ 57)) || (decide ((c.toNat : Int) = 45) || decide ((c.toNat : Int) = 95)))
def bX9 (c : UInt8) : Bool := decide (97 ≤ (c.toNat : Int)) && decide ((c.toNat : Int) ≤ 122)
def bl6 (s : Str) : Bool := ([33] : Str).isPrefixOf s
def ce4 (s : Str) : Str := if bl6 s then s.drop 1 else s
def bQ0 (s : Str) : Bool := match s with
 | [] => false
 | c :: r => bX9 c && r.all bl5 && decide (s.length ≤ 32)
def bI8 (s : Str) : Bool := bQ0 (ce4 s)
theorem bV7 (c : UInt8) (h : bX9 c = true) : bl5 c = true := by
 unfold bX9 at h; unfold bl5; rw [h]; rfl
theorem bV8 {c : UInt8} {r : Str} : bQ0 (c :: r) = (bX9 c && (c :: r).all bl5 && decide ((c :: r).length ≤ 32)) := by
 show (bX9 c && r.all bl5 && decide _) = _
 cases h : bX9 c
 ·rfl
 ·rw [List.all_cons, bV7 c h]; rfl
theorem bQ1 (s : Str) : (ce4 s).length ≤ s.length := by
 unfold ce4; split <;> simp
theorem bw0 {s : Str} : strings_TrimPrefix s [33] = some (ce4 s) := by
 unfold strings_TrimPrefix stringslite_TrimPrefix
 rw [bB5 (s := s) (p := [33])]
 unfold ce4 bl6
 cases hp : ([33] : Str).isPrefixOf s with
 | false => simp
 | true =>
  have hl : 1 ≤ s.length := (List.isPrefixOf_iff_prefix.1 hp).length_le
  have := a77 (l := s) (a := 1) hl
  simp only [Option.bind_some, if_true]
  rw [show (List.length ([33] : Str) : Int) = ((1 : Nat) : Int) from rfl, this]; rfl
theorem bI9 {s : Str} (hs : s.length ≤ 1000000) : aQ7 s = some (bI8 s) := by
 unfold aQ7 bI8
 rw [bw0, Option.bind_some]
 have hl := bQ1 s
 generalize ce4 s = x at hl ⊢
 cases x with
 | nil => rfl
 | cons c r =>
  have hat : ai0 (c :: r) 0 = some c := rfl
  simp only [reduceCtorEq, decide_false, Bool.false_eq_true, if_false, hat, Option.bind_some, bV8]
  by_cases hlen : (32 : Int) < (List.length (c :: r) : Int)
  ·have : ¬ ((c :: r).length ≤ 32) := by omega
   simp only [hlen, decide_true, if_true, Option.bind_some, this, decide_false, Bool.and_false]
  ·have h32 : (c :: r).length ≤ 32 := by omega
   simp only [hlen, decide_false, Bool.false_eq_true, if_false, h32, decide_true, Bool.and_true]
   have hloop : aa9 (fun s => ao2 (c :: r) s) 0 = some ((c :: r).all bl5) := by
    refine (ab7 (c :: r).length (fun (_ : Unit) i => i) (fun v => ao2 (c :: r) v) (fun i _ => ((c :: r).drop i).all bl5) (fun _ _ => True) (s0 := ()) trivial ?_ ?_).trans rfl
    ·intro _ i hi _
     have key : ∀ c : UInt8, (bif (decide ((c.toNat : Int) < 97)) then (bif (decide ((c.toNat : Int) < 48)) then ((!decide ((c.toNat : Int) = 45)) && (!decide ((c.toNat : Int) = 95))) else ((decide (57 < (c.toNat : Int))) && ((!decide ((c.toNat : Int) = 45)) && (!decide ((c.toNat : Int) = 95))))) else ((decide (122 < (c.toNat : Int))) && (bif (decide ((c.toNat : Int) < 48)) then ((!decide ((c.toNat : Int) = 45)) && (!decide ((c.toNat : Int) = 95))) else ((decide (57 < (c.toNat : Int))) && ((!decide ((c.toNat : Int) = 45)) && (!decide ((c.toNat : Int) = 95))))))) = !bl5 c := aQ6 (by decide +kernel)
     simp only [ao2, dlt hi, if_true, al1 hi, Option.bind_some, List.drop_eq_getElem_cons hi, List.all_cons, key]
     cases hn : bl5 (c :: r)[i]
     ·right; simp
     ·left
      refine ⟨(), ?_, by simp, trivial⟩
      simp only [Bool.not_true, Bool.false_eq_true, if_false]
      rw [aa7 (by omega)]
    ·intro _ _
     simp [ao2]
   rw [hloop]
   have k1 : ∀ c : UInt8, bX9 c = (!decide ((c.toNat : Int) < 97) && !decide (122 < (c.toNat : Int))) := aQ6 (by decide +kernel)
   rw [k1]
   cases decide ((c.toNat : Int) < 97) <;> cases decide (122 < (c.toNat : Int)) <;> simp
theorem b42 {s : Str} : aL7 s = some (bl6 s) := by
 unfold aL7 bl6
 cases s with
 | nil => rfl
 | cons c r =>
  have h1 : (0 : Int) < (List.length (c :: r) : Int) := by simp only [List.length_cons]; omega
  have h2 : ai0 (c :: r) 0 = some c := rfl
  have h3 : decide ((c.toNat : Int) = 33) = decide (c = 33) := isC c 33
  simp only [h1, decide_true, if_true, h2, Option.bind_some, h3, List.isPrefixOf]
  have key : ∀ c : UInt8, decide (c = 33) = ((33 == c) && true) := aQ6 (by decide +kernel)
  rw [key]
theorem bV9 {s : Str} (hs : s.length ≤ 1000000) : aO2 s = some (bI8 s) := by
 have hk : aO2 s = aA7 (ce4 s) := by
  unfold aO2
  rw [b42, Option.bind_some]
  unfold ce4
  cases hp : bl6 s with
  | false => simp
  | true =>
   have hl : 1 ≤ s.length := (List.isPrefixOf_iff_prefix.1 hp).length_le
   have := a77 (l := s) (a := 1) hl
   simp only [if_true]
   rw [show (1 : Int) = ((1 : Nat) : Int) from rfl, this]; rfl
 rw [hk]
 unfold bI8
 have hl := bQ1 s
 generalize ce4 s = x at hl ⊢
 unfold aA7
 let tail (i : Nat) (x : Str) : Bool := match i with
  | 0 => bQ0 x
  | _ => (x.drop i).all bl5 && (decide (1 ≤ (List.length x : Int)) && decide ((List.length x : Int) ≤ 32))
 refine (ab7 x.length (fun (_ : Unit) i => i) (fun v => ax3 x v) (fun i _ => tail i x) (fun _ _ => True) (s0 := ()) trivial ?_ ?_).trans rfl
 ·intro _ i hi _
  have key : ∀ c : UInt8, ((if (decide (97 ≤ (c.toNat : Int))) then some (decide ((c.toNat : Int) ≤ 122)) else some false) : Option Bool) = some (bX9 c) := by
   intro c; unfold bX9; cases decide (97 ≤ (c.toNat : Int)) <;> rfl
  have key2 : ∀ c : UInt8, (if (decide (48 ≤ (c.toNat : Int))) then (if (decide ((c.toNat : Int) ≤ 57)) then some false else (if (decide ((c.toNat : Int) = 45)) then some false else some (!(decide ((c.toNat : Int) = 95))))) else (if (decide ((c.toNat : Int) = 45)) then some false else some (!(decide ((c.toNat : Int) = 95)))) : Option Bool) = some (!(decide (48 ≤ (c.toNat : Int)) && decide ((c.toNat : Int) ≤ 57) || (decide ((c.toNat : Int) = 45) || decide ((c.toNat : Int) = 95)))) := aQ6 (by decide +kernel)
  have key3 : ∀ c : UInt8, bl5 c = (bX9 c || ((decide (48 ≤ (c.toNat : Int)) && decide ((c.toNat : Int) ≤ 57)) || (decide ((c.toNat : Int) = 45) || decide ((c.toNat : Int) = 95)))) := fun c => rfl
  simp only [ax3, dlt hi, if_true, al1 hi, Option.bind_some, key]
  have hlen1 : (1 : Int) ≤ (List.length x : Int) := by omega
  cases i with
  | zero =>
   cases x with
   | nil => simp at hi
   | cons c r =>
    simp only [List.getElem_cons_zero, tail, bQ0]
    cases hlow : bX9 c with
    | false => right; simp
    | true =>
     left
     refine ⟨(), ?_, ?_, trivial⟩
     ·simp only [Bool.not_true, Bool.false_eq_true, if_false, Option.bind_some]
      rw [aa7 (by omega)]
     ·simp only [Bool.true_and, List.drop_succ_cons, List.drop_zero, hlen1, decide_true]
      congr 1
      rw [Bool.eq_iff_iff, decide_eq_true_eq, decide_eq_true_eq]; omega
  | succ i =>
   have h0 : decide (((i + 1 : Nat) : Int) = 0) = false := by simp; omega
   simp only [tail, List.drop_eq_getElem_cons hi, List.all_cons, h0, Bool.false_eq_true, if_false, key2]
   rw [key3]
   cases hlow : bX9 x[i + 1] with
   | true =>
    left
    refine ⟨(), ?_, by simp, trivial⟩
    simp only [Bool.not_true, Bool.false_eq_true, if_false, Option.bind_some]
    rw [aa7 (by omega)]
   | false =>
    simp only [Bool.not_false, if_true, Option.bind_some, Bool.false_or]
    generalize (decide (48 ≤ (x[i + 1].toNat : Int)) && decide ((x[i + 1].toNat : Int) ≤ 57) || (decide ((x[i + 1].toNat : Int) = 45) || decide ((x[i + 1].toNat : Int) = 95))) = q
    cases q with
    | false => right; simp
    | true =>
     left
     refine ⟨(), ?_, by simp, trivial⟩
     simp only [Bool.not_true, Bool.false_eq_true, if_false]
     rw [aa7 (by omega)]
 ·intro _ _
  simp only [ax3, dge, Bool.false_eq_true, if_false]
  cases x with
  | nil => rfl
  | cons c r => simp [tail]
def a86 (v : Str) : Bool := v.all fun c => !([0, 10, 13] : Str).contains c
theorem bB6 (stops s : Str) : decide ((a19 stops s : Int) < (List.length s : Int)) = !(s.all fun c => !stops.contains c) := by
 induction s with
 | nil => rfl
 | cons c r ih =>
  unfold a19
  by_cases hc : stops.contains c = true
  ·rw [if_pos hc]; simp only [List.all_cons, hc]; simp
  ·have hc' : stops.contains c = false := by simpa using hc
   rw [if_neg hc, List.all_cons, hc', Bool.not_false, Bool.true_and, ← ih]
   congr 1
   simp only [List.length_cons, eq_iff_iff]; omega
theorem bJ0 {v : Str} (hv : v.length ≤ 1000000) : aJ9 v = some (a86 v) := by
 unfold aJ9
 refine (ab7 v.length (fun (_ : Unit) i => i) (fun s => au3 v s) (fun i _ => a86 (v.drop i)) (fun _ _ => True) (s0 := ()) trivial ?_ ?_).trans rfl
 ·intro _ i hi _
  have key : ∀ c : UInt8, ((if (decide ((c.toNat : Int) = 0)) then some true else (if (decide ((c.toNat : Int) = 10)) then some true else some (decide ((c.toNat : Int) = 13)))) : Option Bool) = some (([0, 10, 13] : Str).contains c) := aQ6 (by decide +kernel)
  simp only [au3, dlt hi, if_true, al1 hi, Option.bind_some, key, a86, List.drop_eq_getElem_cons hi, List.all_cons]
  cases ([0, 10, 13] : Str).contains v[i] with
  | true => right; simp
  | false =>
   left
   refine ⟨(), ?_, by simp, trivial⟩
   simp only [Bool.false_eq_true, if_false]
   rw [aa7 (by omega)]
 ·intro _ _
  simp [au3, a86]
def aX0 (l : List aa5) (n : Str) : Bool := l.any fun b => decide (b.Name = n)
def chk (before : List aa5) (a : aa5) : Int :=
 if (32 : Int) ≤ (List.length before : Int) then 22 else if bI8 a.Name = false then 6 else if (a.Query && !decide (a.Value = [])) = true ∨ a86 a.Value = false then 2 else if (1024 : Int) < (List.length a.Value : Int) then 4 else if aX0 before a.Name = true then 7 else 0
def aU2 {α : Type} (p : α → Bool) : List α → Int
 | [] => -1
 | a :: r => if p a then 0 else if aU2 p r = -1 then -1 else aU2 p r + 1
theorem bJ1 {α : Type} (p : α → Bool) (l : List α) : -1 ≤ aU2 p l := by
 induction l with
 | nil => exact Int.le_refl _
 | cons a r ih => simp only [aU2]; split <;> (try split) <;> omega
theorem bQ2 {α : Type} (p : α → Bool) (l : List α) : 0 ≤ aU2 p l ↔ l.any p = true := by
 induction l with
 | nil => simp [aU2]
 | cons a r ih =>
  have := bJ1 p r
  rw [List.any_cons, Bool.or_eq_true, ← ih]
  simp only [aU2]
  by_cases hp : p a = true
  ·simp [hp]
  ·rw [if_neg hp]
   split
   ·rename_i h; rw [h]; simp [hp]
   ·simp only [hp, false_or]; omega
theorem aS2 {α : Type} (p : α → Bool) (l : List α) : decide (0 ≤ aU2 p l) = l.any p := by
 rw [Bool.eq_iff_iff, decide_eq_true_eq, bQ2]
theorem bw1 {α : Type} {p : α → Bool} {a : α} {r : List α} (h : p a = true) : aU2 p (a :: r) = 0 := by simp [aU2, h]
theorem a87 {α : Type} {p : α → Bool} {a : α} {r : List α} (h : ¬ p a = true) : aU2 p (a :: r) = if aU2 p r = -1 then -1 else aU2 p r + 1 := by simp [aU2, h]
theorem aw6 {α : Type} {p : α → Bool} {l : List α} {body : Int → Option (Step Int Int)} (hl : l.length ≤ 1000000)
  (hb : ∀ i (h : i < l.length), body (i : Int) = if p l[i] then some (.done (i : Int)) else some (.cont (IntKind.wrap .i64 ((i : Int) + 1)))) (he : body (l.length : Int) = some (.done (-1))) : aa9 body 0 = some (aU2 p l) := by
 refine (ab7 l.length (fun (_ : Unit) i => i) body (fun i _ => if aU2 p (l.drop i) = -1 then -1 else (i : Int) + aU2 p (l.drop i)) (fun _ _ => True) (s0 := ()) trivial ?_ ?_).trans ?_
 ·intro _ i hi _
  rw [hb i hi, List.drop_eq_getElem_cons hi]
  have := bJ1 p (l.drop (i + 1))
  by_cases hp : p l[i] = true
  ·right; rw [if_pos hp, bw1 hp]; simp
  ·left
   refine ⟨(), ?_, ?_, trivial⟩
   ·rw [if_neg hp, aa7 (by omega)]
   ·rw [a87 hp]
    by_cases h : aU2 p (l.drop (i + 1)) = -1
    ·simp [h]
    ·rw [if_neg h, if_neg (by omega), if_neg h]; omega
 ·intro _ _
  rw [he]; simp [aU2]
 ·simp only [List.drop_zero]
  congr 1
  split
  ·rename_i h; exact h.symm
  ·simp
theorem ce5 {before : List aa5} {a : aa5} (hb : before.length ≤ 1000000) (hn : a.Name.length ≤ 1000000) (hv : a.Value.length ≤ 1000000) : aZ5 before a = some (chk before a) := by
 unfold aZ5 chk
 have hix : ad8 before a = some (aU2 (fun b => decide (b.Name = a.Name)) before) := by
  unfold ad8
  refine aw6 hb ?_ ?_
  ·intro i hi
   simp only [ac8, dlt hi, if_true, aa6 hi, Option.bind_some, aW1]
  ·simp [ac8]
 have hc : ac9 before a = some (aX0 before a.Name) := by
  unfold ac9 aX0
  rw [hix, Option.bind_some, aS2]
 simp only [bI9 hn, Option.bind_some, bP9 hv, hc, bB6]
 by_cases h1 : (32 : Int) ≤ (List.length before : Int)
 ·simp [h1]
 ·simp only [h1, decide_false, Bool.false_eq_true, if_false]
  cases bI8 a.Name with
  | false => simp
  | true =>
   simp only [Bool.not_true, Bool.false_eq_true, if_false, Bool.true_eq_false]
   cases a.Query && !decide (a.Value = []) with
   | true => simp
   | false =>
    change (if (!a86 a.Value) = true then _ else _) = _
    cases a86 a.Value with
    | false => simp
    | true =>
     simp only [Bool.not_true, Bool.false_eq_true, if_false, Bool.true_eq_false, or_self]
     by_cases h4 : (1024 : Int) < (List.length a.Value : Int)
     ·simp [h4]
     ·simp only [h4, decide_false, Bool.false_eq_true, if_false]
      cases aX0 before a.Name <;> simp
theorem b43 {before : List aa5} {a : aa5} (hb : before.length ≤ 1000000) (hn : a.Name.length ≤ 1000000) (hv : a.Value.length ≤ 1000000) : a83 before a = some (chk before a) := by
 unfold a83 chk
 have hloop : aa9 (fun s => aw3 before a s) 0 = some (if aX0 before a.Name = true then (7 : Int) else 0) := by
  refine (ab7 before.length (fun (_ : Unit) i => i) (fun s => aw3 before a s) (fun i _ => if aX0 (before.drop i) a.Name = true then (7 : Int) else 0) (fun _ _ => True) (s0 := ()) trivial ?_ ?_).trans rfl
  ·intro _ i hi _
   simp only [aw3, dlt hi, if_true, aa6 hi, Option.bind_some, aX0, List.drop_eq_getElem_cons hi, List.any_cons]
   by_cases h : before[i].Name = a.Name
   ·right; simp [h]
   ·left
    refine ⟨(), ?_, by simp [h], trivial⟩
    simp only [h, decide_false, Bool.false_eq_true, if_false]
    rw [aa7 (by omega)]
  ·intro _ _
   simp [aw3, aX0]
 simp only [bV9 hn, Option.bind_some, bJ0 hv, hloop]
 by_cases h1 : (32 : Int) ≤ (List.length before : Int)
 ·simp [h1]
 ·simp only [h1, decide_false, Bool.false_eq_true, if_false]
  cases bI8 a.Name with
  | false => simp
  | true =>
   simp only [Bool.not_true, Bool.false_eq_true, if_false, Bool.true_eq_false]
   by_cases h4 : (1024 : Int) < (List.length a.Value : Int)
   ·cases a.Query <;> cases hd : decide (a.Value = []) <;> cases a86 a.Value <;> simp [h4]
   ·cases a.Query <;> cases hd : decide (a.Value = []) <;> cases a86 a.Value <;> simp [h4]
def okA (a : aa5) : Prop := a.Name.length ≤ 5000 ∧ a.Value.length ≤ 5000
def okL (l : List aa5) : Prop := l.length ≤ 5000 ∧ ∀ a ∈ l, okA a
def bB7 (before : List aa5) : List aa5 → Int
 | [] => 0
 | a :: r => if chk before a = 0 then bB7 (before ++ [a]) r else chk before a
def bJ2 (l : List aa5) : Int := bB7 [] l
theorem okL.get {l : List aa5} (h : okL l) {i : Nat} (hi : i < l.length) : okA l[i] := h.2 _ (List.getElem_mem hi)
theorem ce6 {l : List aa5} (h : okL l) : aZ6 l = some (bJ2 l) := by
 unfold aZ6
 refine (ab7 l.length (fun (_ : Unit) i => i) (fun s => aA2 l s) (fun i _ => bB7 (l.take i) (l.drop i)) (fun _ _ => True) (s0 := ()) trivial ?_ ?_).trans ?_
 ·intro _ i hi _
  have ha := h.get hi
  have h1 := h.1
  simp only [aA2, dlt hi, if_true, aa6 hi, Option.bind_some, a74 (Nat.le_of_lt hi), ce5 (before := l.take i) (a := l[i]) (by simp; omega) (by have := ha.1; omega) (by have := ha.2; omega), List.drop_eq_getElem_cons hi, bB7]
  by_cases hz : chk (l.take i) l[i] = 0
  ·left
   refine ⟨(), ?_, ?_, trivial⟩
   ·simp only [hz, decide_true, Bool.not_true, Bool.false_eq_true, if_false]
    rw [aa7 (by omega)]
   ·simp only [hz, if_true]
    rw [List.take_succ_eq_append_getElem hi]
  ·right; simp [hz]
 ·intro _ _
  simp [aA2, bB7]
 ·simp [bJ2]
theorem bJ3 {l : List aa5} (h : okL l) : aQ8 l = some (bJ2 l) := by
 unfold aQ8
 refine (ab7 l.length (fun (_ : Unit) i => i) (fun s => ax4 l s) (fun i _ => bB7 (l.take i) (l.drop i)) (fun _ _ => True) (s0 := ()) trivial ?_ ?_).trans ?_
 ·intro _ i hi _
  have ha := h.get hi
  have h1 := h.1
  simp only [ax4, dlt hi, if_true, aa6 hi, Option.bind_some, a74 (Nat.le_of_lt hi), b43 (before := l.take i) (a := l[i]) (by simp; omega) (by have := ha.1; omega) (by have := ha.2; omega), List.drop_eq_getElem_cons hi, bB7]
  by_cases hz : chk (l.take i) l[i] = 0
  ·left
   refine ⟨(), ?_, ?_, trivial⟩
   ·simp only [hz, decide_true, Bool.not_true, Bool.false_eq_true, if_false]
    rw [aa7 (by omega)]
   ·simp only [hz, if_true]
    rw [List.take_succ_eq_append_getElem hi]
  ·right; simp [hz]
 ·intro _ _
  simp [ax4, bB7]
 ·simp [bJ2]
def dbl (s : Str) : Str := s.flatMap fun c => if c = 39 then [39, 39] else [c]
def oddB (s : Str) : Bool := decide (s = []) || s.any fun c => ([32, 9, 39] : Str).contains c
def aX1 (s : Str) : Str := if oddB s then [39] ++ dbl s ++ [39] else s
theorem b44 (s : Str) : (dbl s).length ≤ 2 * s.length := by
 induction s with
 | nil => exact Nat.le_refl _
 | cons c r ih =>
  unfold dbl at ih ⊢
  rw [List.flatMap_cons, List.length_append, List.length_cons]
  split <;> simp only [List.length_cons, List.length_nil] <;> omega
theorem bb1 (s : Str) : (aX1 s).length ≤ 2 * s.length + 2 := by
 have := b44 s
 unfold aX1
 split <;> simp <;> omega
theorem bw2 {c : UInt8} (hc : c ≠ 39) (k : Nat) (s : Str) (hk : k ≤ Go.Lib.count s [39]) : Go.Lib.replaceK [39] [39, 39] k (c :: s) = c :: Go.Lib.replaceK [39] [39, 39] k s := by
 cases k with
 | zero => rfl
 | succ k =>
  obtain ⟨i, hi⟩ := Go.Lib.index_of_count (s := s) (old := [39]) (by omega)
  have hi' : Go.Lib.index (c :: s) [39] = ((i + 1 : Nat) : Int) := by
   have hp : ([39] : Str).isPrefixOf (c :: s) = false := by simp [List.isPrefixOf, Ne.symm hc]
   rw [Go.Lib.index, hp, hi]
   have : ((i : Int) == -1) = false := by rw [beq_eq_false_iff_ne]; omega
   simp [this]
  rw [Go.Lib.replaceK_hit _ _ _ _ _ hi, Go.Lib.replaceK_hit _ _ _ _ _ hi']
  simp [Nat.add_right_comm]
theorem bJ4 (s : Str) : Go.Lib.replaceK [39] [39, 39] (Go.Lib.count s [39]) s = dbl s := by
 induction s with
 | nil => rw [Go.Lib.count_one]; rfl
 | cons c r ih =>
  by_cases hc : c = 39
  ·subst hc
   have hi : Go.Lib.index (39 :: r) [39] = ((0 : Nat) : Int) := by rw [Go.Lib.index]; simp [List.isPrefixOf]
   rw [Go.Lib.count_cons_eq, Nat.add_comm 1, Go.Lib.replaceK_hit _ _ _ _ _ hi]
   simp only [List.take_zero, List.nil_append, Nat.zero_add, List.length_cons, List.length_nil, List.drop_succ_cons, List.drop_zero, ih]
   unfold dbl
   rw [List.flatMap_cons, if_pos rfl]
  ·rw [Go.Lib.count_cons_ne _ _ _ hc, bw2 hc _ _ (Nat.le_refl _), ih]
   unfold dbl
   rw [List.flatMap_cons, if_neg hc]; rfl
theorem bw3 {s : Str} (hs : s.length ≤ 1000000) : strings_ReplaceAll s [39] [39, 39] = some (dbl s) := by
 have hc : Go.Lib.count s [39] ≤ s.length := by rw [Go.Lib.count_one]; exact List.count_le_length
 unfold strings_ReplaceAll aQ5
 rw [if_pos ⟨by omega, by simp, by simp; omega⟩]
 unfold Go.Lib.replaceAll Go.Lib.replace
 rw [if_neg (by decide)]
 have : Go.Lib.replaceNum s [39] (-1) = Go.Lib.count s [39] := by unfold Go.Lib.replaceNum; rw [if_pos (Or.inl (by omega))]
 rw [this, bJ4]
theorem ce7 {s : Str} (hs : s.length ≤ 1000000) : aZ7 s = some (aX1 s) := by
 unfold aZ7
 have hd := b44 s
 have c1 : ay8 [39] (dbl s) = some ([39] ++ dbl s) := ae0 (by simp; omega)
 have c2 : ay8 ([39] ++ dbl s) [39] = some ([39] ++ dbl s ++ [39]) := ae0 (by simp; omega)
 have hu := b41 [32, 9, 39] s
 have ha := bB6 [32, 9, 39] s
 have hany : (s.any fun c => ([32, 9, 39] : Str).contains c) = !(s.all fun c => !([32, 9, 39] : Str).contains c) := by
  rw [List.any_eq_not_all_not]
 have hdd : decide ((a19 [32, 9, 39] s : Int) = (List.length s : Int)) = (s.all fun c => !([32, 9, 39] : Str).contains c) := by
  cases h : s.all fun c => !([32, 9, 39] : Str).contains c with
  | true => rw [h] at ha; simp only [Bool.not_true, decide_eq_false_iff_not] at ha; simp; omega
  | false => rw [h] at ha; simp only [Bool.not_false, decide_eq_true_eq] at ha; simp; omega
 simp only [bP9 hs, Option.bind_some, bw3 hs, c1, c2, hdd]
 unfold aX1 oddB
 rw [hany]
 cases h : s.all fun c => !([32, 9, 39] : Str).contains c <;> cases hn : decide (s = []) <;> simp
theorem bJ5 {s : Str} (hs : s.length ≤ 1000000) : aQ9 s = some (aX1 s) := by
 unfold aQ9
 refine (ab7 (τ := Str × Bool × Int) s.length (fun (x : Str × Bool) i => (x.1, x.2, i)) (fun x => au4 s x.1 x.2.1 x.2.2)
  (fun i x => if x.2 || (s.drop i).any (fun c => ([32, 9, 39] : Str).contains c) then [39] ++ (x.1 ++ dbl (s.drop i)) ++ [39] else s) (fun i x => x.1.length ≤ 2 * i) (s0 := ([], decide (s = []))) (by simp) ?_ ?_).trans ?_
 ·rintro ⟨out, odd⟩ i hi hv
  simp only at hv
  left
  have key : ∀ c : UInt8, ((if (decide ((c.toNat : Int) = 32)) then some true else (if (decide ((c.toNat : Int) = 9)) then some true else some (decide (c = 39)))) : Option Bool) = some (([32, 9, 39] : Str).contains c) := aQ6 (by decide +kernel)
  have hw : IntKind.wrap .i64 ((i : Int) + 1) = (i : Int) + 1 := aa7 (by omega)
  have c1 : ay8 out [s[i]] = some (out ++ [s[i]]) := ae0 (by simp; omega)
  have c2 : ay8 (out ++ [s[i]]) [39] = some (out ++ [s[i]] ++ [39]) := ae0 (by simp; omega)
  have h39 : decide ((s[i].toNat : Int) = 39) = decide (s[i] = 39) := isC s[i] 39
  have hor : ((if odd = true then some true else some (([32, 9, 39] : Str).contains s[i])) : Option Bool) = some (odd || ([32, 9, 39] : Str).contains s[i]) := by cases odd <;> rfl
  refine ⟨(if s[i] = 39 then out ++ [s[i]] ++ [39] else out ++ [s[i]], odd || ([32, 9, 39] : Str).contains s[i]), ?_, ?_, ?_⟩
  ·simp only [au4, dlt hi, if_true, al1 hi, Option.bind_some, key, hor, hw, cq0 hi, c1, c2, h39]
   by_cases h : s[i] = 39
   ·simp only [h, decide_true, if_true]
   ·simp only [h, decide_false, Bool.false_eq_true, if_false]
  ·simp only [List.drop_eq_getElem_cons hi, List.any_cons, Bool.or_assoc]
   have : dbl (s[i] :: s.drop (i + 1)) = (if s[i] = 39 then [39, 39] else [s[i]]) ++ dbl (s.drop (i + 1)) := by unfold dbl; rw [List.flatMap_cons]
   rw [this]
   by_cases h : s[i] = 39
   ·simp only [h, if_true]; simp
   ·simp only [h, if_false]; simp
  ·simp only
   split <;> simp <;> omega
 ·rintro ⟨out, odd⟩ hv
  simp only at hv
  have c1 : ay8 [39] out = some ([39] ++ out) := ae0 (by simp; omega)
  have c2 : ay8 ([39] ++ out) [39] = some ([39] ++ out ++ [39]) := ae0 (by simp; omega)
  simp only [au4, dge, Bool.false_eq_true, if_false, aK0, c1, c2, Option.bind_some, List.drop_length]
  cases odd <;> simp [dbl]
 ·simp [aX1, oddB]
def bw4 (a : aa5) : Str := if a.Query then a.Name ++ [63] else a.Name ++ [61] ++ aX1 a.Value
theorem ce8 {a : aa5} (h : okA a) : (bw4 a).length ≤ 15003 := by
 have := bb1 a.Value
 have h1 := h.1
 have h2 := h.2
 unfold bw4
 split <;> simp <;> omega
def aB6 (l : List aa5) : Str := Go.Lib.join (l.map bw4) [32]
theorem b45 (xs : List Str) (x sep : Str) : Go.Lib.join (xs ++ [x]) sep = if xs = [] then x else Go.Lib.join xs sep ++ sep ++ x := by
 cases xs with
 | nil => simp [Go.Lib.join_one]
 | cons y r =>
  rw [List.cons_append, Go.Lib.join_cons, Go.Lib.join_cons, if_neg (by simp)]
  simp [Go.Lib.joinTail]
theorem ce9 {K : Nat} {sep : Str} : ∀ {l : List Str}, (∀ x ∈ l, x.length ≤ K) → (Go.Lib.join l sep).length ≤ l.length * (K + sep.length)
 | [], _ => by simp [Go.Lib.join_nil]
 | x :: r, h => by
  rw [Go.Lib.join_cons, List.length_append]
  have hx := h x (by simp)
  have : ∀ r : List Str, (∀ y ∈ r, y.length ≤ K) → (Go.Lib.joinTail sep r).length ≤ r.length * (K + sep.length) := by
   intro r
   induction r with
   | nil => intro _; simp [Go.Lib.joinTail]
   | cons y r ih =>
    intro h
    have h1 := ih fun z hz => h z (List.mem_cons_of_mem _ hz)
    have h2 := h y (by simp)
    unfold Go.Lib.joinTail at h1 ⊢
    rw [List.map_cons, List.flatten_cons, List.length_append, List.length_append, List.length_cons, Nat.add_mul, Nat.one_mul]
    omega
  have := this r fun z hz => h z (List.mem_cons_of_mem _ hz)
  rw [List.length_cons, Nat.add_mul, Nat.one_mul]
  omega
theorem bl7 {l : List aa5} (h : okL l) (i : Nat) : (Go.Lib.join ((l.take i).map bw4) [32]).length ≤ 75020000 := by
 have h1 := ce9 (K := 15003) (sep := [32]) (l := (l.take i).map bw4) (by
  intro x hx
  obtain ⟨a, ha, rfl⟩ := List.mem_map.1 hx
  exact ce8 (h.2 a (List.mem_of_mem_take ha)))
 have h2 := h.1
 simp only [List.length_map, List.length_take, List.length_cons, List.length_nil] at h1
 have : min i l.length * (15003 + (0 + 1)) ≤ 5000 * 15004 := Nat.mul_le_mul (by omega) (by omega)
 omega
theorem cf0 {l : List aa5} (h : okL l) : aZ8 l = some (if bJ2 l = 0 then (aB6 l, 0) else ([], bJ2 l)) := by
 unfold aZ8
 rw [ce6 h, Option.bind_some]
 by_cases hz : bJ2 l = 0
 ·have hl := h.1
  have hmk : mkC 16 ([] : Str) 0 (List.length l : Int) = some [] := by
   unfold mkC
   rw [if_pos ⟨by omega, by omega, by omega, by omega⟩]; rfl
  simp only [hz, decide_true, Bool.not_true, Bool.false_eq_true, if_false, if_true, hmk, Option.bind_some]
  refine (ab7 (τ := Int × List Str) l.length (fun (x : List Str) i => (i, x)) (fun x => ax1 l x.1 x.2) (fun i _ => (aB6 l, 0)) (fun i x => x = (l.take i).map bw4) (s0 := []) (by simp) ?_ ?_).trans rfl
  ·rintro x i hi rfl
   left
   have ha := h.get hi
   have h1 := ha.1
   have h2 := ha.2
   have hw : IntKind.wrap .i64 ((i : Int) + 1) = (i : Int) + 1 := aa7 (by omega)
   have hq := bb1 l[i].Value
   have c1 : ay8 l[i].Name [63] = some (l[i].Name ++ [63]) := ae0 (by simp; omega)
   have c2 : ay8 l[i].Name [61] = some (l[i].Name ++ [61]) := ae0 (by simp; omega)
   have c3 : ay8 (l[i].Name ++ [61]) (aX1 l[i].Value) = some (l[i].Name ++ [61] ++ aX1 l[i].Value) := ae0 (by simp; omega)
   have ap : ∀ y : Str, as5 16 ((l.take i).map bw4) [y] = some ((l.take i).map bw4 ++ [y]) := fun y => ab3 (by simp; omega) (by simp; omega)
   refine ⟨(l.take (i + 1)).map bw4, ?_, rfl, rfl⟩
   simp only [ax1, dlt hi, if_true, aa6 hi, Option.bind_some, c1, c2, ce7 (s := l[i].Value) (by omega), c3, ap, hw]
   rw [List.take_succ_eq_append_getElem hi, List.map_append, List.map_cons, List.map_nil]
   unfold bw4
   cases l[i].Query <;> simp
  ·rintro x rfl
   have hj : strings_Join (l.map bw4) [32] = some (aB6 l) := by
    unfold strings_Join aB6
    have := bl7 h l.length
    rw [List.take_length] at this
    exact bI4 (by simp; omega) (by omega)
   simp only [ax1, dge, Bool.false_eq_true, if_false, aM7, List.take_length, hj, Option.bind_some, Option.map_some]
 ·simp [hz]
theorem bJ6 {l : List aa5} (h : okL l) : aR0 l = some (if bJ2 l = 0 then (aB6 l, 0) else ([], bJ2 l)) := by
 unfold aR0
 rw [bJ3 h, Option.bind_some]
 by_cases hz : bJ2 l = 0
 ·have hl := h.1
  simp only [hz, decide_true, Bool.not_true, Bool.false_eq_true, if_false, if_true]
  refine (ab7 (τ := Str × Int) l.length (fun (x : Str) i => (x, i)) (fun x => au6 l x.1 x.2) (fun i _ => (aB6 l, 0)) (fun i x => x = Go.Lib.join ((l.take i).map bw4) [32]) (s0 := []) (by simp [Go.Lib.join_nil]) ?_ ?_).trans rfl
  ·rintro x i hi rfl
   left
   have ha := h.get hi
   have h1 := ha.1
   have h2 := ha.2
   have hw : IntKind.wrap .i64 ((i : Int) + 1) = (i : Int) + 1 := aa7 (by omega)
   have hq := bb1 l[i].Value
   have hlen := bl7 h i
   refine ⟨Go.Lib.join ((l.take (i + 1)).map bw4) [32], ?_, rfl, rfl⟩
   generalize hp : Go.Lib.join ((l.take i).map bw4) [32] = p at hlen
   have hk : ∀ q : Str, q.length ≤ 75020001 → au5 l i q = some (.cont (q ++ bw4 l[i], (i : Int) + 1)) := by
    intro q hq2
    have c1 : ay8 q l[i].Name = some (q ++ l[i].Name) := ae0 (by omega)
    have c2 : ay8 (q ++ l[i].Name) [63] = some (q ++ l[i].Name ++ [63]) := ae0 (by simp; omega)
    have c3 : ay8 (q ++ l[i].Name) [61] = some (q ++ l[i].Name ++ [61]) := ae0 (by simp; omega)
    have c4 : ay8 (q ++ l[i].Name ++ [61]) (aX1 l[i].Value) = some (q ++ l[i].Name ++ [61] ++ aX1 l[i].Value) := ae0 (by simp; omega)
    simp only [au5, aa6 hi, Option.bind_some, c1, c2, c3, bJ5 (s := l[i].Value) (by omega), c4, hw]
    unfold bw4
    cases l[i].Query <;> simp
   have hsn : Go.Lib.join ((l.take (i + 1)).map bw4) [32] = if i = 0 then bw4 l[i] else p ++ [32] ++ bw4 l[i] := by
    rw [List.take_succ_eq_append_getElem hi, List.map_append, List.map_cons, List.map_nil, b45, hp]
    by_cases h0 : i = 0
    ·subst h0; simp
    ·rw [if_neg, if_neg h0]
     simp only [List.map_eq_nil_iff, List.take_eq_nil_iff, not_or]
     exact ⟨h0, by intro e; rw [e] at hi; simp at hi⟩
   have c5 : ay8 p [32] = some (p ++ [32]) := ae0 (by simp; omega)
   simp only [au6, dlt hi, if_true]
   rw [hsn]
   by_cases h0 : i = 0
   ·have hp0 : p = [] := by rw [← hp, h0]; simp [Go.Lib.join_nil]
    rw [hk p (by omega), hp0]
    simp [h0]
   ·have : (0 : Int) < (i : Int) := by omega
    simp only [this, decide_true, if_true, c5, Option.bind_some, h0, if_false]
    rw [hk _ (by simp; omega)]
  ·rintro x rfl
   simp only [au6, dge, Bool.false_eq_true, if_false, List.take_length]
   rfl
 ·simp [hz]
def cy5 (c : UInt8) : Bool := decide ((c.toNat : Int) = 32) || decide ((c.toNat : Int) = 9)
def endsB (s : Str) : Bool := match s with
 | [] => true
 | c :: _ => cy5 c
def bad (e : Int) : aa5 × Nat × Int := (⟨[], [], false⟩, 0, e)
def fin (s : Str) (a : aa5) (n : Nat) : aa5 × Nat × Int := if endsB (s.drop n) then (a, n, 0) else bad 2
def agree (x : aa5 × Int × Int) (at_ : Nat) (o : aa5 × Nat × Int) : Prop := x.2.2 = o.2.2 ∧ (o.2.2 = 0 → x.1 = o.1 ∧ x.2.1 = ((at_ + o.2.1 : Nat) : Int))
def bf1 (name : Str) (a : aa5) : Bool := !a.Query && decide (a.Name = name)
def at0 (name : Str) : List aa5 → Str × Bool
 | [] => ([], false)
 | a :: r => if bf1 name a then (a.Value, true) else at0 name r
theorem bB8 {α : Type} (p : α → Bool) (l : List α) : (aU2 p l = -1 ∧ ∀ a ∈ l, p a = false) ∨ ∃ i, ∃ h : i < l.length, aU2 p l = (i : Int) ∧ p l[i] = true ∧ ∀ a ∈ l.take i, p a = false := by
 induction l with
 | nil => left; exact ⟨rfl, by simp⟩
 | cons a r ih =>
  by_cases hp : p a = true
  ·right; exact ⟨0, by simp, bw1 hp, hp, by simp⟩
  ·have hp' := Bool.eq_false_iff.2 hp
   rcases ih with ⟨h1, h2⟩ | ⟨i, h, h1, h2, h3⟩
   ·left
    refine ⟨by rw [a87 hp, if_pos h1], ?_⟩
    intro x hx
    rcases List.mem_cons.1 hx with rfl | hx
    ·exact hp'
    ·exact h2 x hx
   ·right
    refine ⟨i + 1, by simpa using h, ?_, by simpa using h2, ?_⟩
    ·rw [a87 hp, h1, if_neg (by omega)]; omega
    ·intro x hx
     rw [List.take_succ_cons] at hx
     rcases List.mem_cons.1 hx with rfl | hx
     ·exact hp'
     ·exact h3 x hx
theorem bB9 {name : Str} {a : aa5} {r : List aa5} (h : bf1 name a = true) : at0 name (a :: r) = (a.Value, true) := by simp [at0, h]
theorem br8 {name : Str} {a : aa5} {r : List aa5} (h : ¬ bf1 name a = true) : at0 name (a :: r) = at0 name r := by simp [at0, h]
theorem bW0 {name : Str} {l : List aa5} (h : ∀ a ∈ l, bf1 name a = false) : at0 name l = ([], false) := by
 induction l with
 | nil => rfl
 | cons a r ih => rw [at0, h a (by simp), if_neg (by simp)]; exact ih fun x hx => h x (List.mem_cons_of_mem _ hx)
theorem bQ3 {name : Str} : ∀ {l : List aa5} {i : Nat} (h : i < l.length), bf1 name l[i] = true → (∀ a ∈ l.take i, bf1 name a = false) → at0 name l = (l[i].Value, true)
 | [], _, h, _, _ => by simp at h
 | a :: r, 0, _, h1, _ => by
  simp only [List.getElem_cons_zero] at h1 ⊢
  rw [at0, if_pos h1]
 | a :: r, i + 1, h, h1, h2 => by
  rw [at0, h2 a (by simp), if_neg (by simp)]
  exact bQ3 (i := i) (by simpa using h) (by simpa using h1) fun x hx => h2 x (by rw [List.take_succ_cons]; exact List.mem_cons_of_mem _ hx)
theorem cf1 {l : List aa5} {name : Str} (hl : l.length ≤ 1000000) : aZ3 l name = some (aU2 (bf1 name) l) := by
 unfold aZ3
 rw [bb0]
 unfold ag1
 refine aw6 hl ?_ ?_
 ·intro i hi
  simp only [ac6, dlt hi, if_true, aa6 hi, Option.bind_some, aV9]
  rfl
 ·simp [ac6]
theorem b46 {l : List aa5} {name : Str} (hl : l.length ≤ 1000000) : aW0 l name = some (at0 name l) := by
 unfold aW0
 rw [cf1 hl, Option.bind_some]
 rcases bB8 (bf1 name) l with ⟨h1, h2⟩ | ⟨i, h, h1, h2, h3⟩
 ·rw [h1, bW0 h2]; rfl
 ·have : ¬ ((i : Int) < 0) := by omega
  rw [h1, bQ3 h h2 h3]
  simp only [this, decide_false, Bool.false_eq_true, if_false, aa6 h, Option.bind_some]
theorem br9 {l : List aa5} {name : Str} (hl : l.length ≤ 1000000) : aO5 l name = some (at0 name l) := by
 unfold aO5
 refine (ab7 l.length (fun (_ : Unit) i => i) (fun s => aw4 l name s) (fun i _ => at0 name (l.drop i)) (fun _ _ => True) (s0 := ()) trivial ?_ ?_).trans rfl
 ·intro _ i hi _
  have hbody : aw4 l name (i : Int) = if bf1 name l[i] then some (.done (l[i].Value, true)) else some (.cont ((i : Int) + 1)) := by
   simp only [aw4, dlt hi, if_true, aa6 hi, Option.bind_some]
   rw [aa7 (by omega), show bf1 name l[i] = (!l[i].Query && decide (l[i].Name = name)) from rfl]
   by_cases h : l[i].Name = name <;> cases hq : l[i].Query <;> simp [h]
  rw [hbody, List.drop_eq_getElem_cons hi]
  by_cases hf : bf1 name l[i] = true
  ·right; rw [if_pos hf, bB9 hf]
  ·left; rw [if_neg hf, br8 hf]; exact ⟨(), rfl, rfl, trivial⟩
 ·intro _ _
  simp [aw4, at0]
theorem cf2 {α : Type} {p : α → Bool} {l : List α} {body : Int × Int × List α → Option (Step (Int × Int × List α) (List α))} (hl : l.length ≤ 1000000)
  (hb : ∀ (i j : Nat) (s : List α) (hi : i < s.length) (hj : j < s.length), body ((i : Int), (j : Int), s) = if !p s[j] then some (.cont (IntKind.wrap .i64 ((i : Int) + 1), IntKind.wrap .i64 ((j : Int) + 1), s.set i s[j])) else some (.cont ((i : Int), IntKind.wrap .i64 ((j : Int) + 1), s)))
  (he : ∀ (i : Nat) (s : List α), i ≤ s.length → body ((i : Int), (s.length : Int), s) = some (.done (s.take i))) {i0 : Nat} (h0 : i0 < l.length) (hp0 : p l[i0] = true) (hbef : ∀ a ∈ l.take i0, p a = false) :
  aa9 body ((i0 : Int), IntKind.wrap .i64 ((i0 : Int) + 1), l) = some (l.filter fun a => !p a) := by
 have hw0 : IntKind.wrap .i64 ((i0 : Int) + 1) = ((i0 + 1 : Nat) : Int) := by rw [ag0 (by omega) (by omega)]; omega
 rw [hw0]
 have hf0 : (l.take (i0 + 1)).filter (fun a => !p a) = l.take i0 := by
  rw [List.take_succ_eq_append_getElem h0, List.filter_append, List.filter_eq_self.2 (fun a ha => by simp [hbef a ha])]
  simp [hp0]
 refine (br4 (σ := Nat × Nat × List α) body (fun x => ((x.1 : Int), (x.2.1 : Int), x.2.2)) (fun _ => l.filter fun a => !p a) (fun x => l.length - x.2.1)
  (fun x => x.1 < x.2.1 ∧ x.2.1 ≤ l.length ∧ x.2.2.length = l.length ∧ x.2.2.take x.1 = (l.take x.2.1).filter (fun a => !p a) ∧ x.2.2.drop x.2.1 = l.drop x.2.1) ?_ (s0 := (i0, i0 + 1, l)) ⟨by simp, by simp only; omega, rfl, by simp only; exact hf0.symm, rfl⟩).trans rfl
 rintro ⟨i, j, s⟩ ⟨h1, h2, h3, h4, h5⟩
 simp only at h1 h2 h3 h4 h5
 rcases Nat.lt_or_ge j l.length with hj | hj
 ·left
  have hjs : j < s.length := by omega
  have hwi : IntKind.wrap .i64 ((i : Int) + 1) = ((i + 1 : Nat) : Int) := by rw [ag0 (by omega) (by omega)]; omega
  have hwj : IntKind.wrap .i64 ((j : Int) + 1) = ((j + 1 : Nat) : Int) := by rw [ag0 (by omega) (by omega)]; omega
  have hsj : s[j] = l[j] := by
   rw [List.drop_eq_getElem_cons hjs, List.drop_eq_getElem_cons hj] at h5
   exact (List.cons.inj h5).1
  have h5' : s.drop (j + 1) = l.drop (j + 1) := by
   rw [List.drop_eq_getElem_cons hjs, List.drop_eq_getElem_cons hj] at h5
   exact (List.cons.inj h5).2
  simp only
  rw [hb i j s (by omega) hjs]
  cases hp : p s[j] with
  | true =>
   refine ⟨(i, j + 1, s), ?_, by trivial, ⟨by simp only; omega, by simp only; omega, h3, ?_, h5'⟩, by simp only; omega⟩
   ·simp only [Bool.not_true, Bool.false_eq_true, if_false, hwj]
   ·simp only
    rw [h4, List.take_succ_eq_append_getElem hj, List.filter_append]
    simp [← hsj, hp]
  | false =>
   refine ⟨(i + 1, j + 1, s.set i s[j]), ?_, by trivial, ⟨by simp only; omega, by simp only; omega, by simp [h3], ?_, ?_⟩, by simp only; omega⟩
   ·simp only [Bool.not_false, if_true, hwi, hwj]
   ·simp only
    rw [List.take_succ_eq_append_getElem (by simp; omega), List.getElem_set_self, List.take_set_of_le (Nat.le_refl _), h4, List.take_succ_eq_append_getElem hj, List.filter_append]
    simp [← hsj, hp]
   ·simp only
    rw [List.drop_set_of_lt (by omega)]; exact h5'
 ·right
  have : j = s.length := by omega
  subst this
  simp only
  rw [he i s (by omega), h4, List.take_of_length_le hj]
theorem cy6 (l : List UInt8) (c : UInt8) : decide (Go.Lib.indexByte l c < 0) = !l.contains c := by
 rw [← ck7, Bool.eq_iff_iff]
 simp
theorem bC0 (l : Str) (c : UInt8) : strings_IndexByte l (c.toNat : Int) = some (Go.Lib.indexByte l c) := by
 unfold strings_IndexByte stringslite_IndexByte aN5
 rw [br5]; rfl
def dC (more : Str) (c : UInt8) : Bool := ((decide (97 ≤ (c.toNat : Int)) && decide ((c.toNat : Int) ≤ 122)) || (decide (48 ≤ (c.toNat : Int)) && decide ((c.toNat : Int) ≤ 57))) || more.contains c
def an1 (s more : Str) (most : Nat) : Bool := !decide (s = []) && (decide (s.length ≤ most) && s.all (dC more))
theorem bJ7 {s more : Str} {most : Nat} (hm : most ≤ 1000000) : aN7 s (most : Int) more = some (an1 s more most) := by
 unfold aN7 an1
 by_cases h0 : s = []
 ·simp [h0]
 by_cases h1 : s.length ≤ most
 ·have h2 : ¬ ((most : Int) < (List.length s : Int)) := by omega
  simp only [h0, h2, decide_false, Bool.or_self, Bool.false_eq_true, if_false, h1, decide_true, Bool.not_false, Bool.true_and]
  refine (ab7 s.length (fun (_ : Unit) i => i) (fun v => az7 s more v) (fun i _ => (s.drop i).all (dC more)) (fun _ _ => True) (s0 := ()) trivial ?_ ?_).trans rfl
  ·intro _ i hi _
   have key : ∀ (b : Bool) (c : UInt8), ((if (decide ((c.toNat : Int) < 97)) then (if (decide ((c.toNat : Int) < 48)) then some (!b) else (if (decide (57 < (c.toNat : Int))) then some (!b) else some false)) else (if (decide (122 < (c.toNat : Int))) then (if (decide ((c.toNat : Int) < 48)) then some (!b) else (if (decide (57 < (c.toNat : Int))) then some (!b) else some false)) else some false)) : Option Bool)
     = some (!(((decide (97 ≤ (c.toNat : Int)) && decide ((c.toNat : Int) ≤ 122)) || (decide (48 ≤ (c.toNat : Int)) && decide ((c.toNat : Int) ≤ 57))) || b)) := by
    intro b
    cases b
    ·exact aQ6 (by decide +kernel)
    ·exact aQ6 (by decide +kernel)
   simp only [az7, dlt hi, if_true, al1 hi, Option.bind_some, bC0, cy6, key, List.drop_eq_getElem_cons hi, List.all_cons]
   change (∃ s', (if (!dC more s[i]) = true then _ else _) = _ ∧ _ ∧ _) ∨ (if (!dC more s[i]) = true then _ else _) = _
   cases dC more s[i] with
   | false => right; simp
   | true =>
    left
    refine ⟨(), ?_, by simp, trivial⟩
    simp only [Bool.not_true, Bool.false_eq_true, if_false]
    rw [aa7 (by omega)]
  ·intro _ _
   simp [az7]
 ·have h2 : ((most : Int) < (List.length s : Int)) := by omega
  simp [h0, h1, h2]
theorem bw5 {s more : Str} {i : Nat} (hi : i < s.length) (hl : s.length ≤ 1000000) (hm : more.length ≤ 1000000) (ok : Bool) :
  aa9 (fun x => aj8 s more (i : Int) x.1 x.2) (ok, 0) = some (if (ok || more.contains s[i]) = true then Step.cont ((i : Int) + 1) else Step.done false) := by
 refine (ab7 (τ := Bool × Int) more.length (fun (x : Bool) k => (x, k)) (fun x => aj8 s more (i : Int) x.1 x.2) (fun k x => if (x || (more.drop k).contains s[i]) = true then Step.cont ((i : Int) + 1) else Step.done false) (fun _ _ => True) (s0 := ok) trivial ?_ ?_).trans (by simp)
 ·intro x k hk _
  left
  refine ⟨x || decide (s[i] = more[k]), ?_, ?_, trivial⟩
  ·simp only [aj8, dlt hk, if_true, al1 hi, al1 hk, Option.bind_some, isC]
   rw [aa7 (by omega)]
   cases x <;> rfl
  ·simp only [List.drop_eq_getElem_cons hk, List.contains_cons]
   have : (s[i] == more[k]) = decide (s[i] = more[k]) := by rw [Bool.eq_iff_iff]; simp
   rw [this, Bool.or_assoc]
 ·intro x _
  simp only [aj8, dge, Bool.false_eq_true, if_false, aC4, List.drop_length]
  rw [aa7 (by omega)]
  cases x <;> simp
theorem bb2 {s more : Str} {most : Nat} (hs : s.length ≤ 1000000) (hm : more.length ≤ 1000000) : aq9 s more (most : Int) = some (an1 s more most) := by
 unfold aq9
 refine (ab7 s.length (fun (_ : Unit) i => i) (fun v => ao5 s more (most : Int) v) (fun i _ => (s.drop i).all (dC more) && (!decide (s = []) && decide (s.length ≤ most))) (fun _ _ => True) (s0 := ()) trivial ?_ ?_).trans ?_
 ·intro _ i hi _
  have key : ∀ c : UInt8, ((if (decide (97 ≤ (c.toNat : Int))) then (if (decide ((c.toNat : Int) ≤ 122)) then some true else (if (decide (48 ≤ (c.toNat : Int))) then some (decide ((c.toNat : Int) ≤ 57)) else some false)) else (if (decide (48 ≤ (c.toNat : Int))) then some (decide ((c.toNat : Int) ≤ 57)) else some false)) : Option Bool)
    = some ((decide (97 ≤ (c.toNat : Int)) && decide ((c.toNat : Int) ≤ 122)) || (decide (48 ≤ (c.toNat : Int)) && decide ((c.toNat : Int) ≤ 57))) := aQ6 (by decide +kernel)
  simp only [ao5, dlt hi, if_true, al1 hi, Option.bind_some, key, bw5 hi hs hm, List.drop_eq_getElem_cons hi, List.all_cons]
  change (∃ s', some (if dC more s[i] = true then _ else _) = _ ∧ _ ∧ _) ∨ some (if dC more s[i] = true then _ else _) = _
  cases dC more s[i] with
  | false => right; simp
  | true => left; exact ⟨(), by simp, by simp, trivial⟩
 ·intro _ _
  simp only [ao5, dge, Bool.false_eq_true, if_false, List.drop_length, List.all_nil, Bool.true_and]
  congr 2
  cases s with
  | nil => rfl
  | cons c r =>
   have : decide ((1 : Int) ≤ (List.length (c :: r) : Int)) = true := by simp only [List.length_cons, decide_eq_true_eq]; omega
   rw [this]
   have e : decide ((List.length (c :: r) : Int) ≤ (most : Int)) = decide (List.length (c :: r) ≤ most) := by rw [Bool.eq_iff_iff]; simp only [decide_eq_true_eq]; omega
   rw [e]; simp
 ·simp only [List.drop_zero, an1]
  congr 1
  cases s.all (dC more) <;> cases decide (s = []) <;> cases decide (s.length ≤ most) <;> rfl
def bJ8 (s : Str) : Bool := an1 s [45, 95] 32 && (match s with | c :: _ => decide (97 ≤ (c.toNat : Int)) | [] => false)
def aP3 (s : Str) : Bool := an1 s [45, 95, 46] 64
def svcB (s : Str) : Bool := decide (s = []) || an1 s [45, 95] 32
def av2 (a : aa2) : Bool := bJ8 a.Net && ((decide (a.Host = [42]) || aP3 a.Host) && svcB a.Service)
theorem bQ4 (s : Str) : aN8 s = some (bJ8 s) := by
 unfold aN8 bJ8
 have h := bJ7 (s := s) (more := [45, 95]) (most := 32) (by omega)
 rw [show ((32 : Nat) : Int) = 32 from rfl] at h
 rw [h, Option.bind_some]
 cases hl : an1 s [45, 95] 32 with
 | false => simp
 | true =>
  cases s with
  | nil => simp [an1] at hl
  | cons c r =>
   have hat : ai0 (c :: r) 0 = some c := rfl
   have hd : dC [45, 95] c = true := by
    unfold an1 at hl
    simp only [Bool.and_eq_true, List.all_cons] at hl
    exact hl.2.2.1
   have key : ∀ c : UInt8, (!dC [45, 95] c || !decide (97 ≤ (c.toNat : Int)) || decide ((c.toNat : Int) ≤ 122)) = true := aZ0 (by decide +kernel)
   have k := key c
   rw [hd] at k
   simp only [if_true, hat, Option.bind_some, Bool.true_and]
   cases h97 : decide (97 ≤ (c.toNat : Int)) with
   | false => simp
   | true => rw [h97] at k; simp only [Bool.not_true, Bool.false_or] at k; simp [k]
theorem bl8 (s : Str) : aC2 s = some (aP3 s) := by
 unfold aC2 aP3
 have h := bJ7 (s := s) (more := [45, 95, 46]) (most := 64) (by omega)
 rw [show ((64 : Nat) : Int) = 64 from rfl] at h
 rw [h]; rfl
theorem bC1 {s : Str} (hs : s.length ≤ 1000000) : aW6 s = some (bJ8 s) := by
 unfold aW6 bJ8
 have h := bb2 (s := s) (more := [45, 95]) (most := 32) hs (by simp)
 rw [show ((32 : Nat) : Int) = 32 from rfl] at h
 rw [h, Option.bind_some]
 cases hl : an1 s [45, 95] 32 with
 | false => simp
 | true =>
  cases s with
  | nil => simp [an1] at hl
  | cons c r =>
   have hat : ai0 (c :: r) 0 = some c := rfl
   simp [hat]
theorem bs0 {s : Str} (hs : s.length ≤ 1000000) : aO4 s = some (aP3 s) := by
 unfold aO4 aP3
 have h := bb2 (s := s) (more := [45, 95, 46]) (most := 64) hs (by simp)
 rw [show ((64 : Nat) : Int) = 64 from rfl] at h
 rw [h]; rfl
theorem bg9 (a : aa2) : aI0 a = some (av2 a) := by
 unfold aI0 av2 svcB
 have h := bJ7 (s := a.Service) (more := [45, 95]) (most := 32) (by omega)
 rw [show ((32 : Nat) : Int) = 32 from rfl] at h
 simp only [h, bQ4, bl8, Option.bind_some]
 cases bJ8 a.Net <;> cases h1 : decide (a.Host = [42]) <;> cases aP3 a.Host <;> cases h2 : decide (a.Service = []) <;> cases an1 a.Service [45, 95] 32 <;> simp
theorem a48 {a : aa2} (h1 : a.Net.length ≤ 1000000) (h2 : a.Host.length ≤ 1000000) (h3 : a.Service.length ≤ 1000000) : aC5 a = some (av2 a) := by
 unfold aC5 av2 svcB
 have h := bb2 (s := a.Service) (more := [45, 95]) (most := 32) h3 (by simp)
 rw [show ((32 : Nat) : Int) = 32 from rfl] at h
 simp only [h, bC1 h1, bs0 h2, Option.bind_some]
 cases bJ8 a.Net <;> cases h1 : decide (a.Host = [42]) <;> cases aP3 a.Host <;> cases h2 : decide (a.Service = []) <;> cases an1 a.Service [45, 95] 32 <;> simp
def av3 (sep : UInt8) : Str → Str → List Str
 | acc, [] => [acc]
 | acc, c :: r => if c = sep then acc :: av3 sep [] r else av3 sep (acc ++ [c]) r
theorem bJ9 {sep : UInt8} {a : Str} (h : sep ∉ a) (acc : Str) : av3 sep acc a = [acc ++ a] := by
 induction a generalizing acc with
 | nil => simp [av3]
 | cons c r ih =>
  simp only [List.mem_cons, not_or] at h
  rw [av3, if_neg (fun e => h.1 e.symm), ih h.2]
  simp
theorem bW1 {sep : UInt8} {a b : Str} (h : sep ∉ a) (acc : Str) : av3 sep acc (a ++ sep :: b) = (acc ++ a) :: av3 sep [] b := by
 induction a generalizing acc with
 | nil => simp [av3]
 | cons c r ih =>
  simp only [List.mem_cons, not_or] at h
  rw [List.cons_append, av3, if_neg (fun e => h.1 e.symm), ih h.2]
  simp
theorem bb3 {sep : UInt8} : ∀ (p acc : Str), ∀ x ∈ av3 sep acc p, x.length ≤ acc.length + p.length
 | [], acc, x, h => by simp [av3] at h; subst h; simp
 | c :: r, acc, x, h => by
  unfold av3 at h
  split at h
  ·rcases List.mem_cons.1 h with rfl | h
   ·omega
   ·have := bb3 r [] x h
    simp at this ⊢; omega
  ·have := bb3 r (acc ++ [c]) x h
   simp at this ⊢; omega
theorem bK0 (l : Str) (c : UInt8) : (c ∉ l ∧ Go.Lib.indexByte l c = -1) ∨ ∃ a b, l = a ++ c :: b ∧ c ∉ a ∧ Go.Lib.indexByte l c = (a.length : Int) := by
 induction l with
 | nil => exact .inl ⟨by simp, rfl⟩
 | cons x r ih =>
  by_cases hx : x = c
  ·subst hx
   exact .inr ⟨[], r, rfl, by simp, by simp [Go.Lib.indexByte]⟩
  ·have hx' : (x == c) = false := by simpa using hx
   rcases ih with ⟨h1, h2⟩ | ⟨a, b, h1, h2, h3⟩
   ·refine .inl ⟨by simp [h1, Ne.symm hx], ?_⟩
    simp [Go.Lib.indexByte, hx', h2]
   ·refine .inr ⟨x :: a, b, by rw [h1]; rfl, by simp [h2, Ne.symm hx], ?_⟩
    have : ¬ ((a.length : Int) = -1) := by omega
    simp [Go.Lib.indexByte, hx', h3, this]
theorem bK1 {p : Str} {sep : UInt8} (h : p.length ≤ 1000000000) : ay2 p [sep] 0 (-1) = some (av3 sep [] p) := by
 unfold ay2
 simp only [show decide ((-1 : Int) = 0) = false from rfl, show decide (([sep] : Str) = []) = false by simp, show decide ((-1 : Int) < 0) = true from rfl, if_true, Bool.false_eq_true, if_false]
 have hcnt : strings_Count p [sep] = some ((p.count sep : Nat) : Int) := rfl
 have hle : p.count sep ≤ p.length := List.count_le_length
 rw [hcnt, Option.bind_some, ag0 (by omega) (by omega)]
 unfold aq3
 have hmin : min ((p.count sep : Int) + 1) (IntKind.wrap .i64 ((List.length p : Int) + 1)) = ((p.count sep + 1 : Nat) : Int) := by
  rw [ag0 (by omega) (by omega)]; omega
 have hmk : mkC 16 ([] : Str) (((p.count sep + 1 : Nat) : Int)) (((p.count sep + 1 : Nat) : Int)) = some (List.replicate (p.count sep + 1) []) := by
  unfold mkC
  rw [if_pos ⟨by omega, by omega, by omega, by omega⟩, Int.toNat_natCast]
 have hlim : IntKind.wrap .i64 (((p.count sep + 1 : Nat) : Int) - 1) = ((p.count sep : Nat) : Int) := by rw [ag0 (by omega) (by omega)]; omega
 rw [hmin, hmk, Option.bind_some]
 refine (ab7 (τ := Str × Int × List Str) (p.count sep) (fun (s : Str × List Str) i => (s.1, i, s.2)) (fun s => aj3 p [sep] 0 ((p.count sep : Int) + 1) s.1 s.2.1 s.2.2)
  (fun i s => s.2.take i ++ av3 sep [] s.1) (fun i s => i + s.1.count sep = p.count sep ∧ s.2.length = p.count sep + 1 ∧ s.1.length ≤ p.length) (s0 := (p, List.replicate (p.count sep + 1) [])) ⟨by simp, by simp, Nat.le_refl _⟩ ?_ ?_).trans ?_
 ·rintro ⟨s, a⟩ i hi ⟨h1, h2, h3⟩
  simp only at h1 h2 h3
  left
  rcases bK0 s sep with ⟨hn, _⟩ | ⟨x, y, rfl, hx, hix⟩
  ·have : s.count sep = 0 := List.count_eq_zero.2 hn
   omega
  ·have hidx : strings_Index (x ++ sep :: y) [sep] = some (x.length : Int) := by
    show some _ = _
    rw [hix]
   simp only [List.length_append, List.length_cons] at h3
   have hia : i < a.length := by omega
   have e1 : cut (x ++ sep :: y) 0 (IntKind.wrap .i64 ((x.length : Int) + 0)) = some x := by
    rw [ag0 (by omega) (by omega), Int.add_zero, a74 (by simp)]
    simp
   have e2 : cut (x ++ sep :: y) (IntKind.wrap .i64 ((x.length : Int) + (List.length ([sep] : Str) : Int))) (List.length (x ++ sep :: y) : Int) = some y := by
    have hw : IntKind.wrap .i64 ((x.length : Int) + (List.length ([sep] : Str) : Int)) = ((x.length + 1 : Nat) : Int) := by
     rw [ag0 (by simp; omega) (by simp; omega)]; simp
    rw [hw, a77 (by simp)]
    rw [show (x ++ sep :: y) = (x ++ [sep]) ++ y by simp, List.drop_left' (by simp)]
   have hneg : ¬ ((x.length : Int) < 0) := by omega
   have hcond : (i : Int) < ((p.count sep : Nat) : Int) := by omega
   refine ⟨(y, a.set i x), ?_, ?_, ?_, by simp [h2], by simp; omega⟩
   ·simp only [aj3, hmin, hlim, hcond, decide_true, if_true, hidx, Option.bind_some, hneg, decide_false, Bool.false_eq_true, if_false, e1, e2, aa6 hia, Int.toNat_natCast]
    rw [b30 hi (by unfold maxLen; omega)]
   ·simp only
    rw [bW1 hx, List.take_succ_eq_append_getElem (by simp; omega), List.getElem_set_self, List.take_set_of_le (Nat.le_refl _)]
    simp
   ·simp only [List.count_append, List.count_cons, List.count_eq_zero.2 hx] at h1
    simp at h1 ⊢
    omega
 ·rintro ⟨s, a⟩ ⟨h1, h2, h3⟩
  simp only at h1 h2 h3
  have hc : s.count sep = 0 := by omega
  have hia : p.count sep < a.length := by omega
  have hcond : ¬ (((p.count sep : Nat) : Int) < ((p.count sep : Nat) : Int)) := by omega
  have e1 : cut (List.set a (p.count sep) s) 0 (IntKind.wrap .i64 (((p.count sep : Nat) : Int) + 1)) = some (List.take (p.count sep) a ++ [s]) := by
   rw [ag0 (by omega) (by omega)]
   have := a74 (l := List.set a (p.count sep) s) (b := p.count sep + 1) (by simp; omega)
   rw [show ((p.count sep + 1 : Nat) : Int) = ((p.count sep : Nat) : Int) + 1 by omega] at this
   rw [this, List.take_succ_eq_append_getElem (by simp; omega), List.getElem_set_self, List.take_set_of_le (Nat.le_refl _)]
  simp only [aj3, aq2, hmin, hlim, hcond, decide_false, Bool.false_eq_true, if_false, aa6 hia, Option.bind_some, Int.toNat_natCast, e1, Option.map_some]
  rw [bJ9 (List.count_eq_zero.1 hc)]
  rfl
 ·simp
theorem cf3 {p : Str} {sep : UInt8} (h : p.length ≤ 1000000000) : aG8 p [sep] = some (av3 sep [] p) := by
 unfold aG8
 rw [bK1 h]; rfl
theorem is33 (c : UInt8) : decide ((c.toNat : Int) = 33) = decide (c = 33) := isC c 33
theorem bK2 {p : Str} (h : p.length ≤ 50000) : aR5 p = some (av3 33 [] p) := by
 unfold aR5
 refine (ab7 (τ := Int × Int × List Str) (p.length + 1) (fun (s : Nat × List Str) i => ((s.1 : Int), i, s.2)) (fun s => ak5 p s.1 s.2.1 s.2.2)
  (fun i s => if i = p.length + 1 then s.2 else s.2 ++ av3 33 ((p.take i).drop s.1) (p.drop i)) (fun i s => s.1 ≤ i ∧ s.2.length ≤ i) (s0 := (0, [])) ⟨by simp, by simp⟩ ?_ ?_).trans ?_
 ·rintro ⟨from', out⟩ i hi ⟨h1, h2⟩
  simp only at h1 h2
  left
  have hle : (i : Int) ≤ (List.length p : Int) := by omega
  have hcut : cut p (from' : Int) (i : Int) = some ((p.take i).drop from') := a32 h1 (by omega)
  have happ : as5 16 out [(p.take i).drop from'] = some (out ++ [(p.take i).drop from']) := ab3 (by simp; omega) (by simp; omega)
  have hw : IntKind.wrap .i64 ((i : Int) + 1) = (i : Int) + 1 := ag0 (by omega) (by omega)
  by_cases hi2 : i = p.length
  ·have hi3 : (i : Int) = (List.length p : Int) := by omega
   refine ⟨(i + 1, out ++ [(p.take i).drop from']), ?_, ?_, by simp, by simp; omega⟩
   ·simp only [ak5, hle, hi3, decide_true, if_true, Option.bind_some]
    rw [← hi3, hcut, Option.bind_some, happ, Option.bind_some, hw]
    simp
   ·simp only
    rw [if_neg (by omega), if_pos (by omega), hi2]
    simp [av3]
  ·have hi3 : ¬ (i : Int) = (List.length p : Int) := by omega
   have hlt : i < p.length := by omega
   by_cases hs : p[i] = 33
   ·refine ⟨(i + 1, out ++ [(p.take i).drop from']), ?_, ?_, by simp, by simp; omega⟩
    ·simp only [ak5, hle, hi3, decide_true, decide_false, if_true, Bool.false_eq_true, if_false, al1 hlt, Option.bind_some, is33, hs, hcut, happ, hw]
     rfl
    ·simp only
     rw [if_neg (by omega), if_neg (by omega), List.drop_eq_getElem_cons hlt, av3, if_pos hs]
     have : (p.take (i + 1)).drop (i + 1) = [] := List.drop_of_length_le (by simp; omega)
     rw [this, List.append_assoc]; rfl
   ·refine ⟨(from', out), ?_, ?_, by simp; omega, by simp; omega⟩
    ·simp only [ak5, hle, hi3, decide_true, decide_false, if_true, Bool.false_eq_true, if_false, al1 hlt, Option.bind_some, is33, hs, hw]
    ·simp only
     rw [if_neg (by omega), if_neg (by omega), List.drop_eq_getElem_cons hlt, av3, if_neg hs]
     congr 2
     rw [List.take_succ_eq_append_getElem hlt, List.drop_append_of_le_length (by simp; omega)]
 ·rintro ⟨from', out⟩ ⟨h1, h2⟩
  have : ¬ (((p.length + 1 : Nat) : Int) ≤ (List.length p : Int)) := by omega
  simp [ak5]
  omega
 ·simp
def bf2 : aa2 × Int := (⟨[], [], []⟩, 36)
def af5 (s : Str) : aa2 × Int := match av3 33 [] s with
 | [n, h] => if av2 ⟨n, h, []⟩ then (⟨n, h, []⟩, 0) else bf2
 | [n, h, v] => if av2 ⟨n, h, v⟩ && !decide (v = []) then (⟨n, h, v⟩, 0) else bf2
 | _ => bf2
theorem cf4 {n v : Str} : av2 ⟨n, [], v⟩ = false := by
 unfold av2
 have : (decide (([] : Str) = [42]) || aP3 []) = false := by decide
 simp only [this, Bool.false_and, Bool.and_false]
theorem b47 {s : Str} (h : s.length ≤ 50000) : aI1 s = some (af5 s) := by
 unfold aI1 af5
 rw [cf3 (by omega), Option.bind_some]
 generalize av3 33 [] s = l
 match l with
 | [] => rfl
 | [a] => rfl
 | [n, h] =>
  have e1 : ab0 [n, h] 0 = some n := rfl
  have e2 : ab0 [n, h] 1 = some h := rfl
  simp only [List.length_cons, List.length_nil, e1, e2, Option.bind_some, az8, bg9]
  cases av2 ⟨n, h, []⟩ <;> simp [bf2]
 | [n, h, v] =>
  have e1 : ab0 [n, h, v] 0 = some n := rfl
  have e2 : ab0 [n, h, v] 1 = some h := rfl
  have e3 : ab0 [n, h, v] 2 = some v := rfl
  simp only [List.length_cons, List.length_nil, e1, e2, e3, Option.bind_some, az8, bg9]
  cases av2 ⟨n, h, v⟩ <;> cases hv : decide (v = []) <;> simp_all [bf2]
 | a :: b :: c :: d :: r =>
  have : (3 : Int) < (List.length (a :: b :: c :: d :: r) : Int) := by simp only [List.length_cons]; omega
  simp only [this, decide_true, Bool.or_true, if_true]
  rfl
theorem bs1 {s : Str} (h : s.length ≤ 50000) : aK3 s = some (af5 s) := by
 unfold aK3 af5
 rw [bK2 h, Option.bind_some]
 have hm := bb3 (sep := 33) s []
 generalize av3 33 [] s = l at hm
 match l, hm with
 | [], _ => rfl
 | [a], _ => rfl
 | [n, h], hm =>
  have e1 : ab0 [n, h] 0 = some n := rfl
  have e2 : ab0 [n, h] 1 = some h := rfl
  have e4 : ab0 [n, h] (IntKind.wrap .i64 (2 - 1)) = some h := rfl
  have l1 := hm n (by simp)
  have l2 := hm h (by simp)
  have hr := a48 (a := ⟨n, h, []⟩) (by simp only; simp at l1; omega) (by simp only; simp at l2; omega) (by simp)
  have hl : (List.length [n, h] : Int) = 2 := rfl
  simp only [hl, e1, e2, e4, Option.bind_some, ax6, hr]
  by_cases hh : h = []
  ·subst hh
   simp [cf4, bf2]
  ·cases av2 ⟨n, h, []⟩ <;> simp [bf2, hh]
 | [n, h, v], hm =>
  have e1 : ab0 [n, h, v] 0 = some n := rfl
  have e2 : ab0 [n, h, v] 1 = some h := rfl
  have e3 : ab0 [n, h, v] 2 = some v := rfl
  have e4 : ab0 [n, h, v] (IntKind.wrap .i64 (3 - 1)) = some v := rfl
  have l1 := hm n (by simp)
  have l2 := hm h (by simp)
  have l3 := hm v (by simp)
  have hr := a48 (a := ⟨n, h, v⟩) (by simp only; simp at l1; omega) (by simp only; simp at l2; omega) (by simp only; simp at l3; omega)
  have hl : (List.length [n, h, v] : Int) = 3 := rfl
  simp only [hl, e1, e2, e3, e4, Option.bind_some, ax6, hr]
  by_cases hv : v = []
  ·subst hv; cases av2 ⟨n, h, []⟩ <;> simp [bf2]
  ·cases av2 ⟨n, h, v⟩ <;> simp [bf2, hv]
 | a :: b :: c :: d :: r, _ =>
  have h1 : (3 : Int) < (List.length (a :: b :: c :: d :: r) : Int) := by simp only [List.length_cons]; omega
  have h2 : ¬ ((List.length (a :: b :: c :: d :: r) : Int) < 2) := by simp only [List.length_cons]; omega
  simp only [h1, h2, decide_true, decide_false, Bool.false_eq_true, if_false, if_true, Option.bind_some]
  rfl
def bs3 (a : aa2) : Str × Int := if av2 a then (a.Net ++ [33] ++ a.Host ++ (if a.Service = [] then [] else [33] ++ a.Service), 0) else ([], 36)
theorem b48 {a : aa2} (h1 : a.Net.length ≤ 1000000) (h2 : a.Host.length ≤ 1000000) (h3 : a.Service.length ≤ 1000000) : aN9 a = some (bs3 a) := by
 unfold aN9 bs3
 have c1 : ay8 a.Net [33] = some (a.Net ++ [33]) := ae0 (by simp; omega)
 have c2 : ay8 (a.Net ++ [33]) a.Host = some (a.Net ++ [33] ++ a.Host) := ae0 (by simp; omega)
 have c3 : ay8 [33] a.Service = some ([33] ++ a.Service) := ae0 (by simp; omega)
 have c4 : ay8 (a.Net ++ [33] ++ a.Host) ([33] ++ a.Service) = some (a.Net ++ [33] ++ a.Host ++ ([33] ++ a.Service)) := ae0 (by simp; omega)
 simp only [bg9, c1, c2, c3, c4, Option.bind_some]
 cases av2 a <;> by_cases hs : a.Service = [] <;> simp [hs]
theorem cq1 {l : List aa5} (h : l.length ≤ 1000000) : a82 l = some (l.any (·.Query)) := by
 unfold a82 af4
 have hix : ad7 l = some (aU2 (fun a => a.Query) l) := by
  unfold ad7
  refine aw6 h ?_ ?_
  ·intro i hi
   simp only [ac7, dlt hi, if_true, aa6 hi, Option.bind_some, a34]
  ·simp [ac7]
 rw [hix, Option.bind_some, Option.bind_some, aS2]
theorem bW2 {l : List aa5} (h : l.length ≤ 1000000) : aZ9 l = some (l.any (·.Query)) := by
 unfold aZ9
 refine (ab7 l.length (fun (_ : Unit) i => i) (fun s => aA6 l s) (fun i _ => (l.drop i).any (·.Query)) (fun _ _ => True) (s0 := ()) trivial ?_ ?_).trans rfl
 ·intro _ i hi _
  simp only [aA6, dlt hi, if_true, aa6 hi, Option.bind_some, List.drop_eq_getElem_cons hi, List.any_cons]
  cases l[i].Query with
  | true => right; simp
  | false =>
   left
   refine ⟨(), ?_, by simp, trivial⟩
   simp only [Bool.false_eq_true, if_false]
   rw [aa7 (by omega)]
 ·intro _ _
  simp [aA6]
def okE (out : List aa3) : Prop := out.length ≤ 256 ∧ ∀ x ∈ out, x.Attrs.length ≤ 32 ∧ ∀ a ∈ x.Attrs, okA a
theorem bl9 {l : List Str} {v : Str} (h : l.length ≤ 1000000) : af2 l v = some (l.contains v) := by
 unfold af2
 have hix : ah7 l v = some (aU2 (fun x => decide (v = x)) l) := by
  unfold ah7
  refine aw6 h ?_ ?_
  ·intro i hi
   simp only [ag5, dlt hi, if_true, aa6 hi, Option.bind_some]
  ·simp [ag5]
 rw [hix, Option.bind_some, aS2]
 congr 1
 rw [Bool.eq_iff_iff]
 simp
theorem b49 {l : List Str} {v : Str} (h : l.length ≤ 1000000) : aO6 l v = some (l.contains v) := by
 unfold aO6
 refine (ab7 l.length (fun (_ : Unit) i => i) (fun s => aE8 l v s) (fun i _ => (l.drop i).contains v) (fun _ _ => True) (s0 := ()) trivial ?_ ?_).trans rfl
 ·intro _ i hi _
  simp only [aE8, dlt hi, if_true, aa6 hi, Option.bind_some, List.drop_eq_getElem_cons hi, List.contains_cons]
  by_cases hv : l[i] = v
  ·right
   have : (v == l[i]) = true := by simp [hv]
   simp [hv]
  ·left
   have : (v == l[i]) = false := by simp [Ne.symm hv]
   refine ⟨(), ?_, by rw [this, Bool.false_or], trivial⟩
   simp only [hv, decide_false, Bool.false_eq_true, if_false]
   rw [aa7 (by omega)]
 ·intro _ _
  simp [aE8]
def aG0 (name : Str) : List Str → List aa3 → List Str
 | out, [] => out
 | out, x :: r => if (at0 name x.Attrs).2 && !out.contains (at0 name x.Attrs).1 then aG0 name (out ++ [(at0 name x.Attrs).1]) r else aG0 name out r
def aB4 (l : List aa3) (name : Str) : List Str := aG0 name [] l
def okD (l : List aa3) : Prop := l.length ≤ 1000 ∧ ∀ x ∈ l, x.Attrs.length ≤ 1000000
theorem bm0 {l : List aa3} {name : Str} (h : okD l) : at8 l name = some (aB4 l name) := by
 unfold at8 aB4
 have h1 := h.1
 refine (ab7 (τ := Int × List Str) l.length (fun (x : List Str) i => (i, x)) (fun x => aw9 l name x.1 x.2) (fun i x => aG0 name x (l.drop i)) (fun i x => x.length ≤ i) (s0 := []) (by simp) ?_ ?_).trans rfl
 ·intro out i hi hl
  left
  have hap : ∀ v, as5 16 out [v] = some (out ++ [v]) := fun v => ab3 (by simp; omega) (by simp; omega)
  have hw : IntKind.wrap .i64 ((i : Int) + 1) = (i : Int) + 1 := aa7 (by omega)
  refine ⟨if (at0 name l[i].Attrs).2 && !out.contains (at0 name l[i].Attrs).1 then out ++ [(at0 name l[i].Attrs).1] else out, ?_, ?_, ?_⟩
  ·simp only [aw9, dlt hi, if_true, aa6 hi, Option.bind_some, b46 (h.2 _ (List.getElem_mem hi)), a33, bl9 (l := out) (by omega), hap, hw]
   cases (at0 name l[i].Attrs).2 <;> cases out.contains (at0 name l[i].Attrs).1 <;> rfl
  ·simp only [List.drop_eq_getElem_cons hi, aG0]
   split <;> rfl
  ·split <;> (try simp) <;> omega
 ·intro out _
  simp [aw9, aG0]
theorem aX2 {l : List aa3} {name : Str} (h : okD l) : ap6 l name = some (aB4 l name) := by
 unfold ap6 aB4
 have h1 := h.1
 refine (ab7 (τ := Int × List Str) l.length (fun (x : List Str) i => (i, x)) (fun x => ar3 l name x.1 x.2) (fun i x => aG0 name x (l.drop i)) (fun i x => x.length ≤ i) (s0 := []) (by simp) ?_ ?_).trans rfl
 ·intro out i hi hl
  left
  have hap : ∀ v, as5 16 out [v] = some (out ++ [v]) := fun v => ab3 (by simp; omega) (by simp; omega)
  have hw : IntKind.wrap .i64 ((i : Int) + 1) = (i : Int) + 1 := aa7 (by omega)
  refine ⟨if (at0 name l[i].Attrs).2 && !out.contains (at0 name l[i].Attrs).1 then out ++ [(at0 name l[i].Attrs).1] else out, ?_, ?_, ?_⟩
  ·simp only [ar3, dlt hi, if_true, aa6 hi, Option.bind_some, br9 (h.2 _ (List.getElem_mem hi)), b49 (l := out) (by omega), hap, hw]
   cases (at0 name l[i].Attrs).2 <;> cases out.contains (at0 name l[i].Attrs).1 <;> rfl
  ·simp only [List.drop_eq_getElem_cons hi, aG0]
   split <;> rfl
  ·split <;> (try simp) <;> omega
 ·intro out _
  simp [ar3, aG0]
def bw6 (name value : Str) (x : aa3) : Bool := (at0 name x.Attrs).2 && decide ((at0 name x.Attrs).1 = value)
def av4 (l : List aa3) (name value want : Str) : List Str := aB4 (l.filter (bw6 name value)) want
theorem okD.filter {l : List aa3} (h : okD l) (p : aa3 → Bool) : okD (l.filter p) := ⟨Nat.le_trans (List.length_filter_le _ _) h.1, fun x hx => h.2 x (List.mem_filter.1 hx).1⟩
theorem bw7 {l : List aa3} {name value want : Str} (h : okD l) : aw0 l name value want = some (av4 l name value want) := by
 unfold aw0
 have h1 := h.1
 refine (ab7 (τ := Int × List aa3) l.length (fun (x : List aa3) i => (i, x)) (fun x => ax0 l name value want x.1 x.2) (fun i x => av4 l name value want) (fun i x => x = (l.take i).filter (bw6 name value)) (s0 := []) (by simp) ?_ ?_).trans rfl
 ·rintro out i hi rfl
  left
  have hlen : ((l.take i).filter (bw6 name value)).length ≤ i := by
   have := List.length_filter_le (bw6 name value) (l.take i)
   simp at this; omega
  have hap : ∀ v, as5 24 ((l.take i).filter (bw6 name value)) [v] = some ((l.take i).filter (bw6 name value) ++ [v]) := fun v => ab3 (by simp; omega) (by simp; omega)
  have hw : IntKind.wrap .i64 ((i : Int) + 1) = (i : Int) + 1 := aa7 (by omega)
  refine ⟨(l.take (i + 1)).filter (bw6 name value), ?_, rfl, rfl⟩
  simp only [ax0, dlt hi, if_true, aa6 hi, Option.bind_some, b46 (h.2 _ (List.getElem_mem hi)), hap, hw]
  rw [List.take_succ_eq_append_getElem hi, List.filter_append]
  change (if bw6 name value l[i] = true then _ else _) = _
  by_cases hh : bw6 name value l[i] = true
  ·rw [if_pos hh]; simp [hh]
  ·rw [if_neg hh]; simp [hh]
 ·rintro out rfl
  simp only [ax0, dge, Bool.false_eq_true, if_false, aM6, List.take_length, bm0 (h.filter _), Option.bind_some, Option.map_some]
  rfl
theorem a49 {l : List aa3} {name value want : Str} (h : okD l) : ar0 l name value want = some (av4 l name value want) := by
 unfold ar0
 have h1 := h.1
 refine (ab7 (τ := Int × List aa3) l.length (fun (x : List aa3) i => (i, x)) (fun x => av0 l name value want x.1 x.2) (fun i x => av4 l name value want) (fun i x => x = (l.take i).filter (bw6 name value)) (s0 := []) (by simp) ?_ ?_).trans rfl
 ·rintro out i hi rfl
  left
  have hlen : ((l.take i).filter (bw6 name value)).length ≤ i := by
   have := List.length_filter_le (bw6 name value) (l.take i)
   simp at this; omega
  have hap : ∀ v, as5 24 ((l.take i).filter (bw6 name value)) [v] = some ((l.take i).filter (bw6 name value) ++ [v]) := fun v => ab3 (by simp; omega) (by simp; omega)
  have hw : IntKind.wrap .i64 ((i : Int) + 1) = (i : Int) + 1 := aa7 (by omega)
  refine ⟨(l.take (i + 1)).filter (bw6 name value), ?_, rfl, rfl⟩
  simp only [av0, dlt hi, if_true, aa6 hi, Option.bind_some, br9 (h.2 _ (List.getElem_mem hi)), hap, hw]
  rw [List.take_succ_eq_append_getElem hi, List.filter_append]
  change (if bw6 name value l[i] = true then _ else _) = _
  by_cases hh : bw6 name value l[i] = true
  ·rw [if_pos hh]; simp [hh]
  ·rw [if_neg hh]; simp [hh]
 ·rintro out rfl
  simp only [av0, dge, Bool.false_eq_true, if_false, aK4, List.take_length, aX2 (h.filter _), Option.bind_some, Option.map_some]
  rfl
theorem bb4 (name : Str) : ∀ (l : List aa3) (out : List Str), (aG0 name out l).length ≤ out.length + l.length
 | [], out => by simp [aG0]
 | x :: r, out => by
  rw [aG0]
  split
  ·have := bb4 name r (out ++ [(at0 name x.Attrs).1]); simp at this ⊢; omega
  ·have := bb4 name r out; simp; omega
theorem aX3 (name : Str) : ∀ (l : List aa3) (out : List Str), out.Nodup → (aG0 name out l).Nodup
 | [], out, h => h
 | x :: r, out, h => by
  rw [aG0]
  split
  ·rename_i hc
   refine aX3 name r _ ?_
   rw [List.nodup_append]
   refine ⟨h, by simp, ?_⟩
   intro a ha b hb e
   simp at hb
   rw [Bool.and_eq_true] at hc
   have h2 : out.contains (at0 name x.Attrs).1 = false := by simpa using hc.2
   have h3 : (at0 name x.Attrs).1 ∈ out := by rw [← hb, ← e]; exact ha
   rw [List.contains_iff_mem.2 h3] at h2
   cases h2
  ·exact aX3 name r out h
theorem bK3 (l : List aa3) (name : Str) : (aB4 l name).Nodup := aX3 name l [] List.nodup_nil
theorem aP4 (l : List aa3) (name : Str) : (aB4 l name).length ≤ l.length := by
 have := bb4 name l []; simpa [aB4] using this
theorem bC2 {name : Str} : ∀ {l : List aa5}, (at0 name l).2 = true → ∃ a ∈ l, (at0 name l).1 = a.Value
 | [], h => by simp [at0] at h
 | a :: r, h => by
  by_cases hp : bf1 name a = true
  ·rw [bB9 hp]; exact ⟨a, by simp, rfl⟩
  ·rw [br8 hp] at h ⊢
   obtain ⟨b, hb, he⟩ := bC2 h
   exact ⟨b, List.mem_cons_of_mem _ hb, he⟩
theorem aX4 {name : Str} {K : Nat} : ∀ (l : List aa3) (out : List Str), (∀ x ∈ l, ∀ a ∈ x.Attrs, a.Value.length ≤ K) → (∀ v ∈ out, v.length ≤ K) → ∀ v ∈ aG0 name out l, v.length ≤ K
 | [], out, _, h => h
 | x :: r, out, hl, h => by
  rw [aG0]
  split
  ·rename_i hc
   rw [Bool.and_eq_true] at hc
   refine aX4 r _ (fun y hy => hl y (List.mem_cons_of_mem _ hy)) ?_
   intro v hv
   rcases List.mem_append.1 hv with hv | hv
   ·exact h v hv
   ·simp at hv; subst hv
    obtain ⟨a, ha, he⟩ := bC2 hc.1
    rw [he]; exact hl x (by simp) a ha
  ·exact aX4 r _ (fun y hy => hl y (List.mem_cons_of_mem _ hy)) h
def okT (l : List aa3) : Prop := okD l ∧ ∀ x ∈ l, ∀ a ∈ x.Attrs, a.Value.length ≤ 5000
theorem a06 {l : List aa3} {name : Str} (h : okT l) : ∀ v ∈ aB4 l name, v.length ≤ 5000 := aX4 l [] h.2 (by simp)
theorem okT.filter {l : List aa3} (h : okT l) (p : aa3 → Bool) : okT (l.filter p) := ⟨h.1.filter p, fun x hx => h.2 x (List.mem_filter.1 hx).1⟩
theorem av5 {l : List aa3} {name value want : Str} (h : okT l) : ∀ v ∈ av4 l name value want, v.length ≤ 5000 := a06 (h.filter _)
theorem aX5 {l : List aa3} {name value want : Str} (h : okD l) : (av4 l name value want).length ≤ 1000 := by
 have := aP4 (l.filter (bw6 name value)) want
 have := (h.filter (bw6 name value)).1
 unfold av4; omega
def aP5 : Str := [110, 101, 116]
def bm1 : Str := [115, 101, 108, 102]
def aS3 : Str := [104, 111, 115, 116]
def a22 : Str := [97, 108, 105, 97, 115]
def an2 : Str := [115, 101, 114, 118, 105, 99, 101]
def aP6 (l : List aa3) (name : Str) : List Str := (aB4 l aP5).filter fun n => bJ8 n && (!decide (n = aP5) && (decide (name = aP5) || decide (name = n)))
theorem a50 {p : Str → Bool} {xs : List Str} {body : Int × List Str → Option (Step (Int × List Str) (List Str))} (hx : xs.length ≤ 100000)
  (hb : ∀ (i : Nat) (out : List Str) (h : i < xs.length), out.length ≤ i → body ((i : Int), out) = if p xs[i] then some (.cont ((i : Int) + 1, out ++ [xs[i]])) else some (.cont ((i : Int) + 1, out)))
  (he : ∀ out, body ((xs.length : Int), out) = some (.done out)) : aa9 body (0, []) = some (xs.filter p) := by
 refine (ab7 (τ := Int × List Str) xs.length (fun (x : List Str) i => (i, x)) body (fun i x => x ++ (xs.drop i).filter p) (fun i x => x.length ≤ i) (s0 := []) (by simp) ?_ ?_).trans (by simp)
 ·intro out i hi hl
  left
  refine ⟨if p xs[i] then out ++ [xs[i]] else out, ?_, ?_, ?_⟩
  ·rw [hb i out hi hl]; split <;> rfl
  ·simp only [List.drop_eq_getElem_cons hi, List.filter_cons]
   split <;> simp
  ·split <;> (try simp) <;> omega
 ·intro out _
  simp [he]
theorem bK4 {l : List aa3} {name : Str} (h : okD l) : aG9 l name = some (aP6 l name) := by
 unfold aG9 aP6
 have hv : at8 l [110, 101, 116] = some (aB4 l aP5) := bm0 h
 have hl := aP4 l aP5
 have h1 := h.1
 rw [hv, Option.bind_some]
 refine a50 (by omega) ?_ ?_
 ·intro i out hi hl2
  have hap : ∀ v, as5 16 out [v] = some (out ++ [v]) := fun v => ab3 (by simp; omega) (by simp; omega)
  have hw : IntKind.wrap .i64 ((i : Int) + 1) = (i : Int) + 1 := aa7 (by omega)
  simp only [av9, dlt hi, if_true, aa6 hi, Option.bind_some, bQ4, hap, hw]
  rfl
 ·intro out
  simp [av9]
theorem bW3 {l : List aa3} (h : okT l) : aO7 l = some ((aB4 l aP5).filter fun n => bJ8 n && !decide (n = aP5)) := by
 unfold aO7
 have hv : ap6 l [110, 101, 116] = some (aB4 l aP5) := aX2 h.1
 have hl := aP4 l aP5
 have h1 := h.1.1
 have hsm := a06 (name := aP5) h
 rw [hv, Option.bind_some]
 refine a50 (by omega) ?_ ?_
 ·intro i out hi hl2
  have hap : ∀ v, as5 16 out [v] = some (out ++ [v]) := fun v => ab3 (by simp; omega) (by simp; omega)
  have hw : IntKind.wrap .i64 ((i : Int) + 1) = (i : Int) + 1 := aa7 (by omega)
  have := hsm _ (List.getElem_mem hi)
  simp only [aD8, dlt hi, if_true, aa6 hi, Option.bind_some, bC1 (s := (aB4 l aP5)[i]) (by omega), hap, hw]
  change _ = if (bJ8 (aB4 l aP5)[i] && !decide ((aB4 l aP5)[i] = [110, 101, 116])) = true then _ else _
  cases bJ8 (aB4 l aP5)[i] <;> by_cases hd : (aB4 l aP5)[i] = [110, 101, 116] <;> simp [hd]
 ·intro out
  simp [aD8]
theorem bQ5 (l : List aa3) : aP6 l aP5 = (aB4 l aP5).filter fun n => bJ8 n && !decide (n = aP5) := by
 unfold aP6
 congr 1
 funext n
 simp
theorem bb5 {p : Str → Bool} {a : Str} : ∀ {l : List Str}, l.Nodup → l.filter (fun n => p n && decide (a = n)) = if (l.filter p).contains a then [a] else []
 | [], _ => rfl
 | x :: r, h => by
  have hx := List.nodup_cons.1 h
  by_cases hp : p x = true
  ·by_cases hax : a = x
   ·subst hax
    have hr : r.filter (fun n => p n && decide (a = n)) = [] := by
     rw [List.filter_eq_nil_iff]
     intro n hn
     have : a ≠ n := fun e => hx.1 (e ▸ hn)
     simp [this]
    rw [List.filter_cons_of_pos (by simp [hp]), hr, List.filter_cons_of_pos hp]
    simp
   ·rw [List.filter_cons_of_neg (by simp [hax]), bb5 hx.2, List.filter_cons_of_pos hp]
    have : (a == x) = false := by simp [hax]
    rw [List.contains_cons, this, Bool.false_or]
  ·rw [List.filter_cons_of_neg (by simp [hp]), bb5 hx.2, List.filter_cons_of_neg hp]
theorem cf5 {l : List aa3} {name : Str} (h : name ≠ aP5) : aP6 l name = if (aP6 l aP5).contains name then [name] else [] := by
 rw [bQ5, ← bb5 (bK3 l aP5)]
 unfold aP6
 congr 1
 funext n
 have : decide (name = aP5) = false := by simpa using h
 rw [this, Bool.false_or, Bool.and_assoc]
theorem b50 {l : List aa3} {name n : Str} (h : n ∈ aP6 l name) : n ∈ aB4 l aP5 ∧ bJ8 n = true ∧ n ≠ aP5 ∧ (name = aP5 ∨ name = n) := by
 unfold aP6 at h
 obtain ⟨h1, h2⟩ := List.mem_filter.1 h
 simp only [Bool.and_eq_true, Bool.or_eq_true, decide_eq_true_eq, Bool.not_eq_true', decide_eq_false_iff_not] at h2
 exact ⟨h1, h2.1, h2.2.1, h2.2.2⟩
def aG1 (l : List aa3) (host name : Str) : List Str :=
 if name = [42] then [name] else if name = bm1 then (if aP3 host then [host] else []) else if (aB4 l aS3).contains name then [name] else (av4 l a22 name aS3).filter aP3
theorem bK5 {l : List Str} (hl : l.length ≤ 1000000) : ae2 l = some (l.filter aP3) := by
 unfold ae2
 have hp1 : ∀ a, aE5 a = some (!aP3 a) := by
  intro a; unfold aE5; rw [bl8]; rfl
 have hix : ae7 l = some (aU2 (fun a => !aP3 a) l) := by
  unfold ae7
  refine aw6 hl ?_ ?_
  ·intro i hi
   simp only [ae1, dlt hi, if_true, aa6 hi, Option.bind_some, hp1]
  ·simp [ae1]
 rw [hix, Option.bind_some]
 rcases bB8 (fun a => !aP3 a) l with ⟨h1, h2⟩ | ⟨i, h, h1, h2, h3⟩
 ·rw [h1, List.filter_eq_self.2 (fun a ha => by simpa using h2 a ha)]; rfl
 ·have : ¬ ((i : Int) = -1) := by omega
  rw [h1]
  simp only [this, decide_false, Bool.false_eq_true, if_false]
  have := cf2 (p := fun a => !aP3 a) (body := fun s => ab4 s.1 s.2.1 s.2.2) hl (by
   intro i j s hi hj
   simp only [ab4, dlt hj, if_true, aa6 hj, aa6 hi, Option.bind_some, hp1, Int.toNat_natCast]) (by
   intro i s hi
   simp only [ab4, dge, Bool.false_eq_true, if_false, af3, a74 hi, Option.bind_some, Option.map_some]) h h2 h3
  rw [this]
  congr 2
  funext a
  simp
theorem cf6 {l : List aa3} {host name : Str} (h : okD l) : aZ4 l host name = some (aG1 l host name) := by
 unfold aZ4 aG1
 have hv : at8 l [104, 111, 115, 116] = some (aB4 l aS3) := bm0 h
 have hq : aw0 l [97, 108, 105, 97, 115] name [104, 111, 115, 116] = some (av4 l a22 name aS3) := bw7 h
 have hl := aP4 l aS3
 have hl2 := aX5 (name := a22) (value := name) (want := aS3) h
 have h1 := h.1
 simp only [bl8, hv, hq, Option.bind_some, bl9 (l := aB4 l aS3) (v := name) (by omega), bK5 (l := av4 l a22 name aS3) (by omega)]
 by_cases h42 : name = [42]
 ·simp [h42]
 ·by_cases hs : name = [115, 101, 108, 102]
  ·have : name = bm1 := hs
   simp only [h42, hs, decide_false, decide_true, Bool.false_eq_true, if_false, if_true, Option.bind_some, show ([115, 101, 108, 102] : Str) = bm1 from rfl]
   have : ¬ (bm1 = [42]) := by decide
   simp only [this, if_false, if_true]
   cases aP3 host <;> simp
  ·have hs2 : ¬ (name = bm1) := hs
   simp only [h42, hs, hs2, decide_false, Bool.false_eq_true, if_false, Option.bind_some]
   cases (aB4 l aS3).contains name <;> simp
theorem bK6 {l : List aa3} {host name : Str} (h : okT l) (hh : host.length ≤ 1000000) : aR7 l host name = some (aG1 l host name) := by
 unfold aR7 aG1
 have hv : aR6 l name = some ((aB4 l aS3).contains name) := by
  unfold aR6
  have : ap6 l [104, 111, 115, 116] = some (aB4 l aS3) := aX2 h.1
  have hl := aP4 l aS3
  have h1 := h.1.1
  rw [this, Option.bind_some, b49 (by omega)]; rfl
 have hq : ar0 l [97, 108, 105, 97, 115] name [104, 111, 115, 116] = some (av4 l a22 name aS3) := a49 h.1
 have hl2 := aX5 (name := a22) (value := name) (want := aS3) h.1
 have hsm := av5 (name := a22) (value := name) (want := aS3) h
 have hk : ∀ xs : List Str, xs.length ≤ 100000 → (∀ v ∈ xs, v.length ≤ 1000000) → ax7 xs = some (xs.filter aP3) := by
  intro xs hx hs
  unfold ax7
  refine a50 hx ?_ ?_
  ·intro i out hi hl2
   have hap : ∀ v, as5 16 out [v] = some (out ++ [v]) := fun v => ab3 (by simp; omega) (by simp; omega)
   have hw : IntKind.wrap .i64 ((i : Int) + 1) = (i : Int) + 1 := aa7 (by omega)
   simp only [aA8, dlt hi, if_true, aa6 hi, Option.bind_some, bs0 (hs _ (List.getElem_mem hi)), hap, hw]
  ·intro out
   simp [aA8]
 have k1 := hk (av4 l a22 name aS3) (by omega) (fun v hv => by have := hsm v hv; omega)
 have k2 := hk [host] (by simp) (by simpa using hh)
 simp only [hv, hq, Option.bind_some, k1, k2]
 by_cases h42 : name = [42]
 ·simp [h42]
 ·by_cases hs : name = [115, 101, 108, 102]
  ·simp only [h42, hs, decide_false, decide_true, Bool.not_true, Bool.false_eq_true, if_false, if_true, Option.bind_some, show ([115, 101, 108, 102] : Str) = bm1 from rfl]
   have : ¬ (bm1 = [42]) := by decide
   simp only [this, if_false, if_true, List.filter_cons, List.filter_nil, decide_false, Bool.false_eq_true]
   cases aP3 host <;> simp
  ·have hs2 : ¬ (name = bm1) := hs
   simp only [h42, hs, hs2, decide_false, Bool.not_false, Bool.false_eq_true, if_false, if_true, Option.bind_some]
   cases (aB4 l aS3).contains name <;> simp
def b51 (c : UInt8) : Bool := decide (48 ≤ (c.toNat : Int)) && decide ((c.toNat : Int) ≤ 57)
def dig (c : UInt8) : Int := (c.toNat : Int) - 48
def bo7 : Int → Str → Int × Int
 | n, [] => (n, 0)
 | n, c :: r => if b51 c && decide (n ≤ (65535 - dig c) / 10) then bo7 (n * 10 + dig c) r else (0, 5)
def ck9 (s : Str) : Int × Int := if decide (s = []) || (decide (1 < s.length) && (match s with | c :: _ => decide (c = 48) | [] => false)) then (0, 5) else bo7 0 s
theorem bC3 {c : UInt8} (h : b51 c = true) : 0 ≤ dig c ∧ dig c ≤ 9 := by
 unfold b51 at h
 rw [Bool.and_eq_true, decide_eq_true_eq, decide_eq_true_eq] at h
 unfold dig; omega
theorem cl0 {d : Int} (h : 0 ≤ d ∧ d ≤ 9) : ca8 .i64 (IntKind.wrap .i64 (65535 - d)) 10 = some ((65535 - d) / 10) := by
 unfold ca8
 have hw : IntKind.wrap .i64 (65535 - d) = 65535 - d := ag0 (by omega) (by omega)
 have ht : (65535 - d).tdiv 10 = (65535 - d) / 10 := Int.tdiv_eq_ediv_of_nonneg (by omega)
 rw [if_neg (by decide), hw, ht, ag0 (by omega) (by omega)]
theorem bC4 {c : UInt8} (h : b51 c = true) : aJ4 (c.toNat : Int) = some (dig c) := by
 have key : ∀ c : UInt8, (!b51 c || decide (aJ4 (c.toNat : Int) = some (dig c))) = true := by
  intro c
  unfold aJ4 b51 dig
  have h := aZ0 (p := fun c : UInt8 => (!(decide (48 ≤ (c.toNat : Int)) && decide ((c.toNat : Int) ≤ 57)) || decide (IntKind.wrap .i64 (IntKind.wrap .u8 ((c.toNat : Int) - 48)) = (c.toNat : Int) - 48))) (by decide +kernel) c
  by_cases hd : (decide (48 ≤ (c.toNat : Int)) && decide ((c.toNat : Int) ≤ 57)) = true
  ·rw [hd] at h
   simp only [Bool.not_true, Bool.false_or, decide_eq_true_eq] at h
   simp [hd, h]
  ·simp [hd]
 have k := key c
 rw [h] at k
 simpa using k
theorem bK7 {c : UInt8} (h : b51 c = false) : ∃ x, aJ4 (c.toNat : Int) = some x ∧ 10 ≤ x := by
 unfold aJ4
 have h2 : (decide (48 ≤ (c.toNat : Int)) && decide ((c.toNat : Int) ≤ 57)) = false := h
 rw [h2]
 simp only [Bool.false_eq_true, if_false]
 by_cases hd : (decide (97 ≤ (c.toNat : Int)) && decide ((c.toNat : Int) ≤ 102)) = true
 ·rw [hd]
  have h3 := aZ0 (p := fun c : UInt8 => (!(decide (97 ≤ (c.toNat : Int)) && decide ((c.toNat : Int) ≤ 102)) || decide (10 ≤ IntKind.wrap .i64 ((IntKind.wrap .i64 (IntKind.wrap .u8 ((c.toNat : Int) - 97))) + 10)))) (by decide +kernel) c
  rw [hd] at h3
  simp only [Bool.not_true, Bool.false_or, decide_eq_true_eq] at h3
  exact ⟨_, rfl, h3⟩
 ·rw [Bool.eq_false_iff.2 hd]
  exact ⟨16, rfl, by omega⟩
theorem bC5 {c : UInt8} (h : b51 c = true) : aC6 (c.toNat : Int) = some (dig c) := by
 unfold aC6
 have h2 : (decide (48 ≤ (c.toNat : Int)) && decide ((c.toNat : Int) ≤ 57)) = true := h
 rw [h2]
 have h3 := aZ0 (p := fun c : UInt8 => (!(decide (48 ≤ (c.toNat : Int)) && decide ((c.toNat : Int) ≤ 57)) || decide (IntKind.wrap .i64 (IntKind.wrap .i64 (c.toNat : Int) - 48) = (c.toNat : Int) - 48))) (by decide +kernel) c
 rw [h2] at h3
 simp only [Bool.not_true, Bool.false_or, decide_eq_true_eq] at h3
 simp only [if_true, h3, dig]
theorem bK8 {c : UInt8} (h : b51 c = false) : ∃ x, aC6 (c.toNat : Int) = some x ∧ (x < 0 ∨ 10 ≤ x) := by
 unfold aC6
 have h2 : (decide (48 ≤ (c.toNat : Int)) && decide ((c.toNat : Int) ≤ 57)) = false := h
 rw [h2]
 simp only [Bool.false_eq_true, if_false]
 by_cases hd : (decide (97 ≤ (c.toNat : Int)) && decide ((c.toNat : Int) ≤ 102)) = true
 ·rw [hd]
  have h3 := aZ0 (p := fun c : UInt8 => (!(decide (97 ≤ (c.toNat : Int)) && decide ((c.toNat : Int) ≤ 102)) || decide (10 ≤ IntKind.wrap .i64 ((IntKind.wrap .i64 (IntKind.wrap .i64 (c.toNat : Int) - 97)) + 10)))) (by decide +kernel) c
  rw [hd] at h3
  simp only [Bool.not_true, Bool.false_or, decide_eq_true_eq] at h3
  exact ⟨_, rfl, .inr h3⟩
 ·rw [Bool.eq_false_iff.2 hd]
  exact ⟨-1, rfl, .inl (by omega)⟩
theorem b52 {n d : Int} (hn : 0 ≤ n) (hd : 0 ≤ d ∧ d ≤ 9) (h : n ≤ (65535 - d) / 10) : IntKind.wrap .i64 (IntKind.wrap .i64 (n * 10) + d) = n * 10 + d ∧ n * 10 + d ≤ 65535 := by
 have : n * 10 + d ≤ 65535 := by omega
 rw [ag0 (n := n * 10) (by omega) (by omega), ag0 (by omega) (by omega)]
 exact ⟨rfl, this⟩
theorem cq2 {s : Str} (hs : s.length ≤ 1000000) : aa9 (fun x => aw1 s 10 65535 x.1 x.2) (0, 0) = some (bo7 0 s) := by
 refine (ab7 (τ := Int × Int) s.length (fun (n : Int) i => (n, i)) (fun x => aw1 s 10 65535 x.1 x.2) (fun i n => bo7 n (s.drop i)) (fun _ n => 0 ≤ n ∧ n ≤ 65535) (s0 := 0) (by omega) ?_ ?_).trans rfl
 ·intro n i hi hn
  simp only [aw1, dlt hi, if_true, al1 hi, Option.bind_some, List.drop_eq_getElem_cons hi, bo7]
  cases hd : b51 s[i] with
  | false =>
   obtain ⟨x, hx, h10⟩ := bK7 hd
   right
   simp [hx, h10]
  | true =>
   have hr := bC3 hd
   have h10 : ¬ (10 ≤ dig s[i]) := by omega
   have hq : ¬ (65535 < dig s[i]) := by omega
   simp only [bC4 hd, Option.bind_some, h10, decide_false, Bool.false_eq_true, if_false, cl0 hr, Bool.true_and, hq]
   by_cases hle : n ≤ (65535 - dig s[i]) / 10
   ·have hlt : ¬ ((65535 - dig s[i]) / 10 < n) := by omega
    obtain ⟨e1, e2⟩ := b52 hn.1 hr hle
    left
    refine ⟨n * 10 + dig s[i], ?_, by simp [hle], by omega⟩
    simp only [hlt, decide_false, Bool.false_eq_true, if_false, Option.bind_some, e1]
    rw [aa7 (by omega)]
   ·have hlt : (65535 - dig s[i]) / 10 < n := by omega
    right
    simp [hlt, hle]
 ·intro n _
  simp [aw1, bo7]
theorem cq3 {s : Str} (hs : s.length ≤ 1000000) : aa9 (fun x => ao6 s 10 65535 x.1 x.2) (0, 0) = some (bo7 0 s) := by
 refine (ab7 (τ := Int × Int) s.length (fun (n : Int) i => (n, i)) (fun x => ao6 s 10 65535 x.1 x.2) (fun i n => bo7 n (s.drop i)) (fun _ n => 0 ≤ n ∧ n ≤ 65535) (s0 := 0) (by omega) ?_ ?_).trans rfl
 ·intro n i hi hn
  simp only [ao6, dlt hi, if_true, al1 hi, Option.bind_some, List.drop_eq_getElem_cons hi, bo7]
  cases hd : b51 s[i] with
  | false =>
   obtain ⟨x, hx, h10⟩ := bK8 hd
   right
   rcases h10 with h | h
   ·simp [hx, h]
   ·by_cases h0 : x < 0 <;> simp [hx, h, h0]
  | true =>
   have hr := bC3 hd
   have h0 : ¬ (dig s[i] < 0) := by omega
   have h10 : ¬ (10 ≤ dig s[i]) := by omega
   have hq : ¬ (65535 < dig s[i]) := by omega
   simp only [bC5 hd, Option.bind_some, h0, h10, decide_false, Bool.false_eq_true, if_false, cl0 hr, Bool.true_and, hq]
   by_cases hle : n ≤ (65535 - dig s[i]) / 10
   ·have hlt : ¬ ((65535 - dig s[i]) / 10 < n) := by omega
    obtain ⟨e1, e2⟩ := b52 hn.1 hr hle
    left
    refine ⟨n * 10 + dig s[i], ?_, by simp [hle], by omega⟩
    simp only [hlt, decide_false, Bool.false_eq_true, if_false, e1]
    rw [aa7 (by omega)]
   ·have hlt : (65535 - dig s[i]) / 10 < n := by omega
    right
    simp [hlt, hle]
 ·intro n _
  simp [ao6, bo7]
theorem is48 (c : UInt8) : decide ((c.toNat : Int) = 48) = decide (c = 48) := isC c 48
theorem cy7 {s : Str} (hs : s.length ≤ 1000000) : a78 s 10 65535 = some (ck9 s) := by
 unfold a78 ck9
 rw [cq2 hs]
 cases s with
 | nil => rfl
 | cons c r =>
  have hat : ai0 (c :: r) 0 = some c := rfl
  have hl : decide ((1 : Int) < (List.length (c :: r) : Int)) = decide (1 < (c :: r).length) := by rw [Bool.eq_iff_iff]; simp only [decide_eq_true_eq]; omega
  have hk : aV7 10 = some true := rfl
  simp only [hk, hat, hl, Option.bind_some, is48, reduceCtorEq, decide_false, Bool.false_or]
  cases decide (1 < (c :: r).length) <;> cases decide (c = 48) <;> simp
theorem b53 {s : Str} (hs : s.length ≤ 1000000) : aR8 s 10 65535 = some (ck9 s) := by
 unfold aR8 ck9
 rw [cq3 hs]
 cases s with
 | nil => rfl
 | cons c r =>
  have hat : ai0 (c :: r) 0 = some c := rfl
  have hl : decide ((1 : Int) < (List.length (c :: r) : Int)) = decide (1 < (c :: r).length) := by rw [Bool.eq_iff_iff]; simp only [decide_eq_true_eq]; omega
  have hk : aK5 10 = some true := rfl
  simp only [hk, hat, hl, Option.bind_some, is48, reduceCtorEq, decide_false, Bool.false_or]
  cases decide (1 < (c :: r).length) <;> cases decide (c = 48) <;> simp
def bC6 (s : Str) : Bool := decide ((ck9 s).2 = 0) && decide (0 < (ck9 s).1)
theorem bC7 {s : Str} (hs : s.length ≤ 1000000) : aJ5 s = some (bC6 s) := by
 unfold aJ5 bC6
 rw [cy7 hs]; rfl
theorem bs4 {s : Str} (hs : s.length ≤ 1000000) : aO8 s = some (bC6 s) := by
 unfold aO8 bC6
 rw [b53 hs]
 have : decide (1 ≤ (ck9 s).1) = decide (0 < (ck9 s).1) := by rw [Bool.eq_iff_iff]; simp only [decide_eq_true_eq]; omega
 rw [Option.bind_some, this]
def ap0 : List Str → Str
 | [] => []
 | p :: r => if bC6 p then p else ap0 r
def bC8 (l : List aa3) (net svc : Str) : Str := if bC6 svc then svc else ap0 (av4 l an2 svc net)
def aK8 (l : List aa3) (net svc : Str) : Str := if svc = [] then (match av4 l aP5 net an2 with | [] => [] | x :: _ => bC8 l net x) else bC8 l net svc
theorem bQ6 {l : List aa3} {net svc : Str} (h : okT l) (hs : svc.length ≤ 1000000) : aE6 l net svc = some (bC8 l net svc) := by
 unfold aE6 bC8
 have hq : aw0 l [115, 101, 114, 118, 105, 99, 101] svc net = some (av4 l an2 svc net) := bw7 h.1
 have hsm := av5 (name := an2) (value := svc) (want := net) h
 have hl := aX5 (name := an2) (value := svc) (want := net) h.1
 rw [bC7 hs, Option.bind_some, hq, Option.bind_some]
 generalize av4 l an2 svc net = xs at hsm hl
 have hloop : aa9 (fun s => aw2 xs s) 0 = some (ap0 xs) := by
  refine (ab7 xs.length (fun (_ : Unit) i => i) (fun s => aw2 xs s) (fun i _ => ap0 (xs.drop i)) (fun _ _ => True) (s0 := ()) trivial ?_ ?_).trans rfl
  ·intro _ i hi _
   have := hsm _ (List.getElem_mem hi)
   simp only [aw2, dlt hi, if_true, aa6 hi, Option.bind_some, bC7 (s := xs[i]) (by omega), List.drop_eq_getElem_cons hi, ap0]
   by_cases hp : bC6 xs[i] = true
   ·right; rw [if_pos hp, if_pos hp]
   ·left
    refine ⟨(), ?_, by rw [if_neg hp], trivial⟩
    rw [if_neg hp, aa7 (by omega)]
  ·intro _ _
   simp [aw2, ap0]
 rw [hloop]
 split <;> rfl
theorem bm2 {l : List aa3} {net svc : Str} (h : okT l) (hs : svc.length ≤ 1000000) : aA9 l net svc = some (bC8 l net svc) := by
 unfold aA9 bC8
 have hq : ar0 l [115, 101, 114, 118, 105, 99, 101] svc net = some (av4 l an2 svc net) := a49 h.1
 have hsm := av5 (name := an2) (value := svc) (want := net) h
 have hl := aX5 (name := an2) (value := svc) (want := net) h.1
 rw [bs4 hs, Option.bind_some, hq, Option.bind_some]
 generalize av4 l an2 svc net = xs at hsm hl
 have hloop : aa9 (fun s => ar7 xs s) 0 = some (ap0 xs) := by
  refine (ab7 xs.length (fun (_ : Unit) i => i) (fun s => ar7 xs s) (fun i _ => ap0 (xs.drop i)) (fun _ _ => True) (s0 := ()) trivial ?_ ?_).trans rfl
  ·intro _ i hi _
   have := hsm _ (List.getElem_mem hi)
   simp only [ar7, dlt hi, if_true, aa6 hi, Option.bind_some, bs4 (s := xs[i]) (by omega), List.drop_eq_getElem_cons hi, ap0]
   by_cases hp : bC6 xs[i] = true
   ·right; rw [if_pos hp, if_pos hp]
   ·left
    refine ⟨(), ?_, by rw [if_neg hp], trivial⟩
    rw [if_neg hp, aa7 (by omega)]
  ·intro _ _
   simp [ar7, ap0]
 rw [hloop]
 split <;> rfl
theorem cq4 {l : List aa3} {net svc : Str} (h : okT l) (hs : svc.length ≤ 1000000) : a79 l net svc = some (aK8 l net svc) := by
 unfold a79 aK8
 by_cases h0 : svc = []
 ·have hq : aw0 l [110, 101, 116] net [115, 101, 114, 118, 105, 99, 101] = some (av4 l aP5 net an2) := bw7 h.1
  have hsm := av5 (name := aP5) (value := net) (want := an2) h
  simp only [h0, decide_true, if_true, hq, Option.bind_some]
  generalize av4 l aP5 net an2 = xs at hsm
  cases xs with
  | nil => rfl
  | cons x r =>
   have hx := hsm x (by simp)
   have hne : ¬ ((List.length (x :: r) : Int) = 0) := by simp only [List.length_cons]; omega
   have hat : ab0 (x :: r) 0 = some x := rfl
   simp only [hne, decide_false, Bool.false_eq_true, if_false, hat, Option.bind_some]
   exact bQ6 h (by omega)
 ·simp only [h0, decide_false, Bool.false_eq_true, if_false]
  exact bQ6 h hs
theorem bK9 {l : List aa3} {net svc : Str} (h : okT l) (hs : svc.length ≤ 1000000) : a01 l net svc = some (aK8 l net svc) := by
 unfold a01 aK8
 by_cases h0 : svc = []
 ·have hq : ar0 l [110, 101, 116] net [115, 101, 114, 118, 105, 99, 101] = some (av4 l aP5 net an2) := a49 h.1
  have hsm := av5 (name := aP5) (value := net) (want := an2) h
  simp only [h0, decide_true, if_true, hq, Option.bind_some]
  generalize av4 l aP5 net an2 = xs at hsm
  cases xs with
  | nil => rfl
  | cons x r =>
   have hx := hsm x (by simp)
   have hne : ¬ ((List.length (x :: r) : Int) = 0) := by simp only [List.length_cons]; omega
   have hat : ab0 (x :: r) 0 = some x := rfl
   simp only [hne, decide_false, Bool.false_eq_true, if_false, hat, Option.bind_some]
   exact bm2 h (by omega)
 ·simp only [h0, decide_false, Bool.false_eq_true, if_false]
  exact bm2 h hs
def ai8 (l : List aa3) (svc : Str) (hs : List Str) (n : Str) : List aa2 := if aK8 l n svc = [] then [] else hs.map fun h => ⟨n, h, aK8 l n svc⟩
def ap1 (l : List aa3) (host : Str) (a : aa2) : List aa2 × Int :=
 if av2 a = false then ([], 36) else if aP6 l a.Net = [] then ([], 37) else if aG1 l host a.Host = [] then ([], 38) else
 if (aP6 l a.Net).flatMap (ai8 l a.Service (aG1 l host a.Host)) = [] then ([], 39) else ((aP6 l a.Net).flatMap (ai8 l a.Service (aG1 l host a.Host)), 0)
theorem bh0 {l : List aa3} {svc : Str} {hs : List Str} {K : Nat} (hk : hs.length ≤ K) : ∀ ns : List Str, (ns.flatMap (ai8 l svc hs)).length ≤ ns.length * K
 | [] => by simp
 | n :: r => by
  rw [List.flatMap_cons, List.length_append, List.length_cons, Nat.add_mul, Nat.one_mul]
  have := bh0 (l := l) (svc := svc) hk r
  have : (ai8 l svc hs n).length ≤ K := by unfold ai8; split <;> simp; omega
  omega
theorem bm3 {l : List aa3} {name : Str} (h : okD l) : (aP6 l name).length ≤ 1000 := by
 have h1 := aP4 l aP5
 have h2 := h.1
 have := List.length_filter_le (fun n => bJ8 n && (!decide (n = aP5) && (decide (name = aP5) || decide (name = n)))) (aB4 l aP5)
 unfold aP6; omega
theorem bb6 {l : List aa3} {host name : Str} (h : okD l) : (aG1 l host name).length ≤ 1000 := by
 have h1 := aX5 (name := a22) (value := name) (want := aS3) h
 have := List.length_filter_le aP3 (av4 l a22 name aS3)
 unfold aG1
 split
 ·simp
 ·split
  ·split <;> simp
  ·split
   ·simp
   ·omega
theorem be3 {l : List aa3} {host : Str} {a : aa2} (h : okT l) (ha : a.Service.length ≤ 1000000) : ar5 l host a = some (ap1 l host a) := by
 unfold ar5 ap1
 have hn := bm3 (name := a.Net) h.1
 have hh := bb6 (host := host) (name := a.Host) h.1
 simp only [bg9, bK4 h.1, cf6 h.1, Option.bind_some]
 generalize aP6 l a.Net = ns at hn
 generalize aG1 l host a.Host = hs at hh
 cases av2 a with
 | false => rfl
 | true =>
  simp only [Bool.not_true, Bool.false_eq_true, if_false, Bool.true_eq_false]
  by_cases h1 : ns = []
  ·simp [h1]
  ·have h1' : ¬ ((List.length ns : Int) = 0) := by have := List.length_pos_iff.2 h1; omega
   simp only [h1, h1', decide_false, Bool.false_eq_true, if_false]
   by_cases h2 : hs = []
   ·simp [h2]
   ·have h2' : ¬ ((List.length hs : Int) = 0) := by have := List.length_pos_iff.2 h2; omega
    simp only [h2, h2', decide_false, Bool.false_eq_true, if_false]
    refine (ab7 (τ := Int × List aa2) ns.length (fun (x : List aa2) i => (i, x)) (fun x => al4 l a ns hs x.1 x.2) (fun _ _ => if ns.flatMap (ai8 l a.Service hs) = [] then ([], 39) else (ns.flatMap (ai8 l a.Service hs), 0)) (fun i x => x = (ns.take i).flatMap (ai8 l a.Service hs)) (s0 := []) (by simp) ?_ ?_).trans rfl
    ·rintro out i hi rfl
     left
     have hw : IntKind.wrap .i64 ((i : Int) + 1) = (i : Int) + 1 := aa7 (by omega)
     have hlen := bh0 (l := l) (svc := a.Service) hh (ns.take i)
     have hlen2 : ((ns.take i).flatMap (ai8 l a.Service hs)).length ≤ 1000 * 1000 := Nat.le_trans hlen (Nat.mul_le_mul (by simp; omega) (Nat.le_refl _))
     refine ⟨(ns.take (i + 1)).flatMap (ai8 l a.Service hs), ?_, rfl, rfl⟩
     simp only [al4, dlt hi, if_true, aa6 hi, Option.bind_some, cq4 h ha]
     rw [List.take_succ_eq_append_getElem hi, List.flatMap_append]
     generalize (ns.take i).flatMap (ai8 l a.Service hs) = out at hlen2
     simp only [List.flatMap_cons, List.flatMap_nil, List.append_nil, ai8]
     by_cases hp : aK8 l ns[i] a.Service = []
     ·simp [hp, hw]
     ·simp only [hp, decide_false, Bool.false_eq_true, if_false]
      refine (ab7 (τ := Int × List aa2) hs.length (fun (x : List aa2) k => (k, x)) (fun x => al3 hs (i : Int) ns[i] (aK8 l ns[i] a.Service) x.1 x.2) (fun _ _ => Step.cont ((i : Int) + 1, out ++ hs.map fun h => ⟨ns[i], h, aK8 l ns[i] a.Service⟩)) (fun k x => x = out ++ (hs.take k).map fun h => ⟨ns[i], h, aK8 l ns[i] a.Service⟩) (s0 := out) (by simp) ?_ ?_).trans rfl
      ·rintro x k hk rfl
       left
       have hap : ∀ y, as5 48 (out ++ (hs.take k).map fun h => (⟨ns[i], h, aK8 l ns[i] a.Service⟩ : aa2)) [y] = some ((out ++ (hs.take k).map fun h => ⟨ns[i], h, aK8 l ns[i] a.Service⟩) ++ [y]) := fun y => ab3 (by simp; omega) (by simp; omega)
       refine ⟨out ++ (hs.take (k + 1)).map fun h => ⟨ns[i], h, aK8 l ns[i] a.Service⟩, ?_, rfl, rfl⟩
       simp only [al3, dlt hk, if_true, aa6 hk, Option.bind_some, hap]
       rw [aa7 (by omega), List.take_succ_eq_append_getElem hk, List.map_append, List.append_assoc]
       rfl
      ·rintro x rfl
       simp only [al3, dge, Bool.false_eq_true, if_false, List.take_length, hw]
    ·rintro out rfl
     simp only [al4, dge, Bool.false_eq_true, if_false, az9, List.take_length]
     by_cases hf : ns.flatMap (ai8 l a.Service hs) = []
     ·simp [hf]
     ·have : ¬ ((List.length (ns.flatMap (ai8 l a.Service hs)) : Int) = 0) := by have := List.length_pos_iff.2 hf; omega
      simp only [hf, this, decide_false, Bool.false_eq_true, if_false, Option.map_some]
theorem be4 {l : List aa3} {host : Str} {a : aa2} {ns : List Str} (h : okT l) (ha : a.Service.length ≤ 1000000) (hho : host.length ≤ 1000000) (hn : ns.length ≤ 1000) : am0 l host a ns = some (if ns = [] then ([], 37) else if aG1 l host a.Host = [] then ([], 38) else
  if ns.flatMap (ai8 l a.Service (aG1 l host a.Host)) = [] then ([], 39) else (ns.flatMap (ai8 l a.Service (aG1 l host a.Host)), 0)) := by
 unfold am0
 have hh := bb6 (host := host) (name := a.Host) h.1
 simp only [bK6 h hho, Option.bind_some]
 generalize aG1 l host a.Host = hs at hh
 by_cases h1 : ns = []
 ·simp [h1]
 ·have h1' : ¬ ((List.length ns : Int) = 0) := by have := List.length_pos_iff.2 h1; omega
  simp only [h1, h1', decide_false, Bool.false_eq_true, if_false]
  by_cases h2 : hs = []
  ·simp [h2]
  ·have h2' : ¬ ((List.length hs : Int) = 0) := by have := List.length_pos_iff.2 h2; omega
   simp only [h2, h2', decide_false, Bool.false_eq_true, if_false]
   refine (ab7 (τ := Int × List aa2) ns.length (fun (x : List aa2) i => (i, x)) (fun x => ak6 l a ns hs x.1 x.2) (fun _ _ => if ns.flatMap (ai8 l a.Service hs) = [] then ([], 39) else (ns.flatMap (ai8 l a.Service hs), 0)) (fun i x => x = (ns.take i).flatMap (ai8 l a.Service hs)) (s0 := []) (by simp) ?_ ?_).trans rfl
   ·rintro out i hi rfl
    left
    have hw : IntKind.wrap .i64 ((i : Int) + 1) = (i : Int) + 1 := aa7 (by omega)
    have hlen := bh0 (l := l) (svc := a.Service) hh (ns.take i)
    have hlen2 : ((ns.take i).flatMap (ai8 l a.Service hs)).length ≤ 1000 * 1000 := Nat.le_trans hlen (Nat.mul_le_mul (by simp; omega) (Nat.le_refl _))
    refine ⟨(ns.take (i + 1)).flatMap (ai8 l a.Service hs), ?_, rfl, rfl⟩
    simp only [ak6, dlt hi, if_true, aa6 hi, Option.bind_some, bK9 h ha]
    rw [List.take_succ_eq_append_getElem hi, List.flatMap_append]
    generalize (ns.take i).flatMap (ai8 l a.Service hs) = out at hlen2
    simp only [List.flatMap_cons, List.flatMap_nil, List.append_nil, ai8]
    by_cases hp : aK8 l ns[i] a.Service = []
    ·simp only [hp, if_true, List.append_nil]
     refine av8 ?_
     simp only [ai2, decide_true, Bool.not_true, Bool.and_false, Bool.false_eq_true, if_false, hw]
    ·simp only [hp, if_false]
     refine (ab7 (τ := Int × List aa2) hs.length (fun (x : List aa2) k => (k, x)) (fun x => ai2 ns hs (i : Int) (aK8 l ns[i] a.Service) x.1 x.2) (fun _ _ => Step.cont ((i : Int) + 1, out ++ hs.map fun h => ⟨ns[i], h, aK8 l ns[i] a.Service⟩)) (fun k x => x = out ++ (hs.take k).map fun h => ⟨ns[i], h, aK8 l ns[i] a.Service⟩) (s0 := out) (by simp) ?_ ?_).trans rfl
     ·rintro x k hk rfl
      left
      have hap : ∀ y, as5 48 (out ++ (hs.take k).map fun h => (⟨ns[i], h, aK8 l ns[i] a.Service⟩ : aa2)) [y] = some ((out ++ (hs.take k).map fun h => ⟨ns[i], h, aK8 l ns[i] a.Service⟩) ++ [y]) := fun y => ab3 (by simp; omega) (by simp; omega)
      refine ⟨out ++ (hs.take (k + 1)).map fun h => ⟨ns[i], h, aK8 l ns[i] a.Service⟩, ?_, rfl, rfl⟩
      simp only [ai2, dlt hk, hp, decide_false, Bool.not_false, Bool.and_true, if_true, aa6 hi, aa6 hk, Option.bind_some, hap]
      rw [aa7 (by omega), List.take_succ_eq_append_getElem hk, List.map_append, List.append_assoc]
      rfl
     ·rintro x rfl
      simp only [ai2, dge, Bool.false_and, Bool.false_eq_true, if_false, List.take_length, hw]
   ·rintro out rfl
    simp only [ak6, dge, Bool.false_eq_true, if_false, ay6, List.take_length]
    by_cases hf : ns.flatMap (ai8 l a.Service hs) = []
    ·simp [hf]
    ·have : ¬ ((List.length (ns.flatMap (ai8 l a.Service hs)) : Int) = 0) := by have := List.length_pos_iff.2 hf; omega
     simp only [hf, this, decide_false, Bool.false_eq_true, if_false, Option.map_some]
theorem aX6 {l : List aa3} {host : Str} {a : aa2} (h : okT l) (h1 : a.Net.length ≤ 1000000) (h2 : a.Host.length ≤ 1000000) (ha : a.Service.length ≤ 1000000) (hho : host.length ≤ 1000000) : av1 l host a = some (ap1 l host a) := by
 unfold av1 ap1
 rw [a48 h1 h2 ha, Option.bind_some]
 have hn := bm3 (name := aP5) h.1
 have hN : aO7 l = some (aP6 l aP5) := by rw [bW3 h, bQ5]
 cases av2 a with
 | false => rfl
 | true =>
  simp only [Bool.not_true, Bool.false_eq_true, if_false, Bool.true_eq_false, hN, Option.bind_some]
  by_cases hnet : a.Net = aP5
  ·have hnet' : a.Net = [110, 101, 116] := hnet
   simp only [hnet', decide_true, Bool.not_true, Bool.false_eq_true, if_false, be4 (host := host) (a := a) h ha hho hn]
   rfl
  ·have hnet' : ¬ (a.Net = [110, 101, 116]) := hnet
   simp only [hnet', decide_false, Bool.not_false, if_true, b49 (l := aP6 l aP5) (v := a.Net) (by omega), Option.bind_some, be4 (host := host) (a := a) (ns := [a.Net]) h ha hho (by simp)]
   rw [cf5 hnet]
   cases (aP6 l aP5).contains a.Net <;> simp
def be5 : Str → List aa3 → Str × Int
 | acc, [] => (acc, 0)
 | acc, x :: r => if decide (x.Attrs = []) || x.Attrs.any (·.Query) then ([], 2) else if bJ2 x.Attrs ≠ 0 then ([], bJ2 x.Attrs) else be5 (acc ++ (aB6 x.Attrs ++ [10])) r
def bo8 (l : List aa3) : Str × Int := if 256 < l.length then ([], 22) else be5 [] l
def okX (l : List aa3) : Prop := l.length ≤ 300 ∧ ∀ x ∈ l, okL x.Attrs
theorem bC9 {l : List aa5} (h : okL l) : (aB6 l).length ≤ 75020000 := by
 have := bl7 h l.length
 rw [List.take_length] at this
 exact this
theorem cq5 {l : List aa3} (h : okX l) : aW2 l = some (bo8 l) := by
 unfold aW2 bo8
 by_cases h0 : 256 < l.length
 ·have : (256 : Int) < (List.length l : Int) := by omega
  simp [h0, this]
 ·have : ¬ ((256 : Int) < (List.length l : Int)) := by omega
  simp only [h0, this, decide_false, Bool.false_eq_true, if_false]
  refine (ab7 (τ := Int × Str) l.length (fun (x : Str) i => (i, x)) (fun x => aA3 l x.1 x.2) (fun i x => be5 x (l.drop i)) (fun i x => x.length ≤ i * 75020001) (s0 := []) (by simp) ?_ ?_).trans rfl
  ·intro acc i hi hl
   have hok := h.2 _ (List.getElem_mem hi)
   have h1 := hok.1
   have hp := bC9 hok
   have hb : i * 75020001 ≤ 256 * 75020001 := Nat.mul_le_mul (by omega) (Nat.le_refl _)
   have c1 : ay8 (aB6 l[i].Attrs) [10] = some (aB6 l[i].Attrs ++ [10]) := ae0 (by simp; omega)
   have c2 : bAdd acc (aB6 l[i].Attrs ++ [10]) = some (acc ++ (aB6 l[i].Attrs ++ [10])) := bV5 (by simp; omega)
   have hw : IntKind.wrap .i64 ((i : Int) + 1) = (i : Int) + 1 := aa7 (by omega)
   have hz : decide ((List.length l[i].Attrs : Int) = 0) = decide (l[i].Attrs = []) := by
    rw [Bool.eq_iff_iff]; simp only [decide_eq_true_eq]
    rw [← List.length_eq_zero_iff]; omega
   simp only [aA3, dlt hi, if_true, aa6 hi, Option.bind_some, cq1 (l := l[i].Attrs) (by omega), cf0 hok, hz, hw, List.drop_eq_getElem_cons hi, be5]
   cases hd : decide (l[i].Attrs = []) with
   | true => right; simp
   | false =>
    cases hq : l[i].Attrs.any (·.Query) with
    | true => right; simp
    | false =>
     by_cases hc : bJ2 l[i].Attrs = 0
     ·left
      refine ⟨acc ++ (aB6 l[i].Attrs ++ [10]), ?_, ?_, ?_⟩
      ·simp [hc, c1, c2]
      ·simp [hc]
      ·simp only [List.length_append, List.length_cons, List.length_nil]; omega
     ·right; simp [hc]
  ·intro acc _
   simp [aA3, be5]
theorem bW4 {l : List aa3} (h : okX l) : a00 l = some (bo8 l) := by
 unfold a00 bo8
 by_cases h0 : 256 < l.length
 ·have : (256 : Int) < (List.length l : Int) := by omega
  simp [h0, this]
 ·have : ¬ ((256 : Int) < (List.length l : Int)) := by omega
  simp only [h0, this, decide_false, Bool.false_eq_true, if_false]
  refine (ab7 (τ := Str × Int) l.length (fun (x : Str) i => (x, i)) (fun x => ax5 l x.1 x.2) (fun i x => be5 x (l.drop i)) (fun i x => x.length ≤ i * 75020001) (s0 := []) (by simp) ?_ ?_).trans rfl
  ·intro acc i hi hl
   have hok := h.2 _ (List.getElem_mem hi)
   have h1 := hok.1
   have hp := bC9 hok
   have hb : i * 75020001 ≤ 256 * 75020001 := Nat.mul_le_mul (by omega) (Nat.le_refl _)
   have c1 : ay8 acc (aB6 l[i].Attrs) = some (acc ++ aB6 l[i].Attrs) := ae0 (by omega)
   have c2 : ay8 (acc ++ aB6 l[i].Attrs) [10] = some (acc ++ aB6 l[i].Attrs ++ [10]) := ae0 (by simp; omega)
   have hw : IntKind.wrap .i64 ((i : Int) + 1) = (i : Int) + 1 := aa7 (by omega)
   have hz : decide ((List.length l[i].Attrs : Int) = 0) = decide (l[i].Attrs = []) := by
    rw [Bool.eq_iff_iff]; simp only [decide_eq_true_eq]
    rw [← List.length_eq_zero_iff]; omega
   simp only [ax5, dlt hi, if_true, aa6 hi, Option.bind_some, bW2 (l := l[i].Attrs) (by omega), bJ6 hok, hz, hw, List.drop_eq_getElem_cons hi, be5]
   cases hd : decide (l[i].Attrs = []) with
   | true => right; simp
   | false =>
    cases hq : l[i].Attrs.any (·.Query) with
    | true => right; simp
    | false =>
     by_cases hc : bJ2 l[i].Attrs = 0
     ·left
      refine ⟨acc ++ (aB6 l[i].Attrs ++ [10]), ?_, ?_, ?_⟩
      ·simp [hc, c1, c2]
      ·simp [hc]
      ·simp only [List.length_append, List.length_cons, List.length_nil]; omega
     ·right; simp [hc]
  ·intro acc _
   simp [ax5, be5]
def good (x : aa3) : Prop := x.Attrs ≠ [] ∧ bJ2 x.Attrs = 0 ∧ x.Attrs.any (·.Query) = false
theorem b54 {d : Nat} (h : d < 10) : cut ([48, 49, 50, 51, 52, 53, 54, 55, 56, 57, 97, 98, 99, 100, 101, 102] : Str) (d : Int) ((d : Int) + 1) = some [UInt8.ofNat (48 + d)] := by
 rcases (by omega : d = 0 ∨ d = 1 ∨ d = 2 ∨ d = 3 ∨ d = 4 ∨ d = 5 ∨ d = 6 ∨ d = 7 ∨ d = 8 ∨ d = 9) with rfl | rfl | rfl | rfl | rfl | rfl | rfl | rfl | rfl | rfl <;> rfl
theorem cf7 (u : Nat) (h : ¬ u < 10) : Go.Lib.decDigits u = Go.Lib.decDigits (u / 10) ++ [UInt8.ofNat (48 + u % 10)] := by
 rw [Go.Lib.decDigits, dif_neg h]
def cw9 (u : Nat) (s : Str) : Str := if u = 0 ∧ s ≠ [] then s else Go.Lib.decDigits u ++ s
theorem b55 (u : Nat) (s : Str) (h : ¬ (u = 0 ∧ s ≠ [])) : cw9 u s = cw9 (u / 10) (UInt8.ofNat (48 + u % 10) :: s) := by
 unfold cw9
 rw [if_neg h]
 by_cases h10 : u < 10
 ·have : u / 10 = 0 := by omega
  rw [this, if_pos ⟨rfl, by simp⟩, Go.Lib.decDigits_one h10, Nat.mod_eq_of_lt h10]; rfl
 ·rw [if_neg (by omega), cf7 u h10, List.append_assoc]; rfl
theorem bb7 {u : Nat} {s : Str} (h : ¬ (u = 0 ∧ s ≠ [])) (hu : u ≤ 9223372036854775808) (hs : s.length ≤ 100) : ao7 10 (-(u : Int)) s = some (.cont (-((u / 10 : Nat) : Int), UInt8.ofNat (48 + u % 10) :: s)) := by
 unfold ao7
 have hc : (decide (-(u : Int) < 0) || decide (s = [])) = true := by
  rcases Nat.eq_zero_or_pos u with h0 | h0
  ·have : s = [] := Classical.byContradiction fun e => h ⟨h0, e⟩
   simp [this]
  ·have hn : -(u : Int) < 0 := by omega
   rw [decide_eq_true hn]; rfl
 have e1 : Int.tmod (-(u : Int)) 10 = -((u % 10 : Nat) : Int) := by rw [Int.neg_tmod]; rfl
 have e2 : Int.tdiv (-(u : Int)) 10 = -((u / 10 : Nat) : Int) := by rw [Int.neg_tdiv]; rfl
 have e3 : IntKind.wrap .i64 (0 - -((u % 10 : Nat) : Int)) = ((u % 10 : Nat) : Int) := by rw [ag0 (by omega) (by omega)]; omega
 have e4 : IntKind.wrap .i64 (((u % 10 : Nat) : Int) + 1) = ((u % 10 : Nat) : Int) + 1 := ag0 (by omega) (by omega)
 have e5 : IntKind.wrap .i64 (-((u / 10 : Nat) : Int)) = -((u / 10 : Nat) : Int) := ag0 (by omega) (by omega)
 rw [if_pos hc]
 unfold remI ca8
 rw [if_neg (by decide), if_neg (by decide), Option.bind_some, e1, e3, e4, b54 (by omega), Option.bind_some]
 rw [ae0 (by simp; omega), Option.bind_some, Option.bind_some, e2, e5]
 rfl
theorem b56 {u n : Nat} (h1 : u * 10 ^ n ≤ 9223372036854775808) (h2 : 0 < u) : n ≤ 18 := by
 rcases Nat.lt_or_ge 18 n with h | h
 ·have h3 : 10 ^ 19 ≤ 10 ^ n := Nat.pow_le_pow_right (by omega) h
  have h4 : 1 * 10 ^ n ≤ u * 10 ^ n := Nat.mul_le_mul_right _ h2
  omega
 ·exact h
theorem aX7 {u : Nat} (hu : u ≤ 9223372036854775808) : aE9 (-(u : Int)) 10 = some (Go.Lib.decDigits u) := by
 unfold aE9
 refine (br4 (σ := Nat × Str) (fun s => ao7 10 s.1 s.2) (fun s => (-(s.1 : Int), s.2)) (fun s => cw9 s.1 s.2) (fun s => s.1 + (if s.2 = [] then 1 else 0)) (fun s => s.1 * 10 ^ s.2.length ≤ 9223372036854775808 ∧ s.2.length ≤ 20) (fun s hs => ?_) (s0 := (u, [])) ⟨by simpa using hu, by simp⟩).trans ?_
 ·obtain ⟨v, s⟩ := s
  obtain ⟨h1, h2⟩ := hs
  simp only at h1 h2 ⊢
  have hv : v ≤ 9223372036854775808 := by
   have : v * 1 ≤ v * 10 ^ s.length := Nat.mul_le_mul_left _ (Nat.one_le_pow _ _ (by omega))
   omega
  by_cases h : v = 0 ∧ s ≠ []
  ·right
   unfold ao7 cw9
   rw [if_pos h, h.1]
   have hs' : decide (s = []) = false := by simpa using h.2
   simp [hs', h.2]
  ·left
   refine ⟨(v / 10, UInt8.ofNat (48 + v % 10) :: s), bb7 h hv (by omega), b55 v s h, ⟨?_, ?_⟩, ?_⟩
   ·simp only [List.length_cons, Nat.pow_succ]
    have e : v / 10 * (10 ^ s.length * 10) = v / 10 * 10 * 10 ^ s.length := by rw [Nat.mul_comm (10 ^ s.length) 10, Nat.mul_assoc]
    rw [e]
    exact Nat.le_trans (Nat.mul_le_mul_right _ (Nat.div_mul_le_self v 10)) h1
   ·simp only [List.length_cons]
    by_cases hs' : s = []
    ·subst hs'; simp
    ·have : 0 < v := Nat.pos_of_ne_zero fun e => h ⟨e, hs'⟩
     have := b56 h1 this
     omega
   ·simp only [reduceCtorEq, if_false]
    by_cases hs' : s = []
    ·rw [if_pos hs']; omega
    ·rw [if_neg hs']
     have : 0 < v := Nat.pos_of_ne_zero fun e => h ⟨e, hs'⟩
     omega
 ·unfold cw9; simp
theorem aS4 {n : Int} (h0 : -9223372036854775808 ≤ n) (h1 : n ≤ 9223372036854775807) : aC7 n 10 = some (Go.Lib.itoa n) := by
 unfold aC7 aK5 Go.Lib.itoa
 by_cases hn : n < 0
 ·have e : n = -((n.natAbs : Nat) : Int) := by omega
  have hd := aX7 (u := n.natAbs) (by omega)
  rw [← e] at hd
  have hl := Go.Lib.itoa_length_le n h0 h1
  unfold Go.Lib.itoa at hl
  rw [if_pos hn] at hl
  simp only [List.length_cons] at hl
  simp [hn, hd, ae0 (a := [45]) (b := Go.Lib.decDigits n.natAbs) (by simp; omega)]
 ·have hw : IntKind.wrap .i64 (0 - n) = -((n.toNat : Nat) : Int) := by rw [ag0 (by omega) (by omega)]; omega
  have hd := aX7 (u := n.toNat) (by omega)
  rw [hw, hd]
  simp [hn]
theorem aS5 {n : Int} (h0 : -9223372036854775808 ≤ n) (h1 : n ≤ 9223372036854775807) : aZ2 n 10 = some (Go.Lib.itoa n) := by
 unfold aZ2 aV7 aC1 aY9
 rw [if_pos ⟨rfl, h0, h1⟩]; rfl
theorem bQ7 {n : Int} (h0 : -9223372036854775808 ≤ n) (h1 : n ≤ 9223372036854775807) : (Go.Lib.itoa n).length ≤ 21 := Go.Lib.itoa_length_le n h0 h1
def cl1 (c : UInt8) : Bool := (decide ((c.toNat : Int) = 32)) || ((decide ((c.toNat : Int) = 9)) || ((decide ((c.toNat : Int) = 10)) || (decide ((c.toNat : Int) = 13))))
def bD0 : Str → Str → List Str
 | [], [] => []
 | a :: l, [] => [a :: l]
 | [], c :: r => if cl1 c = true then bD0 [] r else bD0 [c] r
 | a :: l, c :: r => if cl1 c = true then (a :: l) :: bD0 [] r else bD0 (a :: l ++ [c]) r
def aS6 (s : Str) : List Str := bD0 [] s
theorem bQ8 {cur r : Str} {c : UInt8} (h : cl1 c = true) : bD0 cur (c :: r) = (if cur = [] then [] else [cur]) ++ bD0 [] r := by
 cases cur with
 | nil => simp [bD0, h]
 | cons a l => simp [bD0, h]
theorem b57 {cur r : Str} {c : UInt8} (h : cl1 c = false) : bD0 cur (c :: r) = bD0 (cur ++ [c]) r := by
 cases cur with
 | nil => simp [bD0, h]
 | cons a l => simp [bD0, h]
theorem bQ9 (cur : Str) : bD0 cur [] = if cur = [] then [] else [cur] := by
 cases cur <;> simp [bD0]
theorem bD1 {s : Str} {k i : Nat} (hk : k ≤ i) (hi : i < s.length) : (s.take (i + 1)).drop k = (s.take i).drop k ++ [s[i]] := by
 rw [List.take_succ_eq_append_getElem hi, List.drop_append_of_le_length (by simp; omega)]
def cy8 (s : Str) (f : Int) (i : Nat) : Str := if f < 0 then [] else (s.take i).drop f.toNat
theorem bw8 {s : Str} (h : s.length ≤ 100000) : aH9 s = some (aS6 s) := by
 unfold aH9
 have hm : s.length ≤ maxLen := by unfold maxLen; omega
 refine (ab7 (σ := Int × List Str) (τ := Int × Int × List Str) s.length (fun a i => (a.1, i, a.2)) (fun a => ai5 s a.1 a.2.1 a.2.2) (fun i a => a.2 ++ bD0 (cy8 s a.1 i) (s.drop i))
  (fun i a => (a.1 = -1 ∨ (0 ≤ a.1 ∧ a.1 < (i : Int))) ∧ a.2.length ≤ i) (s0 := (-1, [])) ⟨.inl rfl, by simp⟩ ?_ ?_).trans ?_
 ·rintro ⟨f, out⟩ i hi ⟨hf, ho⟩
  simp only at hf ho
  left
  have hlt : (i : Int) < (List.length s : Int) := by omega
  have hk29 : ∀ b : Bool, am4 s f (i : Int) out b = some (.cont (if b = true then (-1, ((i : Int) + 1), if f < 0 then out else out ++ [(s.take i).drop f.toNat]) else (if f < 0 then (i : Int) else f, ((i : Int) + 1), out))) := by
   intro b
   unfold am4
   rw [b30 hi hm]
   cases b with
   | true =>
    by_cases h0 : 0 ≤ f
    ·have hn : ¬ f < 0 := by omega
     have hc : cut s f (i : Int) = some ((s.take i).drop f.toNat) := by
      have := a32 (l := s) (a := f.toNat) (b := i) (by omega) (by omega)
      rw [show ((f.toNat : Nat) : Int) = f by omega] at this
      exact this
     simp only [if_true, decide_eq_true h0, hc, Option.bind_some, if_neg hn]
     rw [ab3 (by simp; omega) (by simp; omega), Option.bind_some]
    ·have hn : f < 0 := by omega
     simp [h0, hn]
   | false =>
    by_cases h0 : f < 0
    ·simp [h0]
    ·simp [h0]
  have hstep : ai5 s f (i : Int) out = some (.cont (if cl1 s[i] = true then (-1, ((i : Int) + 1), if f < 0 then out else out ++ [(s.take i).drop f.toNat]) else (if f < 0 then (i : Int) else f, ((i : Int) + 1), out))) := by
   unfold ai5
   simp only [decide_eq_true hlt, if_true, al1 hi, Option.bind_some, hk29]
   unfold cl1
   cases decide ((s[i].toNat : Int) = 32) <;> cases decide ((s[i].toNat : Int) = 9) <;> cases decide ((s[i].toNat : Int) = 10) <;> cases decide ((s[i].toNat : Int) = 13) <;> rfl
  have hd : s.drop i = s[i] :: s.drop (i + 1) := List.drop_eq_getElem_cons hi
  cases hs : cl1 s[i] with
  | true =>
   refine ⟨(-1, if f < 0 then out else out ++ [(s.take i).drop f.toNat]), ?_, ?_, .inl rfl, ?_⟩
   ·show ai5 s f (i : Int) out = _
    rw [hstep, hs]; simp
   ·simp only
    rw [hd, bQ8 hs]
    unfold cy8
    rcases hf with hf | ⟨h1, h2⟩
    ·simp [hf]
    ·have hn : ¬ f < 0 := by omega
     have hne : (s.take i).drop f.toNat ≠ [] := by
      intro e
      have := congrArg List.length e
      simp at this; omega
     simp [hn, hne]
   ·simp only
    split
    ·omega
    ·simp; omega
  | false =>
   refine ⟨(if f < 0 then (i : Int) else f, out), ?_, ?_, .inr ?_, by simp only; omega⟩
   ·show ai5 s f (i : Int) out = _
    rw [hstep, hs]; simp
   ·simp only
    rw [hd, b57 hs]
    unfold cy8
    rcases hf with hf | ⟨h1, h2⟩
    ·have hni : ¬ ((i : Int) < 0) := by omega
     have e := bD1 (s := s) (k := i) (i := i) (Nat.le_refl _) hi
     have e0 : (s.take i).drop i = [] := List.drop_of_length_le (by simp; omega)
     rw [e0] at e
     simp [hf, hni, e]
    ·have hn : ¬ f < 0 := by omega
     simp only [hn, if_false]
     rw [bD1 (by omega) hi]
   ·simp only
    split <;> omega
 ·rintro ⟨f, out⟩ ⟨hf, ho⟩
  simp only at hf ho
  show ai5 s f (s.length : Int) out = _
  unfold ai5 aM5
  have hn : ¬ ((s.length : Int) < (List.length s : Int)) := by omega
  simp only [decide_eq_false hn, Bool.false_eq_true, if_false, List.drop_length, bQ9]
  unfold cy8
  rcases hf with hf | ⟨h1, h2⟩
  ·simp [hf]
  ·have hn : ¬ f < 0 := by omega
   have hc : cut s f (List.length s : Int) = some ((s.take s.length).drop f.toNat) := by
    have := a32 (l := s) (a := f.toNat) (b := s.length) (by omega) (by omega)
    rw [show ((f.toNat : Nat) : Int) = f by omega] at this
    exact this
   have hne : (s.take s.length).drop f.toNat ≠ [] := by
    intro e
    have := congrArg List.length e
    simp at this; omega
   simp only [decide_eq_true h1, if_true, hc, Option.bind_some, if_neg hn, if_neg hne]
   rw [ab3 (by simp; omega) (by simp; omega)]; rfl
 ·simp [aS6, cy8]
end Go.Proofs.YtofpfpkjdigabaaGreatDoor
