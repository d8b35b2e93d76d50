import Derived.Test.YtiliognepodhnaaGreatDoorR
import Derived.Test.YtiliognepodhnaaGreatDoorVmQ
import Derived.Lib.ReplaceLaws
import Derived.Test.YtiliognepodhnaaGreatDoorVmI
import Derived.Lib.ItoaLen
namespace Go.Proofs.YtiliognepodhnaaGreatDoor
open Go.Vm
set_option autoImplicit false
set_option linter.unusedVariables false
set_option linter.unusedSimpArgs false
set_option maxRecDepth 100000
theorem bQ8 {α : Type} {o : Option α} : (o.bind fun x => some x) = o := by cases o <;> rfl
theorem ab0 {i : Nat} (h : i ≤ 1000000) : IntKind.wrap .i64 ((i : Int) + 1) = (i : Int) + 1 := af5 (by omega) (by omega)
theorem dlt {i n : Nat} (h : i < n) : decide ((i : Int) < (n : Int)) = true := by simp [h]
theorem dge {n : Nat} : decide ((n : Int) < (n : Int)) = false := by simp
def av2 (stops : Str) : Str → Nat
 | [] => 0
 | c :: r => if stops.contains c then 0 else av2 stops r + 1
theorem aZ5 (stops s : Str) : av2 stops s ≤ s.length := by
 induction s with
 | nil => exact Nat.le_refl _
 | cons c r ih => unfold av2; split <;> simp <;> omega
theorem bc7 {s stops : Str} (hm : s.length ≤ 1000000) : ar3 s stops = some (av2 stops s : Int) := by
 unfold ar3
 refine (af2 s.length (fun (_ : Unit) i => i) (fun v => az4 s stops v) (fun i _ => ((i + av2 stops (s.drop i) : Nat) : Int)) (fun _ _ => True) (s0 := ()) trivial ?_ ?_).trans ?_
 ·intro _ i hi _
  simp only [az4, dlt hi, if_true, as8 hi, Option.bind_some, strings_IndexByte, stringslite_IndexByte, a16, b43, cv7, List.drop_eq_getElem_cons hi, av2]
  by_cases hc : stops.contains s[i] = true
  ·right; rw [if_pos hc, if_pos hc]; rfl
  ·left
   refine ⟨(), ?_, ?_, trivial⟩
   ·rw [if_neg hc, ab0 (by omega)]
   ·rw [if_neg hc]; omega
 ·intro _ _
  simp [az4, av2]
 ·simp
theorem aZ6 {s p : Str} : stringslite_HasPrefix s p = some (p.isPrefixOf s) := by
 unfold stringslite_HasPrefix
 by_cases h : p.length ≤ s.length
 ·have h1 : ((List.length p : Int) ≤ (List.length s : Int)) := by omega
  simp only [h1, decide_true, if_true, aP3 h, Option.bind_some]
  congr 1
  rw [Bool.eq_iff_iff, decide_eq_true_eq, List.isPrefixOf_iff_prefix]
  rw [List.prefix_iff_eq_take]; exact eq_comm
 ·have h1 : ¬ ((List.length p : Int) ≤ (List.length s : Int)) := by omega
  simp only [h1, decide_false, Bool.false_eq_true, if_false, Option.bind_some]
  congr 1
  symm
  rw [Bool.eq_false_iff]
  intro e
  exact h (List.isPrefixOf_iff_prefix.1 e).length_le
theorem bc8 {s p : Str} : strings_HasPrefix s p = some (p.isPrefixOf s) := by
 unfold strings_HasPrefix; rw [aZ6]; rfl
def br9 (c : UInt8) : Bool := (decide (97 ≤ (c.toNat : Int)) && decide ((c.toNat : Int) ≤ 122)) || ((decide (48 ≤ (c.toNat : Int)) && decide ((c.toNat : Int) ≤ 57)) || (decide ((c.toNat : Int) = 45) || decide ((c.toNat : Int) = 95)))
def b74 (c : UInt8) : Bool := decide (97 ≤ (c.toNat : Int)) && decide ((c.toNat : Int) ≤ 122)
def an2 (s : Str) : Bool := ([33] : Str).isPrefixOf s
def cp3 (s : Str) : Str := if an2 s then s.drop 1 else s
def bY3 (s : Str) : Bool := match s with
 | [] => false
 | c :: r => b74 c && r.all br9 && decide (s.length ≤ 32)
def bQ9 (s : Str) : Bool := bY3 (cp3 s)
theorem b44 (c : UInt8) (h : b74 c = true) : br9 c = true := by
 unfold b74 at h; unfold br9; rw [h]; rfl
theorem b45 {c : UInt8} {r : Str} : bY3 (c :: r) = (b74 c && (c :: r).all br9 && decide ((c :: r).length ≤ 32)) := by
 show (b74 c && r.all br9 && decide _) = _
 cases h : b74 c
 ·rfl
 ·rw [List.all_cons, b44 c h]; rfl
theorem bY4 (s : Str) : (cp3 s).length ≤ s.length := by
 unfold cp3; split <;> simp
theorem bE0 {s : Str} : strings_TrimPrefix s [33] = some (cp3 s) := by
 unfold strings_TrimPrefix stringslite_TrimPrefix
 rw [aZ6 (s := s) (p := [33])]
 unfold cp3 an2
 cases hp : ([33] : Str).isPrefixOf s with
 | false => simp
 | true =>
  have hl : 1 ≤ s.length := (List.isPrefixOf_iff_prefix.1 hp).length_le
  have := az0 (l := s) (a := 1) hl
  simp only [Option.bind_some, if_true]
  rw [show (List.length ([33] : Str) : Int) = ((1 : Nat) : Int) from rfl, this]; rfl
theorem bR0 {s : Str} (hs : s.length ≤ 1000000) : aS6 s = some (bQ9 s) := by
 unfold aS6 bQ9
 rw [bE0, Option.bind_some]
 have hl := bY4 s
 generalize cp3 s = x at hl ⊢
 cases x with
 | nil => rfl
 | cons c r =>
  have hat : ah2 (c :: r) 0 = some c := rfl
  simp only [reduceCtorEq, decide_false, Bool.false_eq_true, if_false, hat, Option.bind_some, b45]
  by_cases hlen : (32 : Int) < (List.length (c :: r) : Int)
  ·have : ¬ ((c :: r).length ≤ 32) := by omega
   simp only [hlen, decide_true, if_true, Option.bind_some, this, decide_false, Bool.and_false]
  ·have h32 : (c :: r).length ≤ 32 := by omega
   simp only [hlen, decide_false, Bool.false_eq_true, if_false, h32, decide_true, Bool.and_true]
   have hloop : aa9 (fun s => ao4 (c :: r) s) 0 = some ((c :: r).all br9) := by
    refine (af2 (c :: r).length (fun (_ : Unit) i => i) (fun v => ao4 (c :: r) v) (fun i _ => ((c :: r).drop i).all br9) (fun _ _ => True) (s0 := ()) trivial ?_ ?_).trans rfl
    ·intro _ i hi _
     have key : ∀ c : UInt8, (bif (decide ((c.toNat : Int) < 97)) then (bif (decide ((c.toNat : Int) < 48)) then ((!decide ((c.toNat : Int) = 45)) && (!decide ((c.toNat : Int) = 95))) else ((decide (57 < (c.toNat : Int))) && ((!decide ((c.toNat : Int) = 45)) && (!decide ((c.toNat : Int) = 95))))) else ((decide (122 < (c.toNat : Int))) && (bif (decide ((c.toNat : Int) < 48)) then ((!decide ((c.toNat : Int) = 45)) && (!decide ((c.toNat : Int) = 95))) else ((decide (57 < (c.toNat : Int))) && ((!decide ((c.toNat : Int) = 45)) && (!decide ((c.toNat : Int) = 95))))))) = !br9 c := bq5 (by decide +kernel)
     simp only [ao4, dlt hi, if_true, as8 hi, Option.bind_some, List.drop_eq_getElem_cons hi, List.all_cons, key]
     cases hn : br9 (c :: r)[i]
     ·right; simp
     ·left
      refine ⟨(), ?_, by simp, trivial⟩
      simp only [Bool.not_true, Bool.false_eq_true, if_false]
      rw [ab0 (by omega)]
    ·intro _ _
     simp [ao4]
   rw [hloop]
   have k1 : ∀ c : UInt8, b74 c = (!decide ((c.toNat : Int) < 97) && !decide (122 < (c.toNat : Int))) := bq5 (by decide +kernel)
   rw [k1]
   cases decide ((c.toNat : Int) < 97) <;> cases decide (122 < (c.toNat : Int)) <;> simp
theorem bK1 {s : Str} : aE2 s = some (an2 s) := by
 unfold aE2 an2
 cases s with
 | nil => rfl
 | cons c r =>
  have h1 : (0 : Int) < (List.length (c :: r) : Int) := by simp only [List.length_cons]; omega
  have h2 : ah2 (c :: r) 0 = some c := rfl
  have h3 : decide ((c.toNat : Int) = 33) = decide (c = 33) := isC c 33
  simp only [h1, decide_true, if_true, h2, Option.bind_some, h3, List.isPrefixOf]
  have key : ∀ c : UInt8, decide (c = 33) = ((33 == c) && true) := bq5 (by decide +kernel)
  rw [key]
theorem b46 {s : Str} (hs : s.length ≤ 1000000) : aP4 s = some (bQ9 s) := by
 have hk : aP4 s = az2 (cp3 s) := by
  unfold aP4
  rw [bK1, Option.bind_some]
  unfold cp3
  cases hp : an2 s with
  | false => simp
  | true =>
   have hl : 1 ≤ s.length := (List.isPrefixOf_iff_prefix.1 hp).length_le
   have := az0 (l := s) (a := 1) hl
   simp only [if_true]
   rw [show (1 : Int) = ((1 : Nat) : Int) from rfl, this]; rfl
 rw [hk]
 unfold bQ9
 have hl := bY4 s
 generalize cp3 s = x at hl ⊢
 unfold az2
 let tail (i : Nat) (x : Str) : Bool := match i with
  | 0 => bY3 x
  | _ => (x.drop i).all br9 && (decide (1 ≤ (List.length x : Int)) && decide ((List.length x : Int) ≤ 32))
 refine (af2 x.length (fun (_ : Unit) i => i) (fun v => av7 x v) (fun i _ => tail i x) (fun _ _ => True) (s0 := ()) trivial ?_ ?_).trans rfl
 ·intro _ i hi _
  have key : ∀ c : UInt8, ((if (decide (97 ≤ (c.toNat : Int))) then some (decide ((c.toNat : Int) ≤ 122)) else some false) : Option Bool) = some (b74 c) := by
   intro c; unfold b74; cases decide (97 ≤ (c.toNat : Int)) <;> rfl
  have key2 : ∀ c : UInt8, (if (decide (48 ≤ (c.toNat : Int))) then (if (decide ((c.toNat : Int) ≤ 57)) then some false else (if (decide ((c.toNat : Int) = 45)) then some false else some (!(decide ((c.toNat : Int) = 95))))) else (if (decide ((c.toNat : Int) = 45)) then some false else some (!(decide ((c.toNat : Int) = 95)))) : Option Bool) = some (!(decide (48 ≤ (c.toNat : Int)) && decide ((c.toNat : Int) ≤ 57) || (decide ((c.toNat : Int) = 45) || decide ((c.toNat : Int) = 95)))) := bq5 (by decide +kernel)
  have key3 : ∀ c : UInt8, br9 c = (b74 c || ((decide (48 ≤ (c.toNat : Int)) && decide ((c.toNat : Int) ≤ 57)) || (decide ((c.toNat : Int) = 45) || decide ((c.toNat : Int) = 95)))) := fun c => rfl
  simp only [av7, dlt hi, if_true, as8 hi, Option.bind_some, key]
  have hlen1 : (1 : Int) ≤ (List.length x : Int) := by omega
  cases i with
  | zero =>
   cases x with
   | nil => simp at hi
   | cons c r =>
    simp only [List.getElem_cons_zero, tail, bY3]
    cases hlow : b74 c with
    | false => right; simp
    | true =>
     left
     refine ⟨(), ?_, ?_, trivial⟩
     ·simp only [Bool.not_true, Bool.false_eq_true, if_false, Option.bind_some]
      rw [ab0 (by omega)]
     ·simp only [Bool.true_and, List.drop_succ_cons, List.drop_zero, hlen1, decide_true]
      congr 1
      rw [Bool.eq_iff_iff, decide_eq_true_eq, decide_eq_true_eq]; omega
  | succ i =>
   have h0 : decide (((i + 1 : Nat) : Int) = 0) = false := by simp; omega
   simp only [tail, List.drop_eq_getElem_cons hi, List.all_cons, h0, Bool.false_eq_true, if_false, key2]
   rw [key3]
   cases hlow : b74 x[i + 1] with
   | true =>
    left
    refine ⟨(), ?_, by simp, trivial⟩
    simp only [Bool.not_true, Bool.false_eq_true, if_false, Option.bind_some]
    rw [ab0 (by omega)]
   | false =>
    simp only [Bool.not_false, if_true, Option.bind_some, Bool.false_or]
    generalize (decide (48 ≤ (x[i + 1].toNat : Int)) && decide ((x[i + 1].toNat : Int) ≤ 57) || (decide ((x[i + 1].toNat : Int) = 45) || decide ((x[i + 1].toNat : Int) = 95))) = q
    cases q with
    | false => right; simp
    | true =>
     left
     refine ⟨(), ?_, by simp, trivial⟩
     simp only [Bool.not_true, Bool.false_eq_true, if_false]
     rw [ab0 (by omega)]
 ·intro _ _
  simp only [av7, dge, Bool.false_eq_true, if_false]
  cases x with
  | nil => rfl
  | cons c r => simp [tail]
def bc9 (v : Str) : Bool := v.all fun c => !([0, 10, 13] : Str).contains c
theorem bK2 (stops s : Str) : decide ((av2 stops s : Int) < (List.length s : Int)) = !(s.all fun c => !stops.contains c) := by
 induction s with
 | nil => rfl
 | cons c r ih =>
  unfold av2
  by_cases hc : stops.contains c = true
  ·rw [if_pos hc]; simp only [List.all_cons, hc]; simp
  ·have hc' : stops.contains c = false := by simpa using hc
   rw [if_neg hc, List.all_cons, hc', Bool.not_false, Bool.true_and, ← ih]
   congr 1
   simp only [List.length_cons, eq_iff_iff]; omega
theorem bR1 {v : Str} (hv : v.length ≤ 1000000) : aJ6 v = some (bc9 v) := by
 unfold aJ6
 refine (af2 v.length (fun (_ : Unit) i => i) (fun s => at0 v s) (fun i _ => bc9 (v.drop i)) (fun _ _ => True) (s0 := ()) trivial ?_ ?_).trans rfl
 ·intro _ i hi _
  have key : ∀ c : UInt8, ((if (decide ((c.toNat : Int) = 0)) then some true else (if (decide ((c.toNat : Int) = 10)) then some true else some (decide ((c.toNat : Int) = 13)))) : Option Bool) = some (([0, 10, 13] : Str).contains c) := bq5 (by decide +kernel)
  simp only [at0, dlt hi, if_true, as8 hi, Option.bind_some, key, bc9, List.drop_eq_getElem_cons hi, List.all_cons]
  cases ([0, 10, 13] : Str).contains v[i] with
  | true => right; simp
  | false =>
   left
   refine ⟨(), ?_, by simp, trivial⟩
   simp only [Bool.false_eq_true, if_false]
   rw [ab0 (by omega)]
 ·intro _ _
  simp [at0, bc9]
def aZ7 (l : List aa1) (n : Str) : Bool := l.any fun b => decide (b.Name = n)
def chk (before : List aa1) (a : aa1) : Int :=
 if (32 : Int) ≤ (List.length before : Int) then 22 else if bQ9 a.Name = false then 6 else if (a.Query && !decide (a.Value = [])) = true ∨ bc9 a.Value = false then 2 else if (1024 : Int) < (List.length a.Value : Int) then 4 else if aZ7 before a.Name = true then 7 else 0
def be1 {α : Type} (p : α → Bool) : List α → Int
 | [] => -1
 | a :: r => if p a then 0 else if be1 p r = -1 then -1 else be1 p r + 1
theorem cd4 {α : Type} (p : α → Bool) (l : List α) : -1 ≤ be1 p l := by
 induction l with
 | nil => exact Int.le_refl _
 | cons a r ih => simp only [be1]; split <;> (try split) <;> omega
theorem cp4 {α : Type} (p : α → Bool) (l : List α) : 0 ≤ be1 p l ↔ l.any p = true := by
 induction l with
 | nil => simp [be1]
 | cons a r ih =>
  have := cd4 p r
  rw [List.any_cons, Bool.or_eq_true, ← ih]
  simp only [be1]
  by_cases hp : p a = true
  ·simp [hp]
  ·rw [if_neg hp]
   split
   ·rename_i h; rw [h]; simp [hp]
   ·simp only [hp, false_or]; omega
theorem bE1 {α : Type} (p : α → Bool) (l : List α) : decide (0 ≤ be1 p l) = l.any p := by
 rw [Bool.eq_iff_iff, decide_eq_true_eq, cp4]
theorem bY5 {α : Type} {p : α → Bool} {a : α} {r : List α} (h : p a = true) : be1 p (a :: r) = 0 := by simp [be1, h]
theorem bs0 {α : Type} {p : α → Bool} {a : α} {r : List α} (h : ¬ p a = true) : be1 p (a :: r) = if be1 p r = -1 then -1 else be1 p r + 1 := by simp [be1, h]
theorem aT5 {α : Type} {p : α → Bool} {l : List α} {body : Int → Option (Step Int Int)} (hl : l.length ≤ 1000000)
  (hb : ∀ i (h : i < l.length), body (i : Int) = if p l[i] then some (.done (i : Int)) else some (.cont (IntKind.wrap .i64 ((i : Int) + 1)))) (he : body (l.length : Int) = some (.done (-1))) : aa9 body 0 = some (be1 p l) := by
 refine (af2 l.length (fun (_ : Unit) i => i) body (fun i _ => if be1 p (l.drop i) = -1 then -1 else (i : Int) + be1 p (l.drop i)) (fun _ _ => True) (s0 := ()) trivial ?_ ?_).trans ?_
 ·intro _ i hi _
  rw [hb i hi, List.drop_eq_getElem_cons hi]
  have := cd4 p (l.drop (i + 1))
  by_cases hp : p l[i] = true
  ·right; rw [if_pos hp, bY5 hp]; simp
  ·left
   refine ⟨(), ?_, ?_, trivial⟩
   ·rw [if_neg hp, ab0 (by omega)]
   ·rw [bs0 hp]
    by_cases h : be1 p (l.drop (i + 1)) = -1
    ·simp [h]
    ·rw [if_neg h, if_neg (by omega), if_neg h]; omega
 ·intro _ _
  rw [he]; simp [be1]
 ·simp only [List.drop_zero]
  congr 1
  split
  ·rename_i h; exact h.symm
  ·simp
theorem bY6 {before : List aa1} {a : aa1} (hb : before.length ≤ 1000000) (hn : a.Name.length ≤ 1000000) (hv : a.Value.length ≤ 1000000) : aI3 before a = some (chk before a) := by
 unfold aI3 chk
 have hix : ad7 before a = some (be1 (fun b => decide (b.Name = a.Name)) before) := by
  unfold ad7
  refine aT5 hb ?_ ?_
  ·intro i hi
   simp only [ac0, dlt hi, if_true, aa7 hi, Option.bind_some, aX2]
  ·simp [ac0]
 have hc : ac1 before a = some (aZ7 before a.Name) := by
  unfold ac1 aZ7
  rw [hix, Option.bind_some, bE1]
 simp only [bR0 hn, Option.bind_some, bc7 hv, hc, bK2]
 by_cases h1 : (32 : Int) ≤ (List.length before : Int)
 ·simp [h1]
 ·simp only [h1, decide_false, Bool.false_eq_true, if_false]
  cases bQ9 a.Name with
  | false => simp
  | true =>
   simp only [Bool.not_true, Bool.false_eq_true, if_false, Bool.true_eq_false]
   cases a.Query && !decide (a.Value = []) with
   | true => simp
   | false =>
    change (if (!bc9 a.Value) = true then _ else _) = _
    cases bc9 a.Value with
    | false => simp
    | true =>
     simp only [Bool.not_true, Bool.false_eq_true, if_false, Bool.true_eq_false, or_self]
     by_cases h4 : (1024 : Int) < (List.length a.Value : Int)
     ·simp [h4]
     ·simp only [h4, decide_false, Bool.false_eq_true, if_false]
      cases aZ7 before a.Name <;> simp
theorem cd5 {before : List aa1} {a : aa1} (hb : before.length ≤ 1000000) (hn : a.Name.length ≤ 1000000) (hv : a.Value.length ≤ 1000000) : aX1 before a = some (chk before a) := by
 unfold aX1 chk
 have hloop : aa9 (fun s => au6 before a s) 0 = some (if aZ7 before a.Name = true then (7 : Int) else 0) := by
  refine (af2 before.length (fun (_ : Unit) i => i) (fun s => au6 before a s) (fun i _ => if aZ7 (before.drop i) a.Name = true then (7 : Int) else 0) (fun _ _ => True) (s0 := ()) trivial ?_ ?_).trans rfl
  ·intro _ i hi _
   simp only [au6, dlt hi, if_true, aa7 hi, Option.bind_some, aZ7, List.drop_eq_getElem_cons hi, List.any_cons]
   by_cases h : before[i].Name = a.Name
   ·right; simp [h]
   ·left
    refine ⟨(), ?_, by simp [h], trivial⟩
    simp only [h, decide_false, Bool.false_eq_true, if_false]
    rw [ab0 (by omega)]
  ·intro _ _
   simp [au6, aZ7]
 simp only [b46 hn, Option.bind_some, bR1 hv, hloop]
 by_cases h1 : (32 : Int) ≤ (List.length before : Int)
 ·simp [h1]
 ·simp only [h1, decide_false, Bool.false_eq_true, if_false]
  cases bQ9 a.Name with
  | false => simp
  | true =>
   simp only [Bool.not_true, Bool.false_eq_true, if_false, Bool.true_eq_false]
   by_cases h4 : (1024 : Int) < (List.length a.Value : Int)
   ·cases a.Query <;> cases hd : decide (a.Value = []) <;> cases bc9 a.Value <;> simp [h4]
   ·cases a.Query <;> cases hd : decide (a.Value = []) <;> cases bc9 a.Value <;> simp [h4]
def okA (a : aa1) : Prop := a.Name.length ≤ 5000 ∧ a.Value.length ≤ 5000
def okL (l : List aa1) : Prop := l.length ≤ 5000 ∧ ∀ a ∈ l, okA a
def bK3 (before : List aa1) : List aa1 → Int
 | [] => 0
 | a :: r => if chk before a = 0 then bK3 (before ++ [a]) r else chk before a
def a87 (l : List aa1) : Int := bK3 [] l
theorem okL.get {l : List aa1} (h : okL l) {i : Nat} (hi : i < l.length) : okA l[i] := h.2 _ (List.getElem_mem hi)
theorem bl8 {l : List aa1} (h : okL l) : aB5 l = some (a87 l) := by
 unfold aB5
 refine (af2 l.length (fun (_ : Unit) i => i) (fun s => az5 l s) (fun i _ => bK3 (l.take i) (l.drop i)) (fun _ _ => True) (s0 := ()) trivial ?_ ?_).trans ?_
 ·intro _ i hi _
  have ha := h.get hi
  have h1 := h.1
  simp only [az5, dlt hi, if_true, aa7 hi, Option.bind_some, aP3 (Nat.le_of_lt hi), bY6 (before := l.take i) (a := l[i]) (by simp; omega) (by have := ha.1; omega) (by have := ha.2; omega), List.drop_eq_getElem_cons hi, bK3]
  by_cases hz : chk (l.take i) l[i] = 0
  ·left
   refine ⟨(), ?_, ?_, trivial⟩
   ·simp only [hz, decide_true, Bool.not_true, Bool.false_eq_true, if_false]
    rw [ab0 (by omega)]
   ·simp only [hz, if_true]
    rw [List.take_succ_eq_append_getElem hi]
  ·right; simp [hz]
 ·intro _ _
  simp [az5, bK3]
 ·simp [a87]
theorem bs1 {l : List aa1} (h : okL l) : aA9 l = some (a87 l) := by
 unfold aA9
 refine (af2 l.length (fun (_ : Unit) i => i) (fun s => av8 l s) (fun i _ => bK3 (l.take i) (l.drop i)) (fun _ _ => True) (s0 := ()) trivial ?_ ?_).trans ?_
 ·intro _ i hi _
  have ha := h.get hi
  have h1 := h.1
  simp only [av8, dlt hi, if_true, aa7 hi, Option.bind_some, aP3 (Nat.le_of_lt hi), cd5 (before := l.take i) (a := l[i]) (by simp; omega) (by have := ha.1; omega) (by have := ha.2; omega), List.drop_eq_getElem_cons hi, bK3]
  by_cases hz : chk (l.take i) l[i] = 0
  ·left
   refine ⟨(), ?_, ?_, trivial⟩
   ·simp only [hz, decide_true, Bool.not_true, Bool.false_eq_true, if_false]
    rw [ab0 (by omega)]
   ·simp only [hz, if_true]
    rw [List.take_succ_eq_append_getElem hi]
  ·right; simp [hz]
 ·intro _ _
  simp [av8, bK3]
 ·simp [a87]
def dbl (s : Str) : Str := s.flatMap fun c => if c = 39 then [39, 39] else [c]
def oddB (s : Str) : Bool := decide (s = []) || s.any fun c => ([32, 9, 39] : Str).contains c
def bs3 (s : Str) : Str := if oddB s then [39] ++ dbl s ++ [39] else s
theorem cd6 (s : Str) : (dbl s).length ≤ 2 * s.length := by
 induction s with
 | nil => exact Nat.le_refl _
 | cons c r ih =>
  unfold dbl at ih ⊢
  rw [List.flatMap_cons, List.length_append, List.length_cons]
  split <;> simp only [List.length_cons, List.length_nil] <;> omega
theorem bz9 (s : Str) : (bs3 s).length ≤ 2 * s.length + 2 := by
 have := cd6 s
 unfold bs3
 split <;> simp <;> omega
theorem bE2 {c : UInt8} (hc : c ≠ 39) (k : Nat) (s : Str) (hk : k ≤ Go.Lib.count s [39]) : Go.Lib.replaceK [39] [39, 39] k (c :: s) = c :: Go.Lib.replaceK [39] [39, 39] k s := by
 cases k with
 | zero => rfl
 | succ k =>
  obtain ⟨i, hi⟩ := Go.Lib.index_of_count (s := s) (old := [39]) (by omega)
  have hi' : Go.Lib.index (c :: s) [39] = ((i + 1 : Nat) : Int) := by
   have hp : ([39] : Str).isPrefixOf (c :: s) = false := by simp [List.isPrefixOf, Ne.symm hc]
   rw [Go.Lib.index, hp, hi]
   have : ((i : Int) == -1) = false := by rw [beq_eq_false_iff_ne]; omega
   simp [this]
  rw [Go.Lib.replaceK_hit _ _ _ _ _ hi, Go.Lib.replaceK_hit _ _ _ _ _ hi']
  simp [Nat.add_right_comm]
theorem bR2 (s : Str) : Go.Lib.replaceK [39] [39, 39] (Go.Lib.count s [39]) s = dbl s := by
 induction s with
 | nil => rw [Go.Lib.count_one]; rfl
 | cons c r ih =>
  by_cases hc : c = 39
  ·subst hc
   have hi : Go.Lib.index (39 :: r) [39] = ((0 : Nat) : Int) := by rw [Go.Lib.index]; simp [List.isPrefixOf]
   rw [Go.Lib.count_cons_eq, Nat.add_comm 1, Go.Lib.replaceK_hit _ _ _ _ _ hi]
   simp only [List.take_zero, List.nil_append, Nat.zero_add, List.length_cons, List.length_nil, List.drop_succ_cons, List.drop_zero, ih]
   unfold dbl
   rw [List.flatMap_cons, if_pos rfl]
  ·rw [Go.Lib.count_cons_ne _ _ _ hc, bE2 hc _ _ (Nat.le_refl _), ih]
   unfold dbl
   rw [List.flatMap_cons, if_neg hc]; rfl
theorem bE3 {s : Str} (hs : s.length ≤ 1000000) : strings_ReplaceAll s [39] [39, 39] = some (dbl s) := by
 have hc : Go.Lib.count s [39] ≤ s.length := by rw [Go.Lib.count_one]; exact List.count_le_length
 unfold strings_ReplaceAll aS3
 rw [if_pos ⟨by omega, by simp, by simp; omega⟩]
 unfold Go.Lib.replaceAll Go.Lib.replace
 rw [if_neg (by decide)]
 have : Go.Lib.replaceNum s [39] (-1) = Go.Lib.count s [39] := by unfold Go.Lib.replaceNum; rw [if_pos (Or.inl (by omega))]
 rw [this, bR2]
theorem cp5 {s : Str} (hs : s.length ≤ 1000000) : a22 s = some (bs3 s) := by
 unfold a22
 have hd := cd6 s
 have c1 : an8 [39] (dbl s) = some ([39] ++ dbl s) := ah1 (by simp; omega)
 have c2 : an8 ([39] ++ dbl s) [39] = some ([39] ++ dbl s ++ [39]) := ah1 (by simp; omega)
 have hu := aZ5 [32, 9, 39] s
 have ha := bK2 [32, 9, 39] s
 have hany : (s.any fun c => ([32, 9, 39] : Str).contains c) = !(s.all fun c => !([32, 9, 39] : Str).contains c) := by
  rw [List.any_eq_not_all_not]
 have hdd : decide ((av2 [32, 9, 39] s : Int) = (List.length s : Int)) = (s.all fun c => !([32, 9, 39] : Str).contains c) := by
  cases h : s.all fun c => !([32, 9, 39] : Str).contains c with
  | true => rw [h] at ha; simp only [Bool.not_true, decide_eq_false_iff_not] at ha; simp; omega
  | false => rw [h] at ha; simp only [Bool.not_false, decide_eq_true_eq] at ha; simp; omega
 simp only [bc7 hs, Option.bind_some, bE3 hs, c1, c2, hdd]
 unfold bs3 oddB
 rw [hany]
 cases h : s.all fun c => !([32, 9, 39] : Str).contains c <;> cases hn : decide (s = []) <;> simp
def bA0 (a : aa1) : Str := if a.Query then a.Name ++ [63] else a.Name ++ [61] ++ bs3 a.Value
theorem bY7 {a : aa1} (h : okA a) : (bA0 a).length ≤ 15003 := by
 have := bz9 a.Value
 have h1 := h.1
 have h2 := h.2
 unfold bA0
 split <;> simp <;> omega
def a60 (l : List aa1) : Str := Go.Lib.join (l.map bA0) [32]
theorem bY8 {K : Nat} {sep : Str} : ∀ {l : List Str}, (∀ x ∈ l, x.length ≤ K) → (Go.Lib.join l sep).length ≤ l.length * (K + sep.length)
 | [], _ => by simp [Go.Lib.join_nil]
 | x :: r, h => by
  rw [Go.Lib.join_cons, List.length_append]
  have hx := h x (by simp)
  have : ∀ r : List Str, (∀ y ∈ r, y.length ≤ K) → (Go.Lib.joinTail sep r).length ≤ r.length * (K + sep.length) := by
   intro r
   induction r with
   | nil => intro _; simp [Go.Lib.joinTail]
   | cons y r ih =>
    intro h
    have h1 := ih fun z hz => h z (List.mem_cons_of_mem _ hz)
    have h2 := h y (by simp)
    unfold Go.Lib.joinTail at h1 ⊢
    rw [List.map_cons, List.flatten_cons, List.length_append, List.length_append, List.length_cons, Nat.add_mul, Nat.one_mul]
    omega
  have := this r fun z hz => h z (List.mem_cons_of_mem _ hz)
  rw [List.length_cons, Nat.add_mul, Nat.one_mul]
  omega
theorem cd7 {l : List aa1} (h : okL l) (i : Nat) : (Go.Lib.join ((l.take i).map bA0) [32]).length ≤ 75020000 := by
 have h1 := bY8 (K := 15003) (sep := [32]) (l := (l.take i).map bA0) (by
  intro x hx
  obtain ⟨a, ha, rfl⟩ := List.mem_map.1 hx
  exact bY7 (h.2 a (List.mem_of_mem_take ha)))
 have h2 := h.1
 simp only [List.length_map, List.length_take, List.length_cons, List.length_nil] at h1
 have : min i l.length * (15003 + (0 + 1)) ≤ 5000 * 15004 := Nat.mul_le_mul (by omega) (by omega)
 omega
theorem cp6 {l : List aa1} (h : okL l) : a23 l = some (if a87 l = 0 then (a60 l, 0) else ([], a87 l)) := by
 unfold a23
 rw [bl8 h, Option.bind_some]
 by_cases hz : a87 l = 0
 ·have hl := h.1
  have hmk : mkC 16 ([] : Str) 0 (List.length l : Int) = some [] := by
   unfold mkC
   rw [if_pos ⟨by omega, by omega, by omega, by omega⟩]; rfl
  simp only [hz, decide_true, Bool.not_true, Bool.false_eq_true, if_false, if_true, hmk, Option.bind_some]
  refine (af2 (τ := Int × List Str) l.length (fun (x : List Str) i => (i, x)) (fun x => aw4 l x.1 x.2) (fun i _ => (a60 l, 0)) (fun i x => x = (l.take i).map bA0) (s0 := []) (by simp) ?_ ?_).trans rfl
  ·rintro x i hi rfl
   left
   have ha := h.get hi
   have h1 := ha.1
   have h2 := ha.2
   have hw : IntKind.wrap .i64 ((i : Int) + 1) = (i : Int) + 1 := ab0 (by omega)
   have hq := bz9 l[i].Value
   have c1 : an8 l[i].Name [63] = some (l[i].Name ++ [63]) := ah1 (by simp; omega)
   have c2 : an8 l[i].Name [61] = some (l[i].Name ++ [61]) := ah1 (by simp; omega)
   have c3 : an8 (l[i].Name ++ [61]) (bs3 l[i].Value) = some (l[i].Name ++ [61] ++ bs3 l[i].Value) := ah1 (by simp; omega)
   have ap : ∀ y : Str, aF9 16 ((l.take i).map bA0) [y] = some ((l.take i).map bA0 ++ [y]) := fun y => aj0 (by simp; omega) (by simp; omega)
   refine ⟨(l.take (i + 1)).map bA0, ?_, rfl, rfl⟩
   simp only [aw4, dlt hi, if_true, aa7 hi, Option.bind_some, c1, c2, cp5 (s := l[i].Value) (by omega), c3, ap, hw]
   rw [List.take_succ_eq_append_getElem hi, List.map_append, List.map_cons, List.map_nil]
   unfold bA0
   cases l[i].Query <;> simp
  ·rintro x rfl
   have hj : strings_Join (l.map bA0) [32] = some (a60 l) := by
    unfold strings_Join a60
    have := cd7 h l.length
    rw [List.take_length] at this
    exact bQ6 (by simp; omega) (by omega)
   simp only [aw4, dge, Bool.false_eq_true, if_false, aN8, List.take_length, hj, Option.bind_some, Option.map_some]
 ·simp [hz]
def ai1 : Str → Option (Str × Nat)
 | [] => none
 | [c] => if c = 39 then some ([], 1) else none
 | c :: d :: r => if c = 39 then (if d = 39 then (ai1 r).map fun x => (39 :: x.1, x.2 + 2) else some ([], 1)) else (ai1 (d :: r)).map fun x => (c :: x.1, x.2 + 1)
theorem b47 {c : UInt8} {r : Str} (h : c ≠ 39) : ai1 (c :: r) = (ai1 r).map fun x => (c :: x.1, x.2 + 1) := by
 cases r with
 | nil => simp [ai1, h]
 | cons d r => rw [ai1, if_neg h]
theorem bK4 {r : Str} (h : r.head? ≠ some 39) : ai1 (39 :: r) = some ([], 1) := by
 cases r with
 | nil => rfl
 | cons d r =>
  have : d ≠ 39 := by simpa using h
  rw [ai1, if_pos rfl, if_neg this]
theorem bR3 {r : Str} : ai1 (39 :: 39 :: r) = (ai1 r).map fun x => (39 :: x.1, x.2 + 2) := by
 rw [ai1, if_pos rfl, if_pos rfl]
theorem is39 (c : UInt8) : decide ((c.toNat : Int) = 39) = decide (c = 39) := isC c 39
theorem bR4 (s : Str) (i : Nat) (hi : i ≤ s.length) : i = s.length ∨ ∃ h : i < s.length, (s[i] ≠ 39 ∧ ai1 (s.drop i) = (ai1 (s.drop (i + 1))).map fun x => (s[i] :: x.1, x.2 + 1)) ∨
  (s[i] = 39 ∧ (i + 1 = s.length ∨ ∃ h2 : i + 1 < s.length, s[i + 1] ≠ 39) ∧ ai1 (s.drop i) = some ([], 1)) ∨
  (s[i] = 39 ∧ (∃ h2 : i + 1 < s.length, s[i + 1] = 39) ∧ ai1 (s.drop i) = (ai1 (s.drop (i + 2))).map fun x => (39 :: x.1, x.2 + 2)) := by
 rcases Nat.lt_or_ge i s.length with h | h
 ·right
  refine ⟨h, ?_⟩
  rw [List.drop_eq_getElem_cons h]
  by_cases hc : s[i] = 39
  ·right
   rcases Nat.lt_or_ge (i + 1) s.length with h2 | h2
   ·by_cases hd : s[i + 1] = 39
    ·right
     refine ⟨hc, ⟨h2, hd⟩, ?_⟩
     rw [hc, List.drop_eq_getElem_cons h2, hd, bR3]
    ·left
     refine ⟨hc, Or.inr ⟨h2, hd⟩, ?_⟩
     rw [hc, List.drop_eq_getElem_cons h2]
     exact bK4 fun e => hd (Option.some.inj e)
   ·left
    refine ⟨hc, Or.inl (by omega), ?_⟩
    rw [hc, List.drop_of_length_le h2]; rfl
  ·left
   exact ⟨hc, b47 hc⟩
 ·left; omega
theorem cd8 {s : Str} (hs : s.length ≤ 1000000) : aS5 s = some (match ai1 s with | some x => (x.1, (x.2 : Int), true) | none => ([], 0, false)) := by
 unfold aS5
 refine (aP2 (σ := Nat × Str) (fun x => ak1 s x.1 x.2) (fun x => ((x.1 : Int), x.2)) (fun x => match ai1 (s.drop x.1) with | some y => (x.2 ++ y.1, ((x.1 + y.2 : Nat) : Int), true) | none => ([], 0, false)) (fun x => s.length - x.1)
  (fun x => x.1 ≤ s.length ∧ x.2.length ≤ x.1) ?_ (s0 := (0, [])) ⟨by simp, by simp⟩).trans ?_
 ·rintro ⟨i, acc⟩ ⟨h1, h2⟩
  simp only at h1 h2
  rcases bR4 s i h1 with he | ⟨h, hcase⟩
  ·right
   subst he
   simp [ak1, ai1]
  ·have hw : IntKind.wrap .i64 ((i : Int) + 1) = (i : Int) + 1 := ab0 (by omega)
   have hw2 : IntKind.wrap .i64 ((i : Int) + 1 + 1) = ((i + 2 : Nat) : Int) := by rw [af5 (by omega) (by omega)]; omega
   have b1 : ∀ c : UInt8, bAdd acc [c] = some (acc ++ [c]) := fun c => aI2 (by simp; omega)
   rcases hcase with ⟨hc, hq⟩ | ⟨hc, hn, hq⟩ | ⟨hc, ⟨h3, hd⟩, hq⟩
   ·left
    refine ⟨(i + 1, acc ++ [s[i]]), ?_, ?_, ⟨by simp only; omega, by simp; omega⟩, by simp only; omega⟩
    ·simp only [ak1, dlt h, if_true, as8 h, Option.bind_some, is39, hc, decide_false, Bool.not_false, b1, hw]
     rfl
    ·simp only [hq]
     cases ai1 (s.drop (i + 1)) with
     | none => rfl
     | some y => simp; omega
   ·right
    simp only [ak1, dlt h, if_true, as8 h, Option.bind_some, is39, hc, decide_true, Bool.not_true, Bool.false_eq_true, if_false, hw, hq]
    rcases hn with h3 | ⟨h3, hd⟩
    ·have : (i : Int) + 1 = (List.length s : Int) := by omega
     simp [this]
    ·have h4 : ¬ ((i : Int) + 1 = (List.length s : Int)) := by omega
     have h5 : ah2 s ((i : Int) + 1) = some s[i + 1] := by
      have := as8 h3
      rwa [show ((i + 1 : Nat) : Int) = (i : Int) + 1 by omega] at this
     simp [h4, h5, is39, hd]
   ·left
    have h4 : ¬ ((i : Int) + 1 = (List.length s : Int)) := by omega
    have h5 : ah2 s ((i : Int) + 1) = some s[i + 1] := by
     have := as8 h3
     rwa [show ((i + 1 : Nat) : Int) = (i : Int) + 1 by omega] at this
    refine ⟨(i + 2, acc ++ [39]), ?_, ?_, ⟨by simp only; omega, by simp; omega⟩, by simp only; omega⟩
    ·simp only [ak1, dlt h, if_true, as8 h, Option.bind_some, is39, hc, decide_true, Bool.not_true, Bool.false_eq_true, if_false, hw, h4, decide_false, h5, hd, b1, hw2]
    ·simp only [hq]
     cases ai1 (s.drop (i + 2)) with
     | none => rfl
     | some y => simp; omega
 ·simp only [List.drop_zero]
  cases ai1 s <;> simp
def bs4 (c : UInt8) : Bool := decide ((c.toNat : Int) = 32) || decide ((c.toNat : Int) = 9)
def cB0 (s : Str) : Bool := match s with
 | [] => true
 | c :: _ => bs4 c
def bad (e : Int) : aa1 × Nat × Int := (⟨[], [], false⟩, 0, e)
def fin (s : Str) (a : aa1) (n : Nat) : aa1 × Nat × Int := if cB0 (s.drop n) then (a, n, 0) else bad 2
def valS (s nm : Str) (n : Nat) (r : Str) : aa1 × Nat × Int := if (r.take (av2 [32, 9] r)).contains 39 then bad 2 else fin s ⟨nm, r.take (av2 [32, 9] r), false⟩ (n + (1 + av2 [32, 9] r))
def cJ3 (s nm : Str) (n : Nat) : Str → aa1 × Nat × Int
 | [] => bad 2
 | c :: r => if c = 63 then fin s ⟨nm, [], true⟩ (n + 1) else if c = 61 then
  (if ([39] : Str).isPrefixOf r then (match ai1 (r.drop 1) with | none => bad 48 | some x => fin s ⟨nm, x.1, false⟩ (n + (2 + x.2))) else valS s nm n r) else bad 2
def bj4 : Str := [32, 9, 61, 63, 39]
def bw4 (s : Str) : aa1 × Nat × Int := cJ3 s (s.take (av2 bj4 s)) (av2 bj4 s) (s.drop (av2 bj4 s))
theorem bE4 {s nm v : Str} {n : Nat} {q : Bool} (hn : n ≤ s.length) : aB3 s nm (n : Int) v q = some ((fin s ⟨nm, v, q⟩ n).1, ((fin s ⟨nm, v, q⟩ n).2.1 : Int), (fin s ⟨nm, v, q⟩ n).2.2) := by
 unfold aB3 fin
 rcases Nat.lt_or_ge n s.length with h | h
 ·simp only [dlt h, if_true, as8 h, Option.bind_some, aP5, List.drop_eq_getElem_cons h, cB0]
  change (if (!bs4 s[n]) = true then _ else _) = _
  cases bs4 s[n] <;> rfl
 ·have : n = s.length := by omega
  subst this
  simp [cB0]
theorem aT6 : ∀ (s : Str) (x : Str × Nat), ai1 s = some x → x.1.length ≤ x.2 ∧ 1 ≤ x.2 ∧ x.2 ≤ s.length
 | [], x, h => by simp [ai1] at h
 | [c], x, h => by
  unfold ai1 at h
  split at h
  ·cases h; simp
  ·cases h
 | c :: d :: r, x, h => by
  rw [ai1] at h
  split at h
  ·split at h
   ·obtain ⟨y, hy, rfl⟩ := Option.map_eq_some_iff.1 h
    have := aT6 r y hy
    simp; omega
   ·cases h; simp
  ·obtain ⟨y, hy, rfl⟩ := Option.map_eq_some_iff.1 h
   have := aT6 (d :: r) y hy
   simp at this ⊢; omega
theorem cJ4 {s : Str} (hs : s.length ≤ 1000000) : bl6 s = some ((bw4 s).1, ((bw4 s).2.1 : Int), (bw4 s).2.2) := by
 unfold bl6 bw4
 have hn := aZ5 bj4 s
 have hu : ar3 s [32, 9, 61, 63, 39] = some (av2 bj4 s : Int) := bc7 hs
 rw [hu, Option.bind_some]
 generalize av2 bj4 s = n at hn ⊢
 rw [aP3 hn, Option.bind_some, az0 hn, Option.bind_some]
 generalize hr : s.drop n = rest
 have hlen : rest.length = s.length - n := by rw [← hr, List.length_drop]
 simp only [bc8, Option.bind_some]
 cases rest with
 | nil => simp [List.isPrefixOf, cJ3, bad]
 | cons c r =>
  simp only [List.length_cons] at hlen
  unfold cJ3
  by_cases h63 : c = 63
  ·subst h63
   have hw : IntKind.wrap .i64 ((n : Int) + 1) = ((n + 1 : Nat) : Int) := by rw [af5 (by omega) (by omega)]; omega
   simp only [List.isPrefixOf, BEq.rfl, Bool.and_true, if_true, hw]
   exact bE4 (by omega)
  ·have e63 : ((63 : UInt8) == c) = false := by simpa using Ne.symm h63
   simp only [List.isPrefixOf, e63, Bool.false_and, Bool.false_eq_true, if_false, h63]
   by_cases h61 : c = 61
   ·subst h61
    simp only [BEq.rfl, Bool.true_and, if_true]
    cases r with
    | nil =>
     have hu2 : ar3 [61] [32, 9] = some (1 : Int) := bc7 (by simp)
     have hcut : cut ([61] : Str) 1 1 = some [] := rfl
     have hcon : strings_Contains [] [39] = some false := rfl
     have hw : IntKind.wrap .i64 ((n : Int) + 1) = ((n + 1 : Nat) : Int) := by rw [af5 (by omega) (by omega)]; omega
     simp only [List.isPrefixOf, Bool.false_eq_true, if_false, hu2, Option.bind_some, hcut, hcon, hw]
     exact bE4 (by simp at hlen; omega)
    | cons d r2 =>
     simp only [List.isPrefixOf, Bool.and_true]
     by_cases h39 : d = 39
     ·subst h39
      have hcut : cut (61 :: 39 :: r2) 2 (List.length (61 :: 39 :: r2) : Int) = some r2 := by
       have := az0 (l := (61 :: 39 :: r2 : Str)) (a := 2) (by simp)
       simpa using this
      simp only [List.length_cons] at hlen
      have hcut' : cut (61 :: 39 :: r2) 2 (List.length (61 :: 39 :: r2) : Int) = some r2 := hcut
      simp only [BEq.rfl, if_true, hcut', Option.bind_some, cd8 (s := r2) (by omega), List.drop_succ_cons, List.drop_zero]
      cases hq : ai1 r2 with
      | none => simp [bad]
      | some x =>
       have hx := aT6 r2 x hq
       have hw1 : IntKind.wrap .i64 (2 + (x.2 : Int)) = 2 + (x.2 : Int) := af5 (by omega) (by omega)
       have hw2 : IntKind.wrap .i64 ((n : Int) + (2 + (x.2 : Int))) = ((n + (2 + x.2) : Nat) : Int) := by rw [af5 (by omega) (by omega)]; omega
       simp only [Bool.not_true, Bool.false_eq_true, if_false, hw1, hw2]
       exact bE4 (by omega)
     ·have e39 : ((39 : UInt8) == d) = false := by simpa using Ne.symm h39
      simp only [List.length_cons] at hlen
      have hu2 : ar3 (61 :: d :: r2) [32, 9] = some ((av2 [32, 9] (d :: r2) + 1 : Nat) : Int) := by
       rw [bc7 (by simp; omega), av2]; rfl
      have hle := aZ5 [32, 9] (d :: r2)
      simp only [List.length_cons] at hle
      simp only [e39, Bool.false_eq_true, if_false, hu2, Option.bind_some]
      unfold valS
      generalize av2 [32, 9] (d :: r2) = k at hle ⊢
      have hcut : cut (61 :: d :: r2) 1 ((k + 1 : Nat) : Int) = some ((d :: r2).take k) := by
       have := bQ5 (l := (61 :: d :: r2 : Str)) (a := 1) (b := k + 1) (by omega) (by simp; omega)
       simpa using this
      have hcon : strings_Contains ((d :: r2).take k) [39] = some (((d :: r2).take k).contains 39) := by
       unfold strings_Contains strings_Index bJ2
       rw [Option.bind_some, cv7]
      have hw : IntKind.wrap .i64 ((n : Int) + ((k + 1 : Nat) : Int)) = ((n + (1 + k) : Nat) : Int) := by rw [af5 (by omega) (by omega)]; omega
      simp only [hcut, Option.bind_some, hcon, hw]
      cases hc : ((d :: r2).take k).contains 39 with
      | true => simp [bad]
      | false =>
       simp only [Bool.false_eq_true, if_false]
       exact bE4 (by omega)
   ·have e61 : ((61 : UInt8) == c) = false := by simpa using Ne.symm h61
    simp [e61, h61, bad]
def agree (x : aa1 × Int × Int) (at_ : Nat) (o : aa1 × Nat × Int) : Prop := x.2.2 = o.2.2 ∧ (o.2.2 = 0 → x.1 = o.1 ∧ x.2.1 = ((at_ + o.2.1 : Nat) : Int))
def bw5 (out : List aa1) (o : aa1 × Nat × Int) : Int := if o.2.2 = 0 then chk out o.1 else o.2.2
def av5 : Nat → List aa1 → Nat → Str → List aa1 × Int × Int
 | 0, out, _, _ => (out, 0, 0)
 | _ + 1, out, _, [] => (out, 0, 0)
 | f + 1, out, i, c :: r => if bs4 c then av5 f out (i + 1) r else if bw5 out (bw4 (c :: r)) = 0 then av5 f (out ++ [(bw4 (c :: r)).1]) (i + (bw4 (c :: r)).2.1) ((c :: r).drop (bw4 (c :: r)).2.1) else ([], (i : Int), bw5 out (bw4 (c :: r)))
def an6 (s : Str) : List aa1 × Int × Int := av5 (s.length + 1) [] 0 s
theorem bs5 {s : Str} {a : aa1} {n : Nat} (h : (fin s a n).2.2 = 0) : fin s a n = (a, n, 0) := by
 unfold fin at h ⊢
 split
 ·rfl
 ·rename_i hc; rw [if_neg hc] at h; simp [bad] at h
theorem bK5 {s : Str} (h : (bw4 s).2.2 = 0) : 1 ≤ (bw4 s).2.1 ∧ (bw4 s).2.1 ≤ s.length ∧ (bw4 s).1.Name.length ≤ s.length ∧ (bw4 s).1.Value.length ≤ s.length := by
 unfold bw4 at h ⊢
 have hn := aZ5 bj4 s
 generalize av2 bj4 s = n at hn h ⊢
 generalize hr : s.drop n = rest at h ⊢
 have hlen : rest.length = s.length - n := by rw [← hr, List.length_drop]
 cases rest with
 | nil => simp [cJ3, bad] at h
 | cons c r =>
  simp only [List.length_cons] at hlen
  simp only [cJ3] at h ⊢
  split at h
  ·rename_i hc
   rw [if_pos hc, bs5 h]; simp; omega
  ·rename_i hc
   rw [if_neg hc]
   split at h
   ·rename_i h61
    rw [if_pos h61]
    split at h
    ·rename_i hp
     rw [if_pos hp]
     cases hq : ai1 (r.drop 1) with
     | none => rw [hq] at h; simp [bad] at h
     | some x =>
      rw [hq] at h
      simp only at h ⊢
      have hx := aT6 _ x hq
      rw [List.length_drop] at hx
      rw [bs5 h]; simp; omega
    ·rename_i hp
     rw [if_neg hp]
     unfold valS at h ⊢
     have hu := aZ5 [32, 9] r
     split at h
     ·simp [bad] at h
     ·rename_i hq
      rw [if_neg hq, bs5 h]; simp; omega
   ·simp [bad] at h
theorem b48 {f i : Nat} {out : List aa1} {s : Str} (h : i < s.length) : av5 (f + 1) out i (s.drop i) = if bs4 s[i] then av5 f out (i + 1) (s.drop (i + 1)) else
  if bw5 out (bw4 (s.drop i)) = 0 then av5 f (out ++ [(bw4 (s.drop i)).1]) (i + (bw4 (s.drop i)).2.1) (s.drop (i + (bw4 (s.drop i)).2.1)) else ([], (i : Int), bw5 out (bw4 (s.drop i))) := by
 conv => lhs; rw [List.drop_eq_getElem_cons h, av5]
 rw [← List.drop_eq_getElem_cons h, List.drop_drop]
theorem b49 {out : List aa1} {o : aa1 × Nat × Int} (h : bw5 out o = 0) : o.2.2 = 0 := by
 unfold bw5 at h
 split at h
 ·rename_i h1; exact h1
 ·rename_i h1; exact absurd h h1
theorem bE5 {s : Str} (hs : s.length ≤ 1000000) : aB4 s = some (an6 s) := by
 unfold aB4
 refine (aP2 (σ := Nat × Nat × List aa1) (fun x => aw2 s x.1 x.2) (fun x => ((x.2.1 : Int), x.2.2)) (fun x => av5 x.1 x.2.2 x.2.1 (s.drop x.2.1)) (fun x => x.1)
  (fun x => x.2.1 ≤ s.length ∧ s.length - x.2.1 < x.1 ∧ x.2.2.length ≤ x.2.1) ?_ (s0 := (s.length + 1, 0, [])) ⟨by simp, by simp, by simp⟩).trans ?_
 ·rintro ⟨f, i, out⟩ ⟨h1, h2, h3⟩
  simp only at h1 h2 h3
  obtain ⟨f, rfl⟩ : ∃ g, f = g + 1 := ⟨f - 1, by omega⟩
  have hb : ∀ c : UInt8, aP5 (c.toNat : Int) = some (bs4 c) := fun c => rfl
  rcases Nat.lt_or_ge i s.length with h | h
  ·have hw : IntKind.wrap .i64 ((i : Int) + 1) = ((i + 1 : Nat) : Int) := by rw [af5 (by omega) (by omega)]; omega
   have hso : (s.drop i).length ≤ 1000000 := by rw [List.length_drop]; omega
   simp only [aw2, dlt h, if_true, as8 h, Option.bind_some, hb, az0 h1, cJ4 hso, b48 h]
   cases hbl : bs4 s[i] with
   | true =>
    left
    refine ⟨(f, i + 1, out), ?_, rfl, ⟨by simp only; omega, by simp only; omega, by simp only; omega⟩, by simp⟩
    simp only [if_true, hw]
   | false =>
    simp only [Bool.false_eq_true, if_false]
    generalize ho : bw4 (s.drop i) = o
    have hof : o.2.2 = 0 → 1 ≤ o.2.1 ∧ o.2.1 ≤ (s.drop i).length ∧ o.1.Name.length ≤ (s.drop i).length ∧ o.1.Value.length ≤ (s.drop i).length := by
     intro hz; rw [← ho] at hz ⊢; exact bK5 hz
    rw [List.length_drop] at hof
    by_cases hz : o.2.2 = 0
    ·obtain ⟨g1, g2, g3, g4⟩ := hof hz
     have hck : aI3 out o.1 = some (chk out o.1) := bY6 (by omega) (by omega) (by omega)
     have hst : bw5 out o = chk out o.1 := by unfold bw5; rw [if_pos hz]
     have hw2 : IntKind.wrap .i64 ((i : Int) + (o.2.1 : Int)) = ((i + o.2.1 : Nat) : Int) := by rw [af5 (by omega) (by omega)]; omega
     have hap : aF9 40 out [o.1] = some (out ++ [o.1]) := aj0 (by simp; omega) (by simp; omega)
     simp only [hz, decide_true, if_true, hck, Option.bind_some, aw1, hst, hap, hw2]
     by_cases hc : chk out o.1 = 0
     ·left
      refine ⟨(f, i + o.2.1, out ++ [o.1]), ?_, ?_, ⟨by simp only; omega, by simp only; omega, by simp; omega⟩, by simp⟩
      ·simp only [hc, decide_true, Bool.not_true, Bool.false_eq_true, if_false]
      ·simp only [hc, if_true]
     ·right
      simp only [hc, decide_false, Bool.not_false, if_true, if_false]
    ·right
     have hst : bw5 out o = o.2.2 := by unfold bw5; rw [if_neg hz]
     simp only [hz, decide_false, Bool.false_eq_true, if_false, aw1, Bool.not_false, if_true, hst]
  ·right
   have : i = s.length := by omega
   subst this
   simp only [aw2, dge, Bool.false_eq_true, if_false, List.drop_length, av5]
 ·rfl
def bk1 (name : Str) (a : aa1) : Bool := !a.Query && decide (a.Name = name)
def ak4 (name : Str) : List aa1 → Str × Bool
 | [] => ([], false)
 | a :: r => if bk1 name a then (a.Value, true) else ak4 name r
theorem bd0 {α : Type} (p : α → Bool) (l : List α) : (be1 p l = -1 ∧ ∀ a ∈ l, p a = false) ∨ ∃ i, ∃ h : i < l.length, be1 p l = (i : Int) ∧ p l[i] = true ∧ ∀ a ∈ l.take i, p a = false := by
 induction l with
 | nil => left; exact ⟨rfl, by simp⟩
 | cons a r ih =>
  by_cases hp : p a = true
  ·right; exact ⟨0, by simp, bY5 hp, hp, by simp⟩
  ·have hp' := Bool.eq_false_iff.2 hp
   rcases ih with ⟨h1, h2⟩ | ⟨i, h, h1, h2, h3⟩
   ·left
    refine ⟨by rw [bs0 hp, if_pos h1], ?_⟩
    intro x hx
    rcases List.mem_cons.1 hx with rfl | hx
    ·exact hp'
    ·exact h2 x hx
   ·right
    refine ⟨i + 1, by simpa using h, ?_, by simpa using h2, ?_⟩
    ·rw [bs0 hp, h1, if_neg (by omega)]; omega
    ·intro x hx
     rw [List.take_succ_cons] at hx
     rcases List.mem_cons.1 hx with rfl | hx
     ·exact hp'
     ·exact h3 x hx
theorem bK6 {name : Str} {a : aa1} {r : List aa1} (h : bk1 name a = true) : ak4 name (a :: r) = (a.Value, true) := by simp [ak4, h]
theorem bA1 {name : Str} {a : aa1} {r : List aa1} (h : ¬ bk1 name a = true) : ak4 name (a :: r) = ak4 name r := by simp [ak4, h]
theorem b50 {name : Str} {l : List aa1} (h : ∀ a ∈ l, bk1 name a = false) : ak4 name l = ([], false) := by
 induction l with
 | nil => rfl
 | cons a r ih => rw [ak4, h a (by simp), if_neg (by simp)]; exact ih fun x hx => h x (List.mem_cons_of_mem _ hx)
theorem bY9 {name : Str} : ∀ {l : List aa1} {i : Nat} (h : i < l.length), bk1 name l[i] = true → (∀ a ∈ l.take i, bk1 name a = false) → ak4 name l = (l[i].Value, true)
 | [], _, h, _, _ => by simp at h
 | a :: r, 0, _, h1, _ => by
  simp only [List.getElem_cons_zero] at h1 ⊢
  rw [ak4, if_pos h1]
 | a :: r, i + 1, h, h1, h2 => by
  rw [ak4, h2 a (by simp), if_neg (by simp)]
  exact bY9 (i := i) (by simpa using h) (by simpa using h1) fun x hx => h2 x (by rw [List.take_succ_cons]; exact List.mem_cons_of_mem _ hx)
theorem cp7 {l : List aa1} {name : Str} (hl : l.length ≤ 1000000) : a18 l name = some (be1 (bk1 name) l) := by
 unfold a18
 rw [bQ8]
 unfold ag3
 refine aT5 hl ?_ ?_
 ·intro i hi
  simp only [ac4, dlt hi, if_true, aa7 hi, Option.bind_some, aX3]
  rfl
 ·simp [ac4]
theorem bg3 {l : List aa1} {name : Str} (hl : l.length ≤ 1000000) : at9 l name = some (ak4 name l) := by
 unfold at9
 rw [cp7 hl, Option.bind_some]
 rcases bd0 (bk1 name) l with ⟨h1, h2⟩ | ⟨i, h, h1, h2, h3⟩
 ·rw [h1, b50 h2]; rfl
 ·have : ¬ ((i : Int) < 0) := by omega
  rw [h1, bY9 h h2 h3]
  simp only [this, decide_false, Bool.false_eq_true, if_false, aa7 h, Option.bind_some]
theorem a34 {l : List aa1} {name : Str} (hl : l.length ≤ 1000000) : ax4 l name = some (ak4 name l) := by
 unfold ax4
 refine (af2 l.length (fun (_ : Unit) i => i) (fun s => au7 l name s) (fun i _ => ak4 name (l.drop i)) (fun _ _ => True) (s0 := ()) trivial ?_ ?_).trans rfl
 ·intro _ i hi _
  have hbody : au7 l name (i : Int) = if bk1 name l[i] then some (.done (l[i].Value, true)) else some (.cont ((i : Int) + 1)) := by
   simp only [au7, dlt hi, if_true, aa7 hi, Option.bind_some]
   rw [ab0 (by omega), show bk1 name l[i] = (!l[i].Query && decide (l[i].Name = name)) from rfl]
   by_cases h : l[i].Name = name <;> cases hq : l[i].Query <;> simp [h]
  rw [hbody, List.drop_eq_getElem_cons hi]
  by_cases hf : bk1 name l[i] = true
  ·right; rw [if_pos hf, bK6 hf]
  ·left; rw [if_neg hf, bA1 hf]; exact ⟨(), rfl, rfl, trivial⟩
 ·intro _ _
  simp [au7, ak4]
def aQ9 (l : List aa1) (a : aa1) : Bool := (ak4 a.Name l).2 && (a.Query || decide ((ak4 a.Name l).1 = a.Value))
theorem bg4 {l pattern : List aa1} (hl : l.length ≤ 1000000) (hp : pattern.length ≤ 1000000) : ax5 l pattern = some (pattern.all (aQ9 l)) := by
 unfold ax5
 refine (af2 pattern.length (fun (_ : Unit) i => i) (fun s => au0 l pattern s) (fun i _ => (pattern.drop i).all (aQ9 l)) (fun _ _ => True) (s0 := ()) trivial ?_ ?_).trans rfl
 ·intro _ i hi _
  simp only [au0, dlt hi, if_true, aa7 hi, Option.bind_some, bg3 hl, List.drop_eq_getElem_cons hi, List.all_cons, aQ9]
  generalize ak4 pattern[i].Name l = x
  cases x.2 <;> cases pattern[i].Query <;> cases decide (x.1 = pattern[i].Value) <;> simp <;> (try rw [ab0 (by omega)])
 ·intro _ _
  simp [au0]
theorem bE6 {l pattern : List aa1} (hl : l.length ≤ 1000000) (hp : pattern.length ≤ 1000000) : aA0 l pattern = some (pattern.all (aQ9 l)) := by
 unfold aA0
 refine (af2 pattern.length (fun (_ : Unit) i => i) (fun s => ao7 l pattern s) (fun i _ => (pattern.drop i).all (aQ9 l)) (fun _ _ => True) (s0 := ()) trivial ?_ ?_).trans rfl
 ·intro _ i hi _
  simp only [ao7, dlt hi, if_true, aa7 hi, Option.bind_some, a34 hl, List.drop_eq_getElem_cons hi, List.all_cons, aQ9]
  generalize ak4 pattern[i].Name l = x
  cases x.2 <;> cases pattern[i].Query <;> cases decide (x.1 = pattern[i].Value) <;> simp <;> (try rw [ab0 (by omega)])
 ·intro _ _
  simp [ao7]
theorem aH9 {l : List aa1} (hl : l.length ≤ 1000000) : aa5 l = some l := by
 unfold aa5
 rw [aj0 (by simp; omega) (by simp; omega)]; rfl
theorem bZ0 {α : Type} {p : α → Bool} {l : List α} {body : Int × Int × List α → Option (Step (Int × Int × List α) (List α))} (hl : l.length ≤ 1000000)
  (hb : ∀ (i j : Nat) (s : List α) (hi : i < s.length) (hj : j < s.length), body ((i : Int), (j : Int), s) = if !p s[j] then some (.cont (IntKind.wrap .i64 ((i : Int) + 1), IntKind.wrap .i64 ((j : Int) + 1), s.set i s[j])) else some (.cont ((i : Int), IntKind.wrap .i64 ((j : Int) + 1), s)))
  (he : ∀ (i : Nat) (s : List α), i ≤ s.length → body ((i : Int), (s.length : Int), s) = some (.done (s.take i))) {i0 : Nat} (h0 : i0 < l.length) (hp0 : p l[i0] = true) (hbef : ∀ a ∈ l.take i0, p a = false) :
  aa9 body ((i0 : Int), IntKind.wrap .i64 ((i0 : Int) + 1), l) = some (l.filter fun a => !p a) := by
 have hw0 : IntKind.wrap .i64 ((i0 : Int) + 1) = ((i0 + 1 : Nat) : Int) := by rw [af5 (by omega) (by omega)]; omega
 rw [hw0]
 have hf0 : (l.take (i0 + 1)).filter (fun a => !p a) = l.take i0 := by
  rw [List.take_succ_eq_append_getElem h0, List.filter_append, List.filter_eq_self.2 (fun a ha => by simp [hbef a ha])]
  simp [hp0]
 refine (aP2 (σ := Nat × Nat × List α) body (fun x => ((x.1 : Int), (x.2.1 : Int), x.2.2)) (fun _ => l.filter fun a => !p a) (fun x => l.length - x.2.1)
  (fun x => x.1 < x.2.1 ∧ x.2.1 ≤ l.length ∧ x.2.2.length = l.length ∧ x.2.2.take x.1 = (l.take x.2.1).filter (fun a => !p a) ∧ x.2.2.drop x.2.1 = l.drop x.2.1) ?_ (s0 := (i0, i0 + 1, l)) ⟨by simp, by simp only; omega, rfl, by simp only; exact hf0.symm, rfl⟩).trans rfl
 rintro ⟨i, j, s⟩ ⟨h1, h2, h3, h4, h5⟩
 simp only at h1 h2 h3 h4 h5
 rcases Nat.lt_or_ge j l.length with hj | hj
 ·left
  have hjs : j < s.length := by omega
  have hwi : IntKind.wrap .i64 ((i : Int) + 1) = ((i + 1 : Nat) : Int) := by rw [af5 (by omega) (by omega)]; omega
  have hwj : IntKind.wrap .i64 ((j : Int) + 1) = ((j + 1 : Nat) : Int) := by rw [af5 (by omega) (by omega)]; omega
  have hsj : s[j] = l[j] := by
   rw [List.drop_eq_getElem_cons hjs, List.drop_eq_getElem_cons hj] at h5
   exact (List.cons.inj h5).1
  have h5' : s.drop (j + 1) = l.drop (j + 1) := by
   rw [List.drop_eq_getElem_cons hjs, List.drop_eq_getElem_cons hj] at h5
   exact (List.cons.inj h5).2
  simp only
  rw [hb i j s (by omega) hjs]
  cases hp : p s[j] with
  | true =>
   refine ⟨(i, j + 1, s), ?_, by trivial, ⟨by simp only; omega, by simp only; omega, h3, ?_, h5'⟩, by simp only; omega⟩
   ·simp only [Bool.not_true, Bool.false_eq_true, if_false, hwj]
   ·simp only
    rw [h4, List.take_succ_eq_append_getElem hj, List.filter_append]
    simp [← hsj, hp]
  | false =>
   refine ⟨(i + 1, j + 1, s.set i s[j]), ?_, by trivial, ⟨by simp only; omega, by simp only; omega, by simp [h3], ?_, ?_⟩, by simp only; omega⟩
   ·simp only [Bool.not_false, if_true, hwi, hwj]
   ·simp only
    rw [List.take_succ_eq_append_getElem (by simp; omega), List.getElem_set_self, List.take_set_of_le (Nat.le_refl _), h4, List.take_succ_eq_append_getElem hj, List.filter_append]
    simp [← hsj, hp]
   ·simp only
    rw [List.drop_set_of_lt (by omega)]; exact h5'
 ·right
  have : j = s.length := by omega
  subst this
  simp only
  rw [he i s (by omega), h4, List.take_of_length_le hj]
theorem bs6 {l : List aa1} (hl : l.length ≤ 1000000) : aB6 l = some (l.filter fun a => !an2 a.Name) := by
 unfold aB6
 rw [aH9 hl, Option.bind_some, bQ8]
 unfold af6
 have hp1 : ∀ a, az6 a = some (an2 a.Name) := by
  intro a; unfold az6; rw [bc8]; rfl
 have hix : ad9 l = some (be1 (fun a => an2 a.Name) l) := by
  unfold ad9
  refine aT5 hl ?_ ?_
  ·intro i hi
   simp only [ac5, dlt hi, if_true, aa7 hi, Option.bind_some, hp1]
  ·simp [ac5]
 rw [hix, Option.bind_some]
 rcases bd0 (fun a => an2 a.Name) l with ⟨h1, h2⟩ | ⟨i, h, h1, h2, h3⟩
 ·rw [h1, List.filter_eq_self.2 (fun a ha => by simp [h2 a ha])]; rfl
 ·have : ¬ ((i : Int) = -1) := by omega
  rw [h1]
  simp only [this, decide_false, Bool.false_eq_true, if_false]
  refine bZ0 (p := fun a => an2 a.Name) hl ?_ ?_ h h2 h3
  ·intro i j s hi hj
   simp only [ab5, dlt hj, if_true, aa7 hj, aa7 hi, Option.bind_some, hp1, Int.toNat_natCast]
  ·intro i s hi
   simp only [ab5, dge, Bool.false_eq_true, if_false, ae2, aP3 hi, Option.bind_some, Option.map_some]
theorem bA2 {l : List aa1} {name : Str} (hl : l.length ≤ 1000000) : aE4 l name = some (l.filter fun a => !decide (a.Name = name)) := by
 unfold aE4
 rw [aH9 hl, Option.bind_some, bQ8]
 unfold af7
 have hp1 : ∀ a, aD5 a name = some (decide (a.Name = name)) := fun a => rfl
 have hix : ae0 l name = some (be1 (fun a => decide (a.Name = name)) l) := by
  unfold ae0
  refine aT5 hl ?_ ?_
  ·intro i hi
   simp only [ac6, dlt hi, if_true, aa7 hi, Option.bind_some, hp1]
  ·simp [ac6]
 rw [hix, Option.bind_some]
 rcases bd0 (fun (a : aa1) => decide (a.Name = name)) l with ⟨h1, h2⟩ | ⟨i, h, h1, h2, h3⟩
 ·rw [h1, List.filter_eq_self.2 (fun a ha => by simp only [h2 a ha, Bool.not_false])]; rfl
 ·have : ¬ ((i : Int) = -1) := by omega
  rw [h1]
  simp only [this, decide_false, Bool.false_eq_true, if_false]
  refine bZ0 (p := fun a => decide (a.Name = name)) hl ?_ ?_ h h2 h3
  ·intro i j s hi hj
   simp only [ab6, dlt hj, if_true, aa7 hj, aa7 hi, Option.bind_some, hp1, Int.toNat_natCast]
  ·intro i s hi
   simp only [ab6, dge, Bool.false_eq_true, if_false, ae6, aP3 hi, Option.bind_some, Option.map_some]
theorem bj5 {l : List aa1} (hl : l.length ≤ 1000000) : at2 l = some (l.filter fun a => !an2 a.Name) := by
 unfold at2
 refine (af2 (τ := Int × List aa1) l.length (fun (x : List aa1) i => (i, x)) (fun s => at1 l s.1 s.2) (fun i x => x ++ (l.drop i).filter fun a => !an2 a.Name) (fun i x => x.length ≤ i) (s0 := []) (by simp) ?_ ?_).trans (by simp)
 ·intro x i hi hx
  left
  have hap : aF9 40 x [l[i]] = some (x ++ [l[i]]) := aj0 (by simp; omega) (by simp; omega)
  refine ⟨if an2 l[i].Name then x else x ++ [l[i]], ?_, ?_, ?_⟩
  ·simp only [at1, dlt hi, if_true, aa7 hi, Option.bind_some, bK1, hap]
   rw [ab0 (by omega)]
   cases an2 l[i].Name <;> rfl
  ·simp only [List.drop_eq_getElem_cons hi, List.filter_cons]
   cases an2 l[i].Name <;> simp
  ·split <;> (try simp) <;> omega
 ·intro x hx
  simp [at1]
theorem cd9 {d : Nat} (h : d < 10) : cut ([48, 49, 50, 51, 52, 53, 54, 55, 56, 57, 97, 98, 99, 100, 101, 102] : Str) (d : Int) ((d : Int) + 1) = some [UInt8.ofNat (48 + d)] := by
 rcases (by omega : d = 0 ∨ d = 1 ∨ d = 2 ∨ d = 3 ∨ d = 4 ∨ d = 5 ∨ d = 6 ∨ d = 7 ∨ d = 8 ∨ d = 9) with rfl | rfl | rfl | rfl | rfl | rfl | rfl | rfl | rfl | rfl <;> rfl
theorem cp8 (u : Nat) (h : ¬ u < 10) : Go.Lib.decDigits u = Go.Lib.decDigits (u / 10) ++ [UInt8.ofNat (48 + u % 10)] := by
 rw [Go.Lib.decDigits, dif_neg h]
def cH4 (u : Nat) (s : Str) : Str := if u = 0 ∧ s ≠ [] then s else Go.Lib.decDigits u ++ s
theorem ce0 (u : Nat) (s : Str) (h : ¬ (u = 0 ∧ s ≠ [])) : cH4 u s = cH4 (u / 10) (UInt8.ofNat (48 + u % 10) :: s) := by
 unfold cH4
 rw [if_neg h]
 by_cases h10 : u < 10
 ·have : u / 10 = 0 := by omega
  rw [this, if_pos ⟨rfl, by simp⟩, Go.Lib.decDigits_one h10, Nat.mod_eq_of_lt h10]; rfl
 ·rw [if_neg (by omega), cp8 u h10, List.append_assoc]; rfl
theorem bg5 {u : Nat} {s : Str} (h : ¬ (u = 0 ∧ s ≠ [])) (hu : u ≤ 9223372036854775808) (hs : s.length ≤ 100) : ao9 10 (-(u : Int)) s = some (.cont (-((u / 10 : Nat) : Int), UInt8.ofNat (48 + u % 10) :: s)) := by
 unfold ao9
 have hc : (decide (-(u : Int) < 0) || decide (s = [])) = true := by
  rcases Nat.eq_zero_or_pos u with h0 | h0
  ·have : s = [] := Classical.byContradiction fun e => h ⟨h0, e⟩
   simp [this]
  ·have hn : -(u : Int) < 0 := by omega
   rw [decide_eq_true hn]; rfl
 have e1 : Int.tmod (-(u : Int)) 10 = -((u % 10 : Nat) : Int) := by rw [Int.neg_tmod]; rfl
 have e2 : Int.tdiv (-(u : Int)) 10 = -((u / 10 : Nat) : Int) := by rw [Int.neg_tdiv]; rfl
 have e3 : IntKind.wrap .i64 (0 - -((u % 10 : Nat) : Int)) = ((u % 10 : Nat) : Int) := by rw [af5 (by omega) (by omega)]; omega
 have e4 : IntKind.wrap .i64 (((u % 10 : Nat) : Int) + 1) = ((u % 10 : Nat) : Int) + 1 := af5 (by omega) (by omega)
 have e5 : IntKind.wrap .i64 (-((u / 10 : Nat) : Int)) = -((u / 10 : Nat) : Int) := af5 (by omega) (by omega)
 rw [if_pos hc]
 unfold remI cz8
 rw [if_neg (by decide), if_neg (by decide), Option.bind_some, e1, e3, e4, cd9 (by omega), Option.bind_some]
 rw [ah1 (by simp; omega), Option.bind_some, Option.bind_some, e2, e5]
 rfl
theorem ce1 {u n : Nat} (h1 : u * 10 ^ n ≤ 9223372036854775808) (h2 : 0 < u) : n ≤ 18 := by
 rcases Nat.lt_or_ge 18 n with h | h
 ·have h3 : 10 ^ 19 ≤ 10 ^ n := Nat.pow_le_pow_right (by omega) h
  have h4 : 1 * 10 ^ n ≤ u * 10 ^ n := Nat.mul_le_mul_right _ h2
  omega
 ·exact h
theorem aZ8 {u : Nat} (hu : u ≤ 9223372036854775808) : aE8 (-(u : Int)) 10 = some (Go.Lib.decDigits u) := by
 unfold aE8
 refine (aP2 (σ := Nat × Str) (fun s => ao9 10 s.1 s.2) (fun s => (-(s.1 : Int), s.2)) (fun s => cH4 s.1 s.2) (fun s => s.1 + (if s.2 = [] then 1 else 0)) (fun s => s.1 * 10 ^ s.2.length ≤ 9223372036854775808 ∧ s.2.length ≤ 20) (fun s hs => ?_) (s0 := (u, [])) ⟨by simpa using hu, by simp⟩).trans ?_
 ·obtain ⟨v, s⟩ := s
  obtain ⟨h1, h2⟩ := hs
  simp only at h1 h2 ⊢
  have hv : v ≤ 9223372036854775808 := by
   have : v * 1 ≤ v * 10 ^ s.length := Nat.mul_le_mul_left _ (Nat.one_le_pow _ _ (by omega))
   omega
  by_cases h : v = 0 ∧ s ≠ []
  ·right
   unfold ao9 cH4
   rw [if_pos h, h.1]
   have hs' : decide (s = []) = false := by simpa using h.2
   simp [hs', h.2]
  ·left
   refine ⟨(v / 10, UInt8.ofNat (48 + v % 10) :: s), bg5 h hv (by omega), ce0 v s h, ⟨?_, ?_⟩, ?_⟩
   ·simp only [List.length_cons, Nat.pow_succ]
    have e : v / 10 * (10 ^ s.length * 10) = v / 10 * 10 * 10 ^ s.length := by rw [Nat.mul_comm (10 ^ s.length) 10, Nat.mul_assoc]
    rw [e]
    exact Nat.le_trans (Nat.mul_le_mul_right _ (Nat.div_mul_le_self v 10)) h1
   ·simp only [List.length_cons]
    by_cases hs' : s = []
    ·subst hs'; simp
    ·have : 0 < v := Nat.pos_of_ne_zero fun e => h ⟨e, hs'⟩
     have := ce1 h1 this
     omega
   ·simp only [reduceCtorEq, if_false]
    by_cases hs' : s = []
    ·rw [if_pos hs']; omega
    ·rw [if_neg hs']
     have : 0 < v := Nat.pos_of_ne_zero fun e => h ⟨e, hs'⟩
     omega
 ·unfold cH4; simp
theorem bE7 {n : Int} (h0 : -9223372036854775808 ≤ n) (h1 : n ≤ 9223372036854775807) : aQ5 n 10 = some (Go.Lib.itoa n) := by
 unfold aQ5 a82 Go.Lib.itoa
 by_cases hn : n < 0
 ·have e : n = -((n.natAbs : Nat) : Int) := by omega
  have hd := aZ8 (u := n.natAbs) (by omega)
  rw [← e] at hd
  have hl := Go.Lib.itoa_length_le n h0 h1
  unfold Go.Lib.itoa at hl
  rw [if_pos hn] at hl
  simp only [List.length_cons] at hl
  simp [hn, hd, ah1 (a := [45]) (b := Go.Lib.decDigits n.natAbs) (by simp; omega)]
 ·have hw : IntKind.wrap .i64 (0 - n) = -((n.toNat : Nat) : Int) := by rw [af5 (by omega) (by omega)]; omega
  have hd := aZ8 (u := n.toNat) (by omega)
  rw [hw, hd]
  simp [hn]
theorem bs7 {n : Int} (h0 : -9223372036854775808 ≤ n) (h1 : n ≤ 9223372036854775807) : bb9 n 10 = some (Go.Lib.itoa n) := by
 unfold bb9 bq9 aB9 a17
 rw [if_pos ⟨rfl, h0, h1⟩]; rfl
end Go.Proofs.YtiliognepodhnaaGreatDoor
