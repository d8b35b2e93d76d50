import Derived.Test.YtofpfpkjdigabaaGreatDoorR
import Derived.Test.YtofpfpkjdigabaaGreatDoorVmQ
import Derived.Lib.ReplaceLaws
import Derived.KernelRfl
import Derived.Test.YtofpfpkjdigabaaGreatDoorVmI
import Derived.Lib.ItoaLen
namespace Go.Proofs.YtofpfpkjdigabaaGreatDoor
open Go.Vm
set_option autoImplicit false
set_option linter.unusedVariables false
set_option linter.unusedSimpArgs false
set_option maxRecDepth 100000
theorem bk2 {α : Type} {o : Option α} : (o.bind fun x => some x) = o := by cases o <;> rfl
theorem ab1 {i : Nat} (h : i ≤ 1000000) : IntKind.wrap .i64 ((i : Int) + 1) = (i : Int) + 1 := ag6 (by omega) (by omega)
theorem dlt {i n : Nat} (h : i < n) : decide ((i : Int) < (n : Int)) = true := by simp [h]
theorem dge {n : Nat} : decide ((n : Int) < (n : Int)) = false := by simp
def a10 (stops : Str) : Str → Nat
 | [] => 0
 | c :: r => if stops.contains c then 0 else a10 stops r + 1
theorem b40 (stops s : Str) : a10 stops s ≤ s.length := by
 induction s with
 | nil => exact Nat.le_refl _
 | cons c r ih => unfold a10; split <;> simp <;> omega
theorem bQ1 {s stops : Str} (hm : s.length ≤ 1000000) : aM9 s stops = some (a10 stops s : Int) := by
 unfold aM9
 refine (ae4 s.length (fun (_ : Unit) i => i) (fun v => az4 s stops v) (fun i _ => ((i + a10 stops (s.drop i) : Nat) : Int)) (fun _ _ => True) (s0 := ()) trivial ?_ ?_).trans ?_
 ·intro _ i hi _
  simp only [az4, dlt hi, if_true, al6 hi, Option.bind_some, strings_IndexByte, stringslite_IndexByte, aM4, bq2, cj4, List.drop_eq_getElem_cons hi, a10]
  by_cases hc : stops.contains s[i] = true
  ·right; rw [if_pos hc, if_pos hc]; rfl
  ·left
   refine ⟨(), ?_, ?_, trivial⟩
   ·rw [if_neg hc, ab1 (by omega)]
   ·rw [if_neg hc]; omega
 ·intro _ _
  simp [az4, a10]
 ·simp
theorem bB7 {s p : Str} : stringslite_HasPrefix s p = some (p.isPrefixOf s) := by
 unfold stringslite_HasPrefix
 by_cases h : p.length ≤ s.length
 ·have h1 : ((List.length p : Int) ≤ (List.length s : Int)) := by omega
  simp only [h1, decide_true, if_true, bb9 h, Option.bind_some]
  congr 1
  rw [Bool.eq_iff_iff, decide_eq_true_eq, List.isPrefixOf_iff_prefix]
  rw [List.prefix_iff_eq_take]; exact eq_comm
 ·have h1 : ¬ ((List.length p : Int) ≤ (List.length s : Int)) := by omega
  simp only [h1, decide_false, Bool.false_eq_true, if_false, Option.bind_some]
  congr 1
  symm
  rw [Bool.eq_false_iff]
  intro e
  exact h (List.isPrefixOf_iff_prefix.1 e).length_le
def bw2 (c : UInt8) : Bool := (decide (97 ≤ (c.toNat : Int)) && decide ((c.toNat : Int) ≤ 122)) || ((decide (48 ≤ (c.toNat : Int)) && decide ((c.toNat : Int) ≤ 57)) || (decide ((c.toNat : Int) = 45) || decide ((c.toNat : Int) = 95)))
def co2 (c : UInt8) : Bool := decide (97 ≤ (c.toNat : Int)) && decide ((c.toNat : Int) ≤ 122)
def b41 (s : Str) : Bool := ([33] : Str).isPrefixOf s
def cu7 (s : Str) : Str := if b41 s then s.drop 1 else s
def cj6 (s : Str) : Bool := match s with
 | [] => false
 | c :: r => co2 c && r.all bw2 && decide (s.length ≤ 32)
def cd9 (s : Str) : Bool := cj6 (cu7 s)
theorem bV6 (c : UInt8) (h : co2 c = true) : bw2 c = true := by
 unfold co2 at h; unfold bw2; rw [h]; rfl
theorem bV7 {c : UInt8} {r : Str} : cj6 (c :: r) = (co2 c && (c :: r).all bw2 && decide ((c :: r).length ≤ 32)) := by
 show (co2 c && r.all bw2 && decide _) = _
 cases h : co2 c
 ·rfl
 ·rw [List.all_cons, bV6 c h]; rfl
theorem ce0 (s : Str) : (cu7 s).length ≤ s.length := by
 unfold cu7; split <;> simp
theorem bw3 {s : Str} : strings_TrimPrefix s [33] = some (cu7 s) := by
 unfold strings_TrimPrefix stringslite_TrimPrefix
 rw [bB7 (s := s) (p := [33])]
 unfold cu7 b41
 cases hp : ([33] : Str).isPrefixOf s with
 | false => simp
 | true =>
  have hl : 1 ≤ s.length := (List.isPrefixOf_iff_prefix.1 hp).length_le
  have := aX4 (l := s) (a := 1) hl
  simp only [Option.bind_some, if_true]
  rw [show (List.length ([33] : Str) : Int) = ((1 : Nat) : Int) from rfl, this]; rfl
theorem bJ2 {s : Str} (hs : s.length ≤ 1000000) : aP6 s = some (cd9 s) := by
 unfold aP6 cd9
 rw [bw3, Option.bind_some]
 have hl := ce0 s
 generalize cu7 s = x at hl ⊢
 cases x with
 | nil => rfl
 | cons c r =>
  have hat : ai9 (c :: r) 0 = some c := rfl
  simp only [reduceCtorEq, decide_false, Bool.false_eq_true, if_false, hat, Option.bind_some, bV7]
  by_cases hlen : (32 : Int) < (List.length (c :: r) : Int)
  ·have : ¬ ((c :: r).length ≤ 32) := by omega
   simp only [hlen, decide_true, if_true, Option.bind_some, this, decide_false, Bool.and_false]
  ·have h32 : (c :: r).length ≤ 32 := by omega
   simp only [hlen, decide_false, Bool.false_eq_true, if_false, h32, decide_true, Bool.and_true]
   have hloop : ab0 (fun s => ao6 (c :: r) s) 0 = some ((c :: r).all bw2) := by
    refine (ae4 (c :: r).length (fun (_ : Unit) i => i) (fun v => ao6 (c :: r) v) (fun i _ => ((c :: r).drop i).all bw2) (fun _ _ => True) (s0 := ()) trivial ?_ ?_).trans rfl
    ·intro _ i hi _
     have key : ∀ c : UInt8, (bif (decide ((c.toNat : Int) < 97)) then (bif (decide ((c.toNat : Int) < 48)) then ((!decide ((c.toNat : Int) = 45)) && (!decide ((c.toNat : Int) = 95))) else ((decide (57 < (c.toNat : Int))) && ((!decide ((c.toNat : Int) = 45)) && (!decide ((c.toNat : Int) = 95))))) else ((decide (122 < (c.toNat : Int))) && (bif (decide ((c.toNat : Int) < 48)) then ((!decide ((c.toNat : Int) = 45)) && (!decide ((c.toNat : Int) = 95))) else ((decide (57 < (c.toNat : Int))) && ((!decide ((c.toNat : Int) = 45)) && (!decide ((c.toNat : Int) = 95))))))) = !bw2 c := bj3 (by decide +kernel)
     simp only [ao6, dlt hi, if_true, al6 hi, Option.bind_some, List.drop_eq_getElem_cons hi, List.all_cons, key]
     cases hn : bw2 (c :: r)[i]
     ·right; simp
     ·left
      refine ⟨(), ?_, by simp, trivial⟩
      simp only [Bool.not_true, Bool.false_eq_true, if_false]
      rw [ab1 (by omega)]
    ·intro _ _
     simp [ao6]
   rw [hloop]
   have k1 : ∀ c : UInt8, co2 c = (!decide ((c.toNat : Int) < 97) && !decide (122 < (c.toNat : Int))) := bj3 (by decide +kernel)
   rw [k1]
   cases decide ((c.toNat : Int) < 97) <;> cases decide (122 < (c.toNat : Int)) <;> simp
def b42 (v : Str) : Bool := v.all fun c => !([0, 10, 13] : Str).contains c
theorem bB8 (stops s : Str) : decide ((a10 stops s : Int) < (List.length s : Int)) = !(s.all fun c => !stops.contains c) := by
 induction s with
 | nil => rfl
 | cons c r ih =>
  unfold a10
  by_cases hc : stops.contains c = true
  ·rw [if_pos hc]; simp only [List.all_cons, hc]; simp
  ·have hc' : stops.contains c = false := by simpa using hc
   rw [if_neg hc, List.all_cons, hc', Bool.not_false, Bool.true_and, ← ih]
   congr 1
   simp only [List.length_cons, eq_iff_iff]; omega
def bw4 (l : List aa4) (n : Str) : Bool := l.any fun b => decide (b.Name = n)
def chk (before : List aa4) (a : aa4) : Int :=
 if (32 : Int) ≤ (List.length before : Int) then 22 else if cd9 a.Name = false then 6 else if (a.Query && !decide (a.Value = [])) = true ∨ b42 a.Value = false then 2 else if (1024 : Int) < (List.length a.Value : Int) then 4 else if bw4 before a.Name = true then 7 else 0
def aS1 {α : Type} (p : α → Bool) : List α → Int
 | [] => -1
 | a :: r => if p a then 0 else if aS1 p r = -1 then -1 else aS1 p r + 1
theorem bJ3 {α : Type} (p : α → Bool) (l : List α) : -1 ≤ aS1 p l := by
 induction l with
 | nil => exact Int.le_refl _
 | cons a r ih => simp only [aS1]; split <;> (try split) <;> omega
theorem bQ2 {α : Type} (p : α → Bool) (l : List α) : 0 ≤ aS1 p l ↔ l.any p = true := by
 induction l with
 | nil => simp [aS1]
 | cons a r ih =>
  have := bJ3 p r
  rw [List.any_cons, Bool.or_eq_true, ← ih]
  simp only [aS1]
  by_cases hp : p a = true
  ·simp [hp]
  ·rw [if_neg hp]
   split
   ·rename_i h; rw [h]; simp [hp]
   ·simp only [hp, false_or]; omega
theorem aQ8 {α : Type} (p : α → Bool) (l : List α) : decide (0 ≤ aS1 p l) = l.any p := by
 rw [Bool.eq_iff_iff, decide_eq_true_eq, bQ2]
theorem bw5 {α : Type} {p : α → Bool} {a : α} {r : List α} (h : p a = true) : aS1 p (a :: r) = 0 := by simp [aS1, h]
theorem a62 {α : Type} {p : α → Bool} {a : α} {r : List α} (h : ¬ p a = true) : aS1 p (a :: r) = if aS1 p r = -1 then -1 else aS1 p r + 1 := by simp [aS1, h]
theorem av7 {α : Type} {p : α → Bool} {l : List α} {body : Int → Option (Step Int Int)} (hl : l.length ≤ 1000000)
  (hb : ∀ i (h : i < l.length), body (i : Int) = if p l[i] then some (.done (i : Int)) else some (.cont (IntKind.wrap .i64 ((i : Int) + 1)))) (he : body (l.length : Int) = some (.done (-1))) : ab0 body 0 = some (aS1 p l) := by
 refine (ae4 l.length (fun (_ : Unit) i => i) body (fun i _ => if aS1 p (l.drop i) = -1 then -1 else (i : Int) + aS1 p (l.drop i)) (fun _ _ => True) (s0 := ()) trivial ?_ ?_).trans ?_
 ·intro _ i hi _
  rw [hb i hi, List.drop_eq_getElem_cons hi]
  have := bJ3 p (l.drop (i + 1))
  by_cases hp : p l[i] = true
  ·right; rw [if_pos hp, bw5 hp]; simp
  ·left
   refine ⟨(), ?_, ?_, trivial⟩
   ·rw [if_neg hp, ab1 (by omega)]
   ·rw [a62 hp]
    by_cases h : aS1 p (l.drop (i + 1)) = -1
    ·simp [h]
    ·rw [if_neg h, if_neg (by omega), if_neg h]; omega
 ·intro _ _
  rw [he]; simp [aS1]
 ·simp only [List.drop_zero]
  congr 1
  split
  ·rename_i h; exact h.symm
  ·simp
theorem ce1 {before : List aa4} {a : aa4} (hb : before.length ≤ 1000000) (hn : a.Name.length ≤ 1000000) (hv : a.Value.length ≤ 1000000) : aX9 before a = some (chk before a) := by
 unfold aX9 chk
 have hix : ad8 before a = some (aS1 (fun b => decide (b.Name = a.Name)) before) := by
  unfold ad8
  refine av7 hb ?_ ?_
  ·intro i hi
   simp only [ac9, dlt hi, if_true, aa7 hi, Option.bind_some, aU3]
  ·simp [ac9]
 have hc : ad0 before a = some (bw4 before a.Name) := by
  unfold ad0 bw4
  rw [hix, Option.bind_some, aQ8]
 simp only [bJ2 hn, Option.bind_some, bQ1 hv, hc, bB8]
 by_cases h1 : (32 : Int) ≤ (List.length before : Int)
 ·simp [h1]
 ·simp only [h1, decide_false, Bool.false_eq_true, if_false]
  cases cd9 a.Name with
  | false => simp
  | true =>
   simp only [Bool.not_true, Bool.false_eq_true, if_false, Bool.true_eq_false]
   cases a.Query && !decide (a.Value = []) with
   | true => simp
   | false =>
    change (if (!b42 a.Value) = true then _ else _) = _
    cases b42 a.Value with
    | false => simp
    | true =>
     simp only [Bool.not_true, Bool.false_eq_true, if_false, Bool.true_eq_false, or_self]
     by_cases h4 : (1024 : Int) < (List.length a.Value : Int)
     ·simp [h4]
     ·simp only [h4, decide_false, Bool.false_eq_true, if_false]
      cases bw4 before a.Name <;> simp
def okA (a : aa4) : Prop := a.Name.length ≤ 5000 ∧ a.Value.length ≤ 5000
def okL (l : List aa4) : Prop := l.length ≤ 5000 ∧ ∀ a ∈ l, okA a
def b43 (before : List aa4) : List aa4 → Int
 | [] => 0
 | a :: r => if chk before a = 0 then b43 (before ++ [a]) r else chk before a
def ce2 (l : List aa4) : Int := b43 [] l
theorem okL.get {l : List aa4} (h : okL l) {i : Nat} (hi : i < l.length) : okA l[i] := h.2 _ (List.getElem_mem hi)
theorem ce3 {l : List aa4} (h : okL l) : aY0 l = some (ce2 l) := by
 unfold aY0
 refine (ae4 l.length (fun (_ : Unit) i => i) (fun s => az5 l s) (fun i _ => b43 (l.take i) (l.drop i)) (fun _ _ => True) (s0 := ()) trivial ?_ ?_).trans ?_
 ·intro _ i hi _
  have ha := h.get hi
  have h1 := h.1
  simp only [az5, dlt hi, if_true, aa7 hi, Option.bind_some, bb9 (Nat.le_of_lt hi), ce1 (before := l.take i) (a := l[i]) (by simp; omega) (by have := ha.1; omega) (by have := ha.2; omega), List.drop_eq_getElem_cons hi, b43]
  by_cases hz : chk (l.take i) l[i] = 0
  ·left
   refine ⟨(), ?_, ?_, trivial⟩
   ·simp only [hz, decide_true, Bool.not_true, Bool.false_eq_true, if_false]
    rw [ab1 (by omega)]
   ·simp only [hz, if_true]
    rw [List.take_succ_eq_append_getElem hi]
  ·right; simp [hz]
 ·intro _ _
  simp [az5, b43]
 ·simp [ce2]
def dbl (s : Str) : Str := s.flatMap fun c => if c = 39 then [39, 39] else [c]
def oddB (s : Str) : Bool := decide (s = []) || s.any fun c => ([32, 9, 39] : Str).contains c
def bk3 (s : Str) : Str := if oddB s then [39] ++ dbl s ++ [39] else s
theorem b44 (s : Str) : (dbl s).length ≤ 2 * s.length := by
 induction s with
 | nil => exact Nat.le_refl _
 | cons c r ih =>
  unfold dbl at ih ⊢
  rw [List.flatMap_cons, List.length_append, List.length_cons]
  split <;> simp only [List.length_cons, List.length_nil] <;> omega
theorem bq8 (s : Str) : (bk3 s).length ≤ 2 * s.length + 2 := by
 have := b44 s
 unfold bk3
 split <;> simp <;> omega
theorem bw6 {c : UInt8} (hc : c ≠ 39) (k : Nat) (s : Str) (hk : k ≤ Go.Lib.count s [39]) : Go.Lib.replaceK [39] [39, 39] k (c :: s) = c :: Go.Lib.replaceK [39] [39, 39] k s := by
 cases k with
 | zero => rfl
 | succ k =>
  obtain ⟨i, hi⟩ := Go.Lib.index_of_count (s := s) (old := [39]) (by omega)
  have hi' : Go.Lib.index (c :: s) [39] = ((i + 1 : Nat) : Int) := by
   have hp : ([39] : Str).isPrefixOf (c :: s) = false := by simp [List.isPrefixOf, Ne.symm hc]
   rw [Go.Lib.index, hp, hi]
   have : ((i : Int) == -1) = false := by rw [beq_eq_false_iff_ne]; omega
   simp [this]
  rw [Go.Lib.replaceK_hit _ _ _ _ _ hi, Go.Lib.replaceK_hit _ _ _ _ _ hi']
  simp [Nat.add_right_comm]
theorem bJ4 (s : Str) : Go.Lib.replaceK [39] [39, 39] (Go.Lib.count s [39]) s = dbl s := by
 induction s with
 | nil => rw [Go.Lib.count_one]; rfl
 | cons c r ih =>
  by_cases hc : c = 39
  ·subst hc
   have hi : Go.Lib.index (39 :: r) [39] = ((0 : Nat) : Int) := by rw [Go.Lib.index]; simp [List.isPrefixOf]
   rw [Go.Lib.count_cons_eq, Nat.add_comm 1, Go.Lib.replaceK_hit _ _ _ _ _ hi]
   simp only [List.take_zero, List.nil_append, Nat.zero_add, List.length_cons, List.length_nil, List.drop_succ_cons, List.drop_zero, ih]
   unfold dbl
   rw [List.flatMap_cons, if_pos rfl]
  ·rw [Go.Lib.count_cons_ne _ _ _ hc, bw6 hc _ _ (Nat.le_refl _), ih]
   unfold dbl
   rw [List.flatMap_cons, if_neg hc]; rfl
theorem bw7 {s : Str} (hs : s.length ≤ 1000000) : strings_ReplaceAll s [39] [39, 39] = some (dbl s) := by
 have hc : Go.Lib.count s [39] ≤ s.length := by rw [Go.Lib.count_one]; exact List.count_le_length
 unfold strings_ReplaceAll aP4
 rw [if_pos ⟨by omega, by simp, by simp; omega⟩]
 unfold Go.Lib.replaceAll Go.Lib.replace
 rw [if_neg (by decide)]
 have : Go.Lib.replaceNum s [39] (-1) = Go.Lib.count s [39] := by unfold Go.Lib.replaceNum; rw [if_pos (Or.inl (by omega))]
 rw [this, bJ4]
theorem ce4 {s : Str} (hs : s.length ≤ 1000000) : aY1 s = some (bk3 s) := by
 unfold aY1
 have hd := b44 s
 have c1 : aA4 [39] (dbl s) = some ([39] ++ dbl s) := ag9 (by simp; omega)
 have c2 : aA4 ([39] ++ dbl s) [39] = some ([39] ++ dbl s ++ [39]) := ag9 (by simp; omega)
 have hu := b40 [32, 9, 39] s
 have ha := bB8 [32, 9, 39] s
 have hany : (s.any fun c => ([32, 9, 39] : Str).contains c) = !(s.all fun c => !([32, 9, 39] : Str).contains c) := by
  rw [List.any_eq_not_all_not]
 have hdd : decide ((a10 [32, 9, 39] s : Int) = (List.length s : Int)) = (s.all fun c => !([32, 9, 39] : Str).contains c) := by
  cases h : s.all fun c => !([32, 9, 39] : Str).contains c with
  | true => rw [h] at ha; simp only [Bool.not_true, decide_eq_false_iff_not] at ha; simp; omega
  | false => rw [h] at ha; simp only [Bool.not_false, decide_eq_true_eq] at ha; simp; omega
 simp only [bQ1 hs, Option.bind_some, bw7 hs, c1, c2, hdd]
 unfold bk3 oddB
 rw [hany]
 cases h : s.all fun c => !([32, 9, 39] : Str).contains c <;> cases hn : decide (s = []) <;> simp
def b45 (a : aa4) : Str := if a.Query then a.Name ++ [63] else a.Name ++ [61] ++ bk3 a.Value
theorem ce5 {a : aa4} (h : okA a) : (b45 a).length ≤ 15003 := by
 have := bq8 a.Value
 have h1 := h.1
 have h2 := h.2
 unfold b45
 split <;> simp <;> omega
def aV1 (l : List aa4) : Str := Go.Lib.join (l.map b45) [32]
theorem ce6 {K : Nat} {sep : Str} : ∀ {l : List Str}, (∀ x ∈ l, x.length ≤ K) → (Go.Lib.join l sep).length ≤ l.length * (K + sep.length)
 | [], _ => by simp [Go.Lib.join_nil]
 | x :: r, h => by
  rw [Go.Lib.join_cons, List.length_append]
  have hx := h x (by simp)
  have : ∀ r : List Str, (∀ y ∈ r, y.length ≤ K) → (Go.Lib.joinTail sep r).length ≤ r.length * (K + sep.length) := by
   intro r
   induction r with
   | nil => intro _; simp [Go.Lib.joinTail]
   | cons y r ih =>
    intro h
    have h1 := ih fun z hz => h z (List.mem_cons_of_mem _ hz)
    have h2 := h y (by simp)
    unfold Go.Lib.joinTail at h1 ⊢
    rw [List.map_cons, List.flatten_cons, List.length_append, List.length_append, List.length_cons, Nat.add_mul, Nat.one_mul]
    omega
  have := this r fun z hz => h z (List.mem_cons_of_mem _ hz)
  rw [List.length_cons, Nat.add_mul, Nat.one_mul]
  omega
theorem bB9 {l : List aa4} (h : okL l) (i : Nat) : (Go.Lib.join ((l.take i).map b45) [32]).length ≤ 75020000 := by
 have h1 := ce6 (K := 15003) (sep := [32]) (l := (l.take i).map b45) (by
  intro x hx
  obtain ⟨a, ha, rfl⟩ := List.mem_map.1 hx
  exact ce5 (h.2 a (List.mem_of_mem_take ha)))
 have h2 := h.1
 simp only [List.length_map, List.length_take, List.length_cons, List.length_nil] at h1
 have : min i l.length * (15003 + (0 + 1)) ≤ 5000 * 15004 := Nat.mul_le_mul (by omega) (by omega)
 omega
theorem ce7 {l : List aa4} (h : okL l) : aY2 l = some (if ce2 l = 0 then (aV1 l, 0) else ([], ce2 l)) := by
 unfold aY2
 rw [ce3 h, Option.bind_some]
 by_cases hz : ce2 l = 0
 ·have hl := h.1
  have hmk : mkC 16 ([] : Str) 0 (List.length l : Int) = some [] := by
   unfold mkC
   rw [if_pos ⟨by omega, by omega, by omega, by omega⟩]; rfl
  simp only [hz, decide_true, Bool.not_true, Bool.false_eq_true, if_false, if_true, hmk, Option.bind_some]
  refine (ae4 (τ := Int × List Str) l.length (fun (x : List Str) i => (i, x)) (fun x => aw5 l x.1 x.2) (fun i _ => (aV1 l, 0)) (fun i x => x = (l.take i).map b45) (s0 := []) (by simp) ?_ ?_).trans rfl
  ·rintro x i hi rfl
   left
   have ha := h.get hi
   have h1 := ha.1
   have h2 := ha.2
   have hw : IntKind.wrap .i64 ((i : Int) + 1) = (i : Int) + 1 := ab1 (by omega)
   have hq := bq8 l[i].Value
   have c1 : aA4 l[i].Name [63] = some (l[i].Name ++ [63]) := ag9 (by simp; omega)
   have c2 : aA4 l[i].Name [61] = some (l[i].Name ++ [61]) := ag9 (by simp; omega)
   have c3 : aA4 (l[i].Name ++ [61]) (bk3 l[i].Value) = some (l[i].Name ++ [61] ++ bk3 l[i].Value) := ag9 (by simp; omega)
   have ap : ∀ y : Str, ar6 16 ((l.take i).map b45) [y] = some ((l.take i).map b45 ++ [y]) := fun y => ac2 (by simp; omega) (by simp; omega)
   refine ⟨(l.take (i + 1)).map b45, ?_, rfl, rfl⟩
   simp only [aw5, dlt hi, if_true, aa7 hi, Option.bind_some, c1, c2, ce4 (s := l[i].Value) (by omega), c3, ap, hw]
   rw [List.take_succ_eq_append_getElem hi, List.map_append, List.map_cons, List.map_nil]
   unfold b45
   cases l[i].Query <;> simp
  ·rintro x rfl
   have hj : strings_Join (l.map b45) [32] = some (aV1 l) := by
    unfold strings_Join aV1
    have := bB9 h l.length
    rw [List.take_length] at this
    exact bJ0 (by simp; omega) (by omega)
   simp only [aw5, dge, Bool.false_eq_true, if_false, aL4, List.take_length, hj, Option.bind_some, Option.map_some]
 ·simp [hz]
def cw6 (c : UInt8) : Bool := decide ((c.toNat : Int) = 32) || decide ((c.toNat : Int) = 9)
def endsB (s : Str) : Bool := match s with
 | [] => true
 | c :: _ => cw6 c
def bad (e : Int) : aa4 × Nat × Int := (⟨[], [], false⟩, 0, e)
def fin (s : Str) (a : aa4) (n : Nat) : aa4 × Nat × Int := if endsB (s.drop n) then (a, n, 0) else bad 2
def agree (x : aa4 × Int × Int) (at_ : Nat) (o : aa4 × Nat × Int) : Prop := x.2.2 = o.2.2 ∧ (o.2.2 = 0 → x.1 = o.1 ∧ x.2.1 = ((at_ + o.2.1 : Nat) : Int))
def bc9 (name : Str) (a : aa4) : Bool := !a.Query && decide (a.Name = name)
def at0 (name : Str) : List aa4 → Str × Bool
 | [] => ([], false)
 | a :: r => if bc9 name a then (a.Value, true) else at0 name r
theorem bC0 {α : Type} (p : α → Bool) (l : List α) : (aS1 p l = -1 ∧ ∀ a ∈ l, p a = false) ∨ ∃ i, ∃ h : i < l.length, aS1 p l = (i : Int) ∧ p l[i] = true ∧ ∀ a ∈ l.take i, p a = false := by
 induction l with
 | nil => left; exact ⟨rfl, by simp⟩
 | cons a r ih =>
  by_cases hp : p a = true
  ·right; exact ⟨0, by simp, bw5 hp, hp, by simp⟩
  ·have hp' := Bool.eq_false_iff.2 hp
   rcases ih with ⟨h1, h2⟩ | ⟨i, h, h1, h2, h3⟩
   ·left
    refine ⟨by rw [a62 hp, if_pos h1], ?_⟩
    intro x hx
    rcases List.mem_cons.1 hx with rfl | hx
    ·exact hp'
    ·exact h2 x hx
   ·right
    refine ⟨i + 1, by simpa using h, ?_, by simpa using h2, ?_⟩
    ·rw [a62 hp, h1, if_neg (by omega)]; omega
    ·intro x hx
     rw [List.take_succ_cons] at hx
     rcases List.mem_cons.1 hx with rfl | hx
     ·exact hp'
     ·exact h3 x hx
theorem bC1 {name : Str} {a : aa4} {r : List aa4} (h : bc9 name a = true) : at0 name (a :: r) = (a.Value, true) := by simp [at0, h]
theorem bq9 {name : Str} {a : aa4} {r : List aa4} (h : ¬ bc9 name a = true) : at0 name (a :: r) = at0 name r := by simp [at0, h]
theorem bV8 {name : Str} {l : List aa4} (h : ∀ a ∈ l, bc9 name a = false) : at0 name l = ([], false) := by
 induction l with
 | nil => rfl
 | cons a r ih => rw [at0, h a (by simp), if_neg (by simp)]; exact ih fun x hx => h x (List.mem_cons_of_mem _ hx)
theorem bQ3 {name : Str} : ∀ {l : List aa4} {i : Nat} (h : i < l.length), bc9 name l[i] = true → (∀ a ∈ l.take i, bc9 name a = false) → at0 name l = (l[i].Value, true)
 | [], _, h, _, _ => by simp at h
 | a :: r, 0, _, h1, _ => by
  simp only [List.getElem_cons_zero] at h1 ⊢
  rw [at0, if_pos h1]
 | a :: r, i + 1, h, h1, h2 => by
  rw [at0, h2 a (by simp), if_neg (by simp)]
  exact bQ3 (i := i) (by simpa using h) (by simpa using h1) fun x hx => h2 x (by rw [List.take_succ_cons]; exact List.mem_cons_of_mem _ hx)
theorem ce8 {l : List aa4} {name : Str} (hl : l.length ≤ 1000000) : aX7 l name = some (aS1 (bc9 name) l) := by
 unfold aX7
 rw [bk2]
 unfold ag4
 refine av7 hl ?_ ?_
 ·intro i hi
  simp only [ac7, dlt hi, if_true, aa7 hi, Option.bind_some, aU1]
  rfl
 ·simp [ac7]
theorem b46 {l : List aa4} {name : Str} (hl : l.length ≤ 1000000) : aU2 l name = some (at0 name l) := by
 unfold aU2
 rw [ce8 hl, Option.bind_some]
 rcases bC0 (bc9 name) l with ⟨h1, h2⟩ | ⟨i, h, h1, h2, h3⟩
 ·rw [h1, bV8 h2]; rfl
 ·have : ¬ ((i : Int) < 0) := by omega
  rw [h1, bQ3 h h2 h3]
  simp only [this, decide_false, Bool.false_eq_true, if_false, aa7 h, Option.bind_some]
theorem br0 {l : List aa4} {name : Str} (hl : l.length ≤ 1000000) : aN3 l name = some (at0 name l) := by
 unfold aN3
 refine (ae4 l.length (fun (_ : Unit) i => i) (fun s => av5 l name s) (fun i _ => at0 name (l.drop i)) (fun _ _ => True) (s0 := ()) trivial ?_ ?_).trans rfl
 ·intro _ i hi _
  have hbody : av5 l name (i : Int) = if bc9 name l[i] then some (.done (l[i].Value, true)) else some (.cont ((i : Int) + 1)) := by
   simp only [av5, dlt hi, if_true, aa7 hi, Option.bind_some]
   rw [ab1 (by omega), show bc9 name l[i] = (!l[i].Query && decide (l[i].Name = name)) from rfl]
   by_cases h : l[i].Name = name <;> cases hq : l[i].Query <;> simp [h]
  rw [hbody, List.drop_eq_getElem_cons hi]
  by_cases hf : bc9 name l[i] = true
  ·right; rw [if_pos hf, bC1 hf]
  ·left; rw [if_neg hf, bq9 hf]; exact ⟨(), rfl, rfl, trivial⟩
 ·intro _ _
  simp [av5, at0]
theorem ce9 {α : Type} {p : α → Bool} {l : List α} {body : Int × Int × List α → Option (Step (Int × Int × List α) (List α))} (hl : l.length ≤ 1000000)
  (hb : ∀ (i j : Nat) (s : List α) (hi : i < s.length) (hj : j < s.length), body ((i : Int), (j : Int), s) = if !p s[j] then some (.cont (IntKind.wrap .i64 ((i : Int) + 1), IntKind.wrap .i64 ((j : Int) + 1), s.set i s[j])) else some (.cont ((i : Int), IntKind.wrap .i64 ((j : Int) + 1), s)))
  (he : ∀ (i : Nat) (s : List α), i ≤ s.length → body ((i : Int), (s.length : Int), s) = some (.done (s.take i))) {i0 : Nat} (h0 : i0 < l.length) (hp0 : p l[i0] = true) (hbef : ∀ a ∈ l.take i0, p a = false) :
  ab0 body ((i0 : Int), IntKind.wrap .i64 ((i0 : Int) + 1), l) = some (l.filter fun a => !p a) := by
 have hw0 : IntKind.wrap .i64 ((i0 : Int) + 1) = ((i0 + 1 : Nat) : Int) := by rw [ag6 (by omega) (by omega)]; omega
 rw [hw0]
 have hf0 : (l.take (i0 + 1)).filter (fun a => !p a) = l.take i0 := by
  rw [List.take_succ_eq_append_getElem h0, List.filter_append, List.filter_eq_self.2 (fun a ha => by simp [hbef a ha])]
  simp [hp0]
 refine (bq1 (σ := Nat × Nat × List α) body (fun x => ((x.1 : Int), (x.2.1 : Int), x.2.2)) (fun _ => l.filter fun a => !p a) (fun x => l.length - x.2.1)
  (fun x => x.1 < x.2.1 ∧ x.2.1 ≤ l.length ∧ x.2.2.length = l.length ∧ x.2.2.take x.1 = (l.take x.2.1).filter (fun a => !p a) ∧ x.2.2.drop x.2.1 = l.drop x.2.1) ?_ (s0 := (i0, i0 + 1, l)) ⟨by simp, by simp only; omega, rfl, by simp only; exact hf0.symm, rfl⟩).trans rfl
 rintro ⟨i, j, s⟩ ⟨h1, h2, h3, h4, h5⟩
 simp only at h1 h2 h3 h4 h5
 rcases Nat.lt_or_ge j l.length with hj | hj
 ·left
  have hjs : j < s.length := by omega
  have hwi : IntKind.wrap .i64 ((i : Int) + 1) = ((i + 1 : Nat) : Int) := by rw [ag6 (by omega) (by omega)]; omega
  have hwj : IntKind.wrap .i64 ((j : Int) + 1) = ((j + 1 : Nat) : Int) := by rw [ag6 (by omega) (by omega)]; omega
  have hsj : s[j] = l[j] := by
   rw [List.drop_eq_getElem_cons hjs, List.drop_eq_getElem_cons hj] at h5
   exact (List.cons.inj h5).1
  have h5' : s.drop (j + 1) = l.drop (j + 1) := by
   rw [List.drop_eq_getElem_cons hjs, List.drop_eq_getElem_cons hj] at h5
   exact (List.cons.inj h5).2
  simp only
  rw [hb i j s (by omega) hjs]
  cases hp : p s[j] with
  | true =>
   refine ⟨(i, j + 1, s), ?_, by trivial, ⟨by simp only; omega, by simp only; omega, h3, ?_, h5'⟩, by simp only; omega⟩
   ·simp only [Bool.not_true, Bool.false_eq_true, if_false, hwj]
   ·simp only
    rw [h4, List.take_succ_eq_append_getElem hj, List.filter_append]
    simp [← hsj, hp]
  | false =>
   refine ⟨(i + 1, j + 1, s.set i s[j]), ?_, by trivial, ⟨by simp only; omega, by simp only; omega, by simp [h3], ?_, ?_⟩, by simp only; omega⟩
   ·simp only [Bool.not_false, if_true, hwi, hwj]
   ·simp only
    rw [List.take_succ_eq_append_getElem (by simp; omega), List.getElem_set_self, List.take_set_of_le (Nat.le_refl _), h4, List.take_succ_eq_append_getElem hj, List.filter_append]
    simp [← hsj, hp]
   ·simp only
    rw [List.drop_set_of_lt (by omega)]; exact h5'
 ·right
  have : j = s.length := by omega
  subst this
  simp only
  rw [he i s (by omega), h4, List.take_of_length_le hj]
theorem cw7 (l : List UInt8) (c : UInt8) : decide (Go.Lib.indexByte l c < 0) = !l.contains c := by
 rw [← cj4, Bool.eq_iff_iff]
 simp
theorem bC2 (l : Str) (c : UInt8) : strings_IndexByte l (c.toNat : Int) = some (Go.Lib.indexByte l c) := by
 unfold strings_IndexByte stringslite_IndexByte aM4
 rw [bq2]; rfl
def dC (more : Str) (c : UInt8) : Bool := ((decide (97 ≤ (c.toNat : Int)) && decide ((c.toNat : Int) ≤ 122)) || (decide (48 ≤ (c.toNat : Int)) && decide ((c.toNat : Int) ≤ 57))) || more.contains c
def an6 (s more : Str) (most : Nat) : Bool := !decide (s = []) && (decide (s.length ≤ most) && s.all (dC more))
theorem bJ5 {s more : Str} {most : Nat} (hm : most ≤ 1000000) : aM6 s (most : Int) more = some (an6 s more most) := by
 unfold aM6 an6
 by_cases h0 : s = []
 ·simp [h0]
 by_cases h1 : s.length ≤ most
 ·have h2 : ¬ ((most : Int) < (List.length s : Int)) := by omega
  simp only [h0, h2, decide_false, Bool.or_self, Bool.false_eq_true, if_false, h1, decide_true, Bool.not_false, Bool.true_and]
  refine (ae4 s.length (fun (_ : Unit) i => i) (fun v => az0 s more v) (fun i _ => (s.drop i).all (dC more)) (fun _ _ => True) (s0 := ()) trivial ?_ ?_).trans rfl
  ·intro _ i hi _
   have key : ∀ (b : Bool) (c : UInt8), ((if (decide ((c.toNat : Int) < 97)) then (if (decide ((c.toNat : Int) < 48)) then some (!b) else (if (decide (57 < (c.toNat : Int))) then some (!b) else some false)) else (if (decide (122 < (c.toNat : Int))) then (if (decide ((c.toNat : Int) < 48)) then some (!b) else (if (decide (57 < (c.toNat : Int))) then some (!b) else some false)) else some false)) : Option Bool)
     = some (!(((decide (97 ≤ (c.toNat : Int)) && decide ((c.toNat : Int) ≤ 122)) || (decide (48 ≤ (c.toNat : Int)) && decide ((c.toNat : Int) ≤ 57))) || b)) := by
    intro b
    cases b
    ·exact bj3 (by decide +kernel)
    ·exact bj3 (by decide +kernel)
   simp only [az0, dlt hi, if_true, al6 hi, Option.bind_some, bC2, cw7, key, List.drop_eq_getElem_cons hi, List.all_cons]
   change (∃ s', (if (!dC more s[i]) = true then _ else _) = _ ∧ _ ∧ _) ∨ (if (!dC more s[i]) = true then _ else _) = _
   cases dC more s[i] with
   | false => right; simp
   | true =>
    left
    refine ⟨(), ?_, by simp, trivial⟩
    simp only [Bool.not_true, Bool.false_eq_true, if_false]
    rw [ab1 (by omega)]
  ·intro _ _
   simp [az0]
 ·have h2 : ((most : Int) < (List.length s : Int)) := by omega
  simp [h0, h1, h2]
theorem bw8 {s more : Str} {i : Nat} (hi : i < s.length) (hl : s.length ≤ 1000000) (hm : more.length ≤ 1000000) (ok : Bool) :
  ab0 (fun x => ak3 s more (i : Int) x.1 x.2) (ok, 0) = some (if (ok || more.contains s[i]) = true then Step.cont ((i : Int) + 1) else Step.done false) := by
 refine (ae4 (τ := Bool × Int) more.length (fun (x : Bool) k => (x, k)) (fun x => ak3 s more (i : Int) x.1 x.2) (fun k x => if (x || (more.drop k).contains s[i]) = true then Step.cont ((i : Int) + 1) else Step.done false) (fun _ _ => True) (s0 := ok) trivial ?_ ?_).trans (by simp)
 ·intro x k hk _
  left
  refine ⟨x || decide (s[i] = more[k]), ?_, ?_, trivial⟩
  ·simp only [ak3, dlt hk, if_true, al6 hi, al6 hk, Option.bind_some, isC]
   rw [ab1 (by omega)]
   cases x <;> rfl
  ·simp only [List.drop_eq_getElem_cons hk, List.contains_cons]
   have : (s[i] == more[k]) = decide (s[i] = more[k]) := by rw [Bool.eq_iff_iff]; simp
   rw [this, Bool.or_assoc]
 ·intro x _
  simp only [ak3, dge, Bool.false_eq_true, if_false, aB4, List.drop_length]
  rw [ab1 (by omega)]
  cases x <;> simp
theorem a97 {s more : Str} {most : Nat} (hs : s.length ≤ 1000000) (hm : more.length ≤ 1000000) : ar2 s more (most : Int) = some (an6 s more most) := by
 unfold ar2
 refine (ae4 s.length (fun (_ : Unit) i => i) (fun v => ao8 s more (most : Int) v) (fun i _ => (s.drop i).all (dC more) && (!decide (s = []) && decide (s.length ≤ most))) (fun _ _ => True) (s0 := ()) trivial ?_ ?_).trans ?_
 ·intro _ i hi _
  have key : ∀ c : UInt8, ((if (decide (97 ≤ (c.toNat : Int))) then (if (decide ((c.toNat : Int) ≤ 122)) then some true else (if (decide (48 ≤ (c.toNat : Int))) then some (decide ((c.toNat : Int) ≤ 57)) else some false)) else (if (decide (48 ≤ (c.toNat : Int))) then some (decide ((c.toNat : Int) ≤ 57)) else some false)) : Option Bool)
    = some ((decide (97 ≤ (c.toNat : Int)) && decide ((c.toNat : Int) ≤ 122)) || (decide (48 ≤ (c.toNat : Int)) && decide ((c.toNat : Int) ≤ 57))) := bj3 (by decide +kernel)
  simp only [ao8, dlt hi, if_true, al6 hi, Option.bind_some, key, bw8 hi hs hm, List.drop_eq_getElem_cons hi, List.all_cons]
  change (∃ s', some (if dC more s[i] = true then _ else _) = _ ∧ _ ∧ _) ∨ some (if dC more s[i] = true then _ else _) = _
  cases dC more s[i] with
  | false => right; simp
  | true => left; exact ⟨(), by simp, by simp, trivial⟩
 ·intro _ _
  simp only [ao8, dge, Bool.false_eq_true, if_false, List.drop_length, List.all_nil, Bool.true_and]
  congr 2
  cases s with
  | nil => rfl
  | cons c r =>
   have : decide ((1 : Int) ≤ (List.length (c :: r) : Int)) = true := by simp only [List.length_cons, decide_eq_true_eq]; omega
   rw [this]
   have e : decide ((List.length (c :: r) : Int) ≤ (most : Int)) = decide (List.length (c :: r) ≤ most) := by rw [Bool.eq_iff_iff]; simp only [decide_eq_true_eq]; omega
   rw [e]; simp
 ·simp only [List.drop_zero, an6]
  congr 1
  cases s.all (dC more) <;> cases decide (s = []) <;> cases decide (s.length ≤ most) <;> rfl
def bJ6 (s : Str) : Bool := an6 s [45, 95] 32 && (match s with | c :: _ => decide (97 ≤ (c.toNat : Int)) | [] => false)
def aO1 (s : Str) : Bool := an6 s [45, 95, 46] 64
def svcB (s : Str) : Bool := decide (s = []) || an6 s [45, 95] 32
def as9 (a : aa2) : Bool := bJ6 a.Net && ((decide (a.Host = [42]) || aO1 a.Host) && svcB a.Service)
theorem bQ4 (s : Str) : aM7 s = some (bJ6 s) := by
 unfold aM7 bJ6
 have h := bJ5 (s := s) (more := [45, 95]) (most := 32) (by omega)
 rw [show ((32 : Nat) : Int) = 32 from rfl] at h
 rw [h, Option.bind_some]
 cases hl : an6 s [45, 95] 32 with
 | false => simp
 | true =>
  cases s with
  | nil => simp [an6] at hl
  | cons c r =>
   have hat : ai9 (c :: r) 0 = some c := rfl
   have hd : dC [45, 95] c = true := by
    unfold an6 at hl
    simp only [Bool.and_eq_true, List.all_cons] at hl
    exact hl.2.2.1
   have key : ∀ c : UInt8, (!dC [45, 95] c || !decide (97 ≤ (c.toNat : Int)) || decide ((c.toNat : Int) ≤ 122)) = true := aX3 (by decide +kernel)
   have k := key c
   rw [hd] at k
   simp only [if_true, hat, Option.bind_some, Bool.true_and]
   cases h97 : decide (97 ≤ (c.toNat : Int)) with
   | false => simp
   | true => rw [h97] at k; simp only [Bool.not_true, Bool.false_or] at k; simp [k]
theorem bk4 (s : Str) : aB1 s = some (aO1 s) := by
 unfold aB1 aO1
 have h := bJ5 (s := s) (more := [45, 95, 46]) (most := 64) (by omega)
 rw [show ((64 : Nat) : Int) = 64 from rfl] at h
 rw [h]; rfl
theorem bC3 {s : Str} (hs : s.length ≤ 1000000) : aV0 s = some (bJ6 s) := by
 unfold aV0 bJ6
 have h := a97 (s := s) (more := [45, 95]) (most := 32) hs (by simp)
 rw [show ((32 : Nat) : Int) = 32 from rfl] at h
 rw [h, Option.bind_some]
 cases hl : an6 s [45, 95] 32 with
 | false => simp
 | true =>
  cases s with
  | nil => simp [an6] at hl
  | cons c r =>
   have hat : ai9 (c :: r) 0 = some c := rfl
   simp [hat]
theorem br1 {s : Str} (hs : s.length ≤ 1000000) : aN2 s = some (aO1 s) := by
 unfold aN2 aO1
 have h := a97 (s := s) (more := [45, 95, 46]) (most := 64) hs (by simp)
 rw [show ((64 : Nat) : Int) = 64 from rfl] at h
 rw [h]; rfl
theorem be6 (a : aa2) : aG4 a = some (as9 a) := by
 unfold aG4 as9 svcB
 have h := bJ5 (s := a.Service) (more := [45, 95]) (most := 32) (by omega)
 rw [show ((32 : Nat) : Int) = 32 from rfl] at h
 simp only [h, bQ4, bk4, Option.bind_some]
 cases bJ6 a.Net <;> cases h1 : decide (a.Host = [42]) <;> cases aO1 a.Host <;> cases h2 : decide (a.Service = []) <;> cases an6 a.Service [45, 95] 32 <;> simp
theorem aQ9 {a : aa2} (h1 : a.Net.length ≤ 1000000) (h2 : a.Host.length ≤ 1000000) (h3 : a.Service.length ≤ 1000000) : aB5 a = some (as9 a) := by
 unfold aB5 as9 svcB
 have h := a97 (s := a.Service) (more := [45, 95]) (most := 32) h3 (by simp)
 rw [show ((32 : Nat) : Int) = 32 from rfl] at h
 simp only [h, bC3 h1, br1 h2, Option.bind_some]
 cases bJ6 a.Net <;> cases h1 : decide (a.Host = [42]) <;> cases aO1 a.Host <;> cases h2 : decide (a.Service = []) <;> cases an6 a.Service [45, 95] 32 <;> simp
def au5 (sep : UInt8) : Str → Str → List Str
 | acc, [] => [acc]
 | acc, c :: r => if c = sep then acc :: au5 sep [] r else au5 sep (acc ++ [c]) r
theorem bJ7 {sep : UInt8} {a : Str} (h : sep ∉ a) (acc : Str) : au5 sep acc a = [acc ++ a] := by
 induction a generalizing acc with
 | nil => simp [au5]
 | cons c r ih =>
  simp only [List.mem_cons, not_or] at h
  rw [au5, if_neg (fun e => h.1 e.symm), ih h.2]
  simp
theorem bV9 {sep : UInt8} {a b : Str} (h : sep ∉ a) (acc : Str) : au5 sep acc (a ++ sep :: b) = (acc ++ a) :: au5 sep [] b := by
 induction a generalizing acc with
 | nil => simp [au5]
 | cons c r ih =>
  simp only [List.mem_cons, not_or] at h
  rw [List.cons_append, au5, if_neg (fun e => h.1 e.symm), ih h.2]
  simp
theorem a98 {sep : UInt8} : ∀ (p acc : Str), ∀ x ∈ au5 sep acc p, x.length ≤ acc.length + p.length
 | [], acc, x, h => by simp [au5] at h; subst h; simp
 | c :: r, acc, x, h => by
  unfold au5 at h
  split at h
  ·rcases List.mem_cons.1 h with rfl | h
   ·omega
   ·have := a98 r [] x h
    simp at this ⊢; omega
  ·have := a98 r (acc ++ [c]) x h
   simp at this ⊢; omega
theorem bJ8 (l : Str) (c : UInt8) : (c ∉ l ∧ Go.Lib.indexByte l c = -1) ∨ ∃ a b, l = a ++ c :: b ∧ c ∉ a ∧ Go.Lib.indexByte l c = (a.length : Int) := by
 induction l with
 | nil => exact .inl ⟨by simp, rfl⟩
 | cons x r ih =>
  by_cases hx : x = c
  ·subst hx
   exact .inr ⟨[], r, rfl, by simp, by simp [Go.Lib.indexByte]⟩
  ·have hx' : (x == c) = false := by simpa using hx
   rcases ih with ⟨h1, h2⟩ | ⟨a, b, h1, h2, h3⟩
   ·refine .inl ⟨by simp [h1, Ne.symm hx], ?_⟩
    simp [Go.Lib.indexByte, hx', h2]
   ·refine .inr ⟨x :: a, b, by rw [h1]; rfl, by simp [h2, Ne.symm hx], ?_⟩
    have : ¬ ((a.length : Int) = -1) := by omega
    simp [Go.Lib.indexByte, hx', h3, this]
theorem bJ9 {p : Str} {sep : UInt8} (h : p.length ≤ 1000000000) : ax1 p [sep] 0 (-1) = some (au5 sep [] p) := by
 unfold ax1
 simp only [show decide ((-1 : Int) = 0) = false from rfl, show decide (([sep] : Str) = []) = false by simp, show decide ((-1 : Int) < 0) = true from rfl, if_true, Bool.false_eq_true, if_false]
 have hcnt : strings_Count p [sep] = some ((p.count sep : Nat) : Int) := rfl
 have hle : p.count sep ≤ p.length := List.count_le_length
 rw [hcnt, Option.bind_some, ag6 (by omega) (by omega)]
 unfold aq6
 have hmin : min ((p.count sep : Int) + 1) (IntKind.wrap .i64 ((List.length p : Int) + 1)) = ((p.count sep + 1 : Nat) : Int) := by
  rw [ag6 (by omega) (by omega)]; omega
 have hmk : mkC 16 ([] : Str) (((p.count sep + 1 : Nat) : Int)) (((p.count sep + 1 : Nat) : Int)) = some (List.replicate (p.count sep + 1) []) := by
  unfold mkC
  rw [if_pos ⟨by omega, by omega, by omega, by omega⟩, Int.toNat_natCast]
 have hlim : IntKind.wrap .i64 (((p.count sep + 1 : Nat) : Int) - 1) = ((p.count sep : Nat) : Int) := by rw [ag6 (by omega) (by omega)]; omega
 rw [hmin, hmk, Option.bind_some]
 refine (ae4 (τ := Str × Int × List Str) (p.count sep) (fun (s : Str × List Str) i => (s.1, i, s.2)) (fun s => aj9 p [sep] 0 ((p.count sep : Int) + 1) s.1 s.2.1 s.2.2)
  (fun i s => s.2.take i ++ au5 sep [] s.1) (fun i s => i + s.1.count sep = p.count sep ∧ s.2.length = p.count sep + 1 ∧ s.1.length ≤ p.length) (s0 := (p, List.replicate (p.count sep + 1) [])) ⟨by simp, by simp, Nat.le_refl _⟩ ?_ ?_).trans ?_
 ·rintro ⟨s, a⟩ i hi ⟨h1, h2, h3⟩
  simp only at h1 h2 h3
  left
  rcases bJ8 s sep with ⟨hn, _⟩ | ⟨x, y, rfl, hx, hix⟩
  ·have : s.count sep = 0 := List.count_eq_zero.2 hn
   omega
  ·have hidx : strings_Index (x ++ sep :: y) [sep] = some (x.length : Int) := by
    show some _ = _
    rw [hix]
   simp only [List.length_append, List.length_cons] at h3
   have hia : i < a.length := by omega
   have e1 : cut (x ++ sep :: y) 0 (IntKind.wrap .i64 ((x.length : Int) + 0)) = some x := by
    rw [ag6 (by omega) (by omega), Int.add_zero, bb9 (by simp)]
    simp
   have e2 : cut (x ++ sep :: y) (IntKind.wrap .i64 ((x.length : Int) + (List.length ([sep] : Str) : Int))) (List.length (x ++ sep :: y) : Int) = some y := by
    have hw : IntKind.wrap .i64 ((x.length : Int) + (List.length ([sep] : Str) : Int)) = ((x.length + 1 : Nat) : Int) := by
     rw [ag6 (by simp; omega) (by simp; omega)]; simp
    rw [hw, aX4 (by simp)]
    rw [show (x ++ sep :: y) = (x ++ [sep]) ++ y by simp, List.drop_left' (by simp)]
   have hneg : ¬ ((x.length : Int) < 0) := by omega
   have hcond : (i : Int) < ((p.count sep : Nat) : Int) := by omega
   refine ⟨(y, a.set i x), ?_, ?_, ?_, by simp [h2], by simp; omega⟩
   ·simp only [aj9, hmin, hlim, hcond, decide_true, if_true, hidx, Option.bind_some, hneg, decide_false, Bool.false_eq_true, if_false, e1, e2, aa7 hia, Int.toNat_natCast]
    rw [b28 hi (by unfold maxLen; omega)]
   ·simp only
    rw [bV9 hx, List.take_succ_eq_append_getElem (by simp; omega), List.getElem_set_self, List.take_set_of_le (Nat.le_refl _)]
    simp
   ·simp only [List.count_append, List.count_cons, List.count_eq_zero.2 hx] at h1
    simp at h1 ⊢
    omega
 ·rintro ⟨s, a⟩ ⟨h1, h2, h3⟩
  simp only at h1 h2 h3
  have hc : s.count sep = 0 := by omega
  have hia : p.count sep < a.length := by omega
  have hcond : ¬ (((p.count sep : Nat) : Int) < ((p.count sep : Nat) : Int)) := by omega
  have e1 : cut (List.set a (p.count sep) s) 0 (IntKind.wrap .i64 (((p.count sep : Nat) : Int) + 1)) = some (List.take (p.count sep) a ++ [s]) := by
   rw [ag6 (by omega) (by omega)]
   have := bb9 (l := List.set a (p.count sep) s) (b := p.count sep + 1) (by simp; omega)
   rw [show ((p.count sep + 1 : Nat) : Int) = ((p.count sep : Nat) : Int) + 1 by omega] at this
   rw [this, List.take_succ_eq_append_getElem (by simp; omega), List.getElem_set_self, List.take_set_of_le (Nat.le_refl _)]
  simp only [aj9, aq5, hmin, hlim, hcond, decide_false, Bool.false_eq_true, if_false, aa7 hia, Option.bind_some, Int.toNat_natCast, e1, Option.map_some]
  rw [bJ7 (List.count_eq_zero.1 hc)]
  rfl
 ·simp
theorem cf0 {p : Str} {sep : UInt8} (h : p.length ≤ 1000000000) : aF6 p [sep] = some (au5 sep [] p) := by
 unfold aF6
 rw [bJ9 h]; rfl
theorem is33 (c : UInt8) : decide ((c.toNat : Int) = 33) = decide (c = 33) := isC c 33
theorem bK0 {p : Str} (h : p.length ≤ 50000) : aP9 p = some (au5 33 [] p) := by
 unfold aP9
 refine (ae4 (τ := Int × Int × List Str) (p.length + 1) (fun (s : Nat × List Str) i => ((s.1 : Int), i, s.2)) (fun s => al0 p s.1 s.2.1 s.2.2)
  (fun i s => if i = p.length + 1 then s.2 else s.2 ++ au5 33 ((p.take i).drop s.1) (p.drop i)) (fun i s => s.1 ≤ i ∧ s.2.length ≤ i) (s0 := (0, [])) ⟨by simp, by simp⟩ ?_ ?_).trans ?_
 ·rintro ⟨from', out⟩ i hi ⟨h1, h2⟩
  simp only at h1 h2
  left
  have hle : (i : Int) ≤ (List.length p : Int) := by omega
  have hcut : cut p (from' : Int) (i : Int) = some ((p.take i).drop from') := a19 h1 (by omega)
  have happ : ar6 16 out [(p.take i).drop from'] = some (out ++ [(p.take i).drop from']) := ac2 (by simp; omega) (by simp; omega)
  have hw : IntKind.wrap .i64 ((i : Int) + 1) = (i : Int) + 1 := ag6 (by omega) (by omega)
  by_cases hi2 : i = p.length
  ·have hi3 : (i : Int) = (List.length p : Int) := by omega
   refine ⟨(i + 1, out ++ [(p.take i).drop from']), ?_, ?_, by simp, by simp; omega⟩
   ·simp only [al0, hle, hi3, decide_true, if_true, Option.bind_some]
    rw [← hi3, hcut, Option.bind_some, happ, Option.bind_some, hw]
    simp
   ·simp only
    rw [if_neg (by omega), if_pos (by omega), hi2]
    simp [au5]
  ·have hi3 : ¬ (i : Int) = (List.length p : Int) := by omega
   have hlt : i < p.length := by omega
   by_cases hs : p[i] = 33
   ·refine ⟨(i + 1, out ++ [(p.take i).drop from']), ?_, ?_, by simp, by simp; omega⟩
    ·simp only [al0, hle, hi3, decide_true, decide_false, if_true, Bool.false_eq_true, if_false, al6 hlt, Option.bind_some, is33, hs, hcut, happ, hw]
     rfl
    ·simp only
     rw [if_neg (by omega), if_neg (by omega), List.drop_eq_getElem_cons hlt, au5, if_pos hs]
     have : (p.take (i + 1)).drop (i + 1) = [] := List.drop_of_length_le (by simp; omega)
     rw [this, List.append_assoc]; rfl
   ·refine ⟨(from', out), ?_, ?_, by simp; omega, by simp; omega⟩
    ·simp only [al0, hle, hi3, decide_true, decide_false, if_true, Bool.false_eq_true, if_false, al6 hlt, Option.bind_some, is33, hs, hw]
    ·simp only
     rw [if_neg (by omega), if_neg (by omega), List.drop_eq_getElem_cons hlt, au5, if_neg hs]
     congr 2
     rw [List.take_succ_eq_append_getElem hlt, List.drop_append_of_le_length (by simp; omega)]
 ·rintro ⟨from', out⟩ ⟨h1, h2⟩
  have : ¬ (((p.length + 1 : Nat) : Int) ≤ (List.length p : Int)) := by omega
  simp [al0]
  omega
 ·simp
def bd0 : aa2 × Int := (⟨[], [], []⟩, 36)
def af8 (s : Str) : aa2 × Int := match au5 33 [] s with
 | [n, h] => if as9 ⟨n, h, []⟩ then (⟨n, h, []⟩, 0) else bd0
 | [n, h, v] => if as9 ⟨n, h, v⟩ && !decide (v = []) then (⟨n, h, v⟩, 0) else bd0
 | _ => bd0
theorem cf1 {n v : Str} : as9 ⟨n, [], v⟩ = false := by
 unfold as9
 have : (decide (([] : Str) = [42]) || aO1 []) = false := by decide
 simp only [this, Bool.false_and, Bool.and_false]
theorem b47 {s : Str} (h : s.length ≤ 50000) : aG5 s = some (af8 s) := by
 unfold aG5 af8
 rw [cf0 (by omega), Option.bind_some]
 generalize au5 33 [] s = l
 match l with
 | [] => rfl
 | [a] => rfl
 | [n, h] =>
  have e1 : aa8 [n, h] 0 = some n := rfl
  have e2 : aa8 [n, h] 1 = some h := rfl
  simp only [List.length_cons, List.length_nil, e1, e2, Option.bind_some, az1, be6]
  cases as9 ⟨n, h, []⟩ <;> simp [bd0]
 | [n, h, v] =>
  have e1 : aa8 [n, h, v] 0 = some n := rfl
  have e2 : aa8 [n, h, v] 1 = some h := rfl
  have e3 : aa8 [n, h, v] 2 = some v := rfl
  simp only [List.length_cons, List.length_nil, e1, e2, e3, Option.bind_some, az1, be6]
  cases as9 ⟨n, h, v⟩ <;> cases hv : decide (v = []) <;> simp_all [bd0]
 | a :: b :: c :: d :: r =>
  have : (3 : Int) < (List.length (a :: b :: c :: d :: r) : Int) := by simp only [List.length_cons]; omega
  simp only [this, decide_true, Bool.or_true, if_true]
  rfl
theorem br2 {s : Str} (h : s.length ≤ 50000) : aI4 s = some (af8 s) := by
 unfold aI4 af8
 rw [bK0 h, Option.bind_some]
 have hm := a98 (sep := 33) s []
 generalize au5 33 [] s = l at hm
 match l, hm with
 | [], _ => rfl
 | [a], _ => rfl
 | [n, h], hm =>
  have e1 : aa8 [n, h] 0 = some n := rfl
  have e2 : aa8 [n, h] 1 = some h := rfl
  have e4 : aa8 [n, h] (IntKind.wrap .i64 (2 - 1)) = some h := rfl
  have l1 := hm n (by simp)
  have l2 := hm h (by simp)
  have hr := aQ9 (a := ⟨n, h, []⟩) (by simp only; simp at l1; omega) (by simp only; simp at l2; omega) (by simp)
  have hl : (List.length [n, h] : Int) = 2 := rfl
  simp only [hl, e1, e2, e4, Option.bind_some, aw7, hr]
  by_cases hh : h = []
  ·subst hh
   simp [cf1, bd0]
  ·cases as9 ⟨n, h, []⟩ <;> simp [bd0, hh]
 | [n, h, v], hm =>
  have e1 : aa8 [n, h, v] 0 = some n := rfl
  have e2 : aa8 [n, h, v] 1 = some h := rfl
  have e3 : aa8 [n, h, v] 2 = some v := rfl
  have e4 : aa8 [n, h, v] (IntKind.wrap .i64 (3 - 1)) = some v := rfl
  have l1 := hm n (by simp)
  have l2 := hm h (by simp)
  have l3 := hm v (by simp)
  have hr := aQ9 (a := ⟨n, h, v⟩) (by simp only; simp at l1; omega) (by simp only; simp at l2; omega) (by simp only; simp at l3; omega)
  have hl : (List.length [n, h, v] : Int) = 3 := rfl
  simp only [hl, e1, e2, e3, e4, Option.bind_some, aw7, hr]
  by_cases hv : v = []
  ·subst hv; cases as9 ⟨n, h, []⟩ <;> simp [bd0]
  ·cases as9 ⟨n, h, v⟩ <;> simp [bd0, hv]
 | a :: b :: c :: d :: r, _ =>
  have h1 : (3 : Int) < (List.length (a :: b :: c :: d :: r) : Int) := by simp only [List.length_cons]; omega
  have h2 : ¬ ((List.length (a :: b :: c :: d :: r) : Int) < 2) := by simp only [List.length_cons]; omega
  simp only [h1, h2, decide_true, decide_false, Bool.false_eq_true, if_false, if_true, Option.bind_some]
  rfl
def bc1 (a : aa2) : Str × Int := if as9 a then (a.Net ++ [33] ++ a.Host ++ (if a.Service = [] then [] else [33] ++ a.Service), 0) else ([], 36)
theorem b48 {a : aa2} (h1 : a.Net.length ≤ 1000000) (h2 : a.Host.length ≤ 1000000) (h3 : a.Service.length ≤ 1000000) : aM8 a = some (bc1 a) := by
 unfold aM8 bc1
 have c1 : aA4 a.Net [33] = some (a.Net ++ [33]) := ag9 (by simp; omega)
 have c2 : aA4 (a.Net ++ [33]) a.Host = some (a.Net ++ [33] ++ a.Host) := ag9 (by simp; omega)
 have c3 : aA4 [33] a.Service = some ([33] ++ a.Service) := ag9 (by simp; omega)
 have c4 : aA4 (a.Net ++ [33] ++ a.Host) ([33] ++ a.Service) = some (a.Net ++ [33] ++ a.Host ++ ([33] ++ a.Service)) := ag9 (by simp; omega)
 simp only [be6, c1, c2, c3, c4, Option.bind_some]
 cases as9 a <;> by_cases hs : a.Service = [] <;> simp [hs]
theorem br3 {a : aa2} (h1 : a.Net.length ≤ 1000000) (h2 : a.Host.length ≤ 1000000) (h3 : a.Service.length ≤ 1000000) : aI8 a = some (bc1 a) := by
 unfold aI8 bc1
 have c1 : aA4 a.Net [33] = some (a.Net ++ [33]) := ag9 (by simp; omega)
 have c2 : aA4 (a.Net ++ [33]) a.Host = some (a.Net ++ [33] ++ a.Host) := ag9 (by simp; omega)
 have c3 : aA4 (a.Net ++ [33] ++ a.Host) [33] = some (a.Net ++ [33] ++ a.Host ++ [33]) := ag9 (by simp; omega)
 have c4 : aA4 (a.Net ++ [33] ++ a.Host ++ [33]) a.Service = some (a.Net ++ [33] ++ a.Host ++ [33] ++ a.Service) := ag9 (by simp; omega)
 simp only [aQ9 h1 h2 h3, c1, c2, c3, c4, Option.bind_some]
 cases as9 a <;> by_cases hs : a.Service = [] <;> simp [hs]
theorem co3 {l : List aa4} (h : l.length ≤ 1000000) : a56 l = some (l.any (·.Query)) := by
 unfold a56 af7
 have hix : ad7 l = some (aS1 (fun a => a.Query) l) := by
  unfold ad7
  refine av7 h ?_ ?_
  ·intro i hi
   simp only [ac8, dlt hi, if_true, aa7 hi, Option.bind_some, a23]
  ·simp [ac8]
 rw [hix, Option.bind_some, Option.bind_some, aQ8]
def okE (out : List aa3) : Prop := out.length ≤ 256 ∧ ∀ x ∈ out, x.Attrs.length ≤ 32 ∧ ∀ a ∈ x.Attrs, okA a
theorem bk5 {l : List Str} {v : Str} (h : l.length ≤ 1000000) : af5 l v = some (l.contains v) := by
 unfold af5
 have hix : ai2 l v = some (aS1 (fun x => decide (v = x)) l) := by
  unfold ai2
  refine av7 h ?_ ?_
  ·intro i hi
   simp only [ah0, dlt hi, if_true, aa7 hi, Option.bind_some]
  ·simp [ah0]
 rw [hix, Option.bind_some, aQ8]
 congr 1
 rw [Bool.eq_iff_iff]
 simp
theorem b49 {l : List Str} {v : Str} (h : l.length ≤ 1000000) : aN4 l v = some (l.contains v) := by
 unfold aN4
 refine (ae4 l.length (fun (_ : Unit) i => i) (fun s => aD8 l v s) (fun i _ => (l.drop i).contains v) (fun _ _ => True) (s0 := ()) trivial ?_ ?_).trans rfl
 ·intro _ i hi _
  simp only [aD8, dlt hi, if_true, aa7 hi, Option.bind_some, List.drop_eq_getElem_cons hi, List.contains_cons]
  by_cases hv : l[i] = v
  ·right
   have : (v == l[i]) = true := by simp [hv]
   simp [hv]
  ·left
   have : (v == l[i]) = false := by simp [Ne.symm hv]
   refine ⟨(), ?_, by rw [this, Bool.false_or], trivial⟩
   simp only [hv, decide_false, Bool.false_eq_true, if_false]
   rw [ab1 (by omega)]
 ·intro _ _
  simp [aD8]
def aE9 (name : Str) : List Str → List aa3 → List Str
 | out, [] => out
 | out, x :: r => if (at0 name x.Attrs).2 && !out.contains (at0 name x.Attrs).1 then aE9 name (out ++ [(at0 name x.Attrs).1]) r else aE9 name out r
def aA3 (l : List aa3) (name : Str) : List Str := aE9 name [] l
def okD (l : List aa3) : Prop := l.length ≤ 1000 ∧ ∀ x ∈ l, x.Attrs.length ≤ 1000000
theorem bk6 {l : List aa3} {name : Str} (h : okD l) : at7 l name = some (aA3 l name) := by
 unfold at7 aA3
 have h1 := h.1
 refine (ae4 (τ := Int × List Str) l.length (fun (x : List Str) i => (i, x)) (fun x => aw2 l name x.1 x.2) (fun i x => aE9 name x (l.drop i)) (fun i x => x.length ≤ i) (s0 := []) (by simp) ?_ ?_).trans rfl
 ·intro out i hi hl
  left
  have hap : ∀ v, ar6 16 out [v] = some (out ++ [v]) := fun v => ac2 (by simp; omega) (by simp; omega)
  have hw : IntKind.wrap .i64 ((i : Int) + 1) = (i : Int) + 1 := ab1 (by omega)
  refine ⟨if (at0 name l[i].Attrs).2 && !out.contains (at0 name l[i].Attrs).1 then out ++ [(at0 name l[i].Attrs).1] else out, ?_, ?_, ?_⟩
  ·simp only [aw2, dlt hi, if_true, aa7 hi, Option.bind_some, b46 (h.2 _ (List.getElem_mem hi)), a22, bk5 (l := out) (by omega), hap, hw]
   cases (at0 name l[i].Attrs).2 <;> cases out.contains (at0 name l[i].Attrs).1 <;> rfl
  ·simp only [List.drop_eq_getElem_cons hi, aE9]
   split <;> rfl
  ·split <;> (try simp) <;> omega
 ·intro out _
  simp [aw2, aE9]
theorem aV2 {l : List aa3} {name : Str} (h : okD l) : aq0 l name = some (aA3 l name) := by
 unfold aq0 aA3
 have h1 := h.1
 refine (ae4 (τ := Int × List Str) l.length (fun (x : List Str) i => (i, x)) (fun x => ar8 l name x.1 x.2) (fun i x => aE9 name x (l.drop i)) (fun i x => x.length ≤ i) (s0 := []) (by simp) ?_ ?_).trans rfl
 ·intro out i hi hl
  left
  have hap : ∀ v, ar6 16 out [v] = some (out ++ [v]) := fun v => ac2 (by simp; omega) (by simp; omega)
  have hw : IntKind.wrap .i64 ((i : Int) + 1) = (i : Int) + 1 := ab1 (by omega)
  refine ⟨if (at0 name l[i].Attrs).2 && !out.contains (at0 name l[i].Attrs).1 then out ++ [(at0 name l[i].Attrs).1] else out, ?_, ?_, ?_⟩
  ·simp only [ar8, dlt hi, if_true, aa7 hi, Option.bind_some, br0 (h.2 _ (List.getElem_mem hi)), b49 (l := out) (by omega), hap, hw]
   cases (at0 name l[i].Attrs).2 <;> cases out.contains (at0 name l[i].Attrs).1 <;> rfl
  ·simp only [List.drop_eq_getElem_cons hi, aE9]
   split <;> rfl
  ·split <;> (try simp) <;> omega
 ·intro out _
  simp [ar8, aE9]
def bw9 (name value : Str) (x : aa3) : Bool := (at0 name x.Attrs).2 && decide ((at0 name x.Attrs).1 = value)
def au6 (l : List aa3) (name value want : Str) : List Str := aA3 (l.filter (bw9 name value)) want
theorem okD.filter {l : List aa3} (h : okD l) (p : aa3 → Bool) : okD (l.filter p) := ⟨Nat.le_trans (List.length_filter_le _ _) h.1, fun x hx => h.2 x (List.mem_filter.1 hx).1⟩
theorem bx0 {l : List aa3} {name value want : Str} (h : okD l) : av1 l name value want = some (au6 l name value want) := by
 unfold av1
 have h1 := h.1
 refine (ae4 (τ := Int × List aa3) l.length (fun (x : List aa3) i => (i, x)) (fun x => aw3 l name value want x.1 x.2) (fun i x => au6 l name value want) (fun i x => x = (l.take i).filter (bw9 name value)) (s0 := []) (by simp) ?_ ?_).trans rfl
 ·rintro out i hi rfl
  left
  have hlen : ((l.take i).filter (bw9 name value)).length ≤ i := by
   have := List.length_filter_le (bw9 name value) (l.take i)
   simp at this; omega
  have hap : ∀ v, ar6 24 ((l.take i).filter (bw9 name value)) [v] = some ((l.take i).filter (bw9 name value) ++ [v]) := fun v => ac2 (by simp; omega) (by simp; omega)
  have hw : IntKind.wrap .i64 ((i : Int) + 1) = (i : Int) + 1 := ab1 (by omega)
  refine ⟨(l.take (i + 1)).filter (bw9 name value), ?_, rfl, rfl⟩
  simp only [aw3, dlt hi, if_true, aa7 hi, Option.bind_some, b46 (h.2 _ (List.getElem_mem hi)), hap, hw]
  rw [List.take_succ_eq_append_getElem hi, List.filter_append]
  change (if bw9 name value l[i] = true then _ else _) = _
  by_cases hh : bw9 name value l[i] = true
  ·rw [if_pos hh]; simp [hh]
  ·rw [if_neg hh]; simp [hh]
 ·rintro out rfl
  simp only [aw3, dge, Bool.false_eq_true, if_false, aL3, List.take_length, bk6 (h.filter _), Option.bind_some, Option.map_some]
  rfl
theorem a26 {l : List aa3} {name value want : Str} (h : okD l) : ar3 l name value want = some (au6 l name value want) := by
 unfold ar3
 have h1 := h.1
 refine (ae4 (τ := Int × List aa3) l.length (fun (x : List aa3) i => (i, x)) (fun x => au3 l name value want x.1 x.2) (fun i x => au6 l name value want) (fun i x => x = (l.take i).filter (bw9 name value)) (s0 := []) (by simp) ?_ ?_).trans rfl
 ·rintro out i hi rfl
  left
  have hlen : ((l.take i).filter (bw9 name value)).length ≤ i := by
   have := List.length_filter_le (bw9 name value) (l.take i)
   simp at this; omega
  have hap : ∀ v, ar6 24 ((l.take i).filter (bw9 name value)) [v] = some ((l.take i).filter (bw9 name value) ++ [v]) := fun v => ac2 (by simp; omega) (by simp; omega)
  have hw : IntKind.wrap .i64 ((i : Int) + 1) = (i : Int) + 1 := ab1 (by omega)
  refine ⟨(l.take (i + 1)).filter (bw9 name value), ?_, rfl, rfl⟩
  simp only [au3, dlt hi, if_true, aa7 hi, Option.bind_some, br0 (h.2 _ (List.getElem_mem hi)), hap, hw]
  rw [List.take_succ_eq_append_getElem hi, List.filter_append]
  change (if bw9 name value l[i] = true then _ else _) = _
  by_cases hh : bw9 name value l[i] = true
  ·rw [if_pos hh]; simp [hh]
  ·rw [if_neg hh]; simp [hh]
 ·rintro out rfl
  simp only [au3, dge, Bool.false_eq_true, if_false, aI5, List.take_length, aV2 (h.filter _), Option.bind_some, Option.map_some]
  rfl
theorem a99 (name : Str) : ∀ (l : List aa3) (out : List Str), (aE9 name out l).length ≤ out.length + l.length
 | [], out => by simp [aE9]
 | x :: r, out => by
  rw [aE9]
  split
  ·have := a99 name r (out ++ [(at0 name x.Attrs).1]); simp at this ⊢; omega
  ·have := a99 name r out; simp; omega
theorem aV3 (name : Str) : ∀ (l : List aa3) (out : List Str), out.Nodup → (aE9 name out l).Nodup
 | [], out, h => h
 | x :: r, out, h => by
  rw [aE9]
  split
  ·rename_i hc
   refine aV3 name r _ ?_
   rw [List.nodup_append]
   refine ⟨h, by simp, ?_⟩
   intro a ha b hb e
   simp at hb
   rw [Bool.and_eq_true] at hc
   have h2 : out.contains (at0 name x.Attrs).1 = false := by simpa using hc.2
   have h3 : (at0 name x.Attrs).1 ∈ out := by rw [← hb, ← e]; exact ha
   rw [List.contains_iff_mem.2 h3] at h2
   cases h2
  ·exact aV3 name r out h
theorem bK1 (l : List aa3) (name : Str) : (aA3 l name).Nodup := aV3 name l [] List.nodup_nil
theorem aO2 (l : List aa3) (name : Str) : (aA3 l name).length ≤ l.length := by
 have := a99 name l []; simpa [aA3] using this
theorem bC4 {name : Str} : ∀ {l : List aa4}, (at0 name l).2 = true → ∃ a ∈ l, (at0 name l).1 = a.Value
 | [], h => by simp [at0] at h
 | a :: r, h => by
  by_cases hp : bc9 name a = true
  ·rw [bC1 hp]; exact ⟨a, by simp, rfl⟩
  ·rw [bq9 hp] at h ⊢
   obtain ⟨b, hb, he⟩ := bC4 h
   exact ⟨b, List.mem_cons_of_mem _ hb, he⟩
theorem aV4 {name : Str} {K : Nat} : ∀ (l : List aa3) (out : List Str), (∀ x ∈ l, ∀ a ∈ x.Attrs, a.Value.length ≤ K) → (∀ v ∈ out, v.length ≤ K) → ∀ v ∈ aE9 name out l, v.length ≤ K
 | [], out, _, h => h
 | x :: r, out, hl, h => by
  rw [aE9]
  split
  ·rename_i hc
   rw [Bool.and_eq_true] at hc
   refine aV4 r _ (fun y hy => hl y (List.mem_cons_of_mem _ hy)) ?_
   intro v hv
   rcases List.mem_append.1 hv with hv | hv
   ·exact h v hv
   ·simp at hv; subst hv
    obtain ⟨a, ha, he⟩ := bC4 hc.1
    rw [he]; exact hl x (by simp) a ha
  ·exact aV4 r _ (fun y hy => hl y (List.mem_cons_of_mem _ hy)) h
def okT (l : List aa3) : Prop := okD l ∧ ∀ x ∈ l, ∀ a ∈ x.Attrs, a.Value.length ≤ 5000
theorem aY8 {l : List aa3} {name : Str} (h : okT l) : ∀ v ∈ aA3 l name, v.length ≤ 5000 := aV4 l [] h.2 (by simp)
theorem okT.filter {l : List aa3} (h : okT l) (p : aa3 → Bool) : okT (l.filter p) := ⟨h.1.filter p, fun x hx => h.2 x (List.mem_filter.1 hx).1⟩
theorem au7 {l : List aa3} {name value want : Str} (h : okT l) : ∀ v ∈ au6 l name value want, v.length ≤ 5000 := aY8 (h.filter _)
theorem aV5 {l : List aa3} {name value want : Str} (h : okD l) : (au6 l name value want).length ≤ 1000 := by
 have := aO2 (l.filter (bw9 name value)) want
 have := (h.filter (bw9 name value)).1
 unfold au6; omega
def aO3 : Str := [110, 101, 116]
def bk7 : Str := [115, 101, 108, 102]
def aR0 : Str := [104, 111, 115, 116]
def a11 : Str := [97, 108, 105, 97, 115]
def an7 : Str := [115, 101, 114, 118, 105, 99, 101]
def aO4 (l : List aa3) (name : Str) : List Str := (aA3 l aO3).filter fun n => bJ6 n && (!decide (n = aO3) && (decide (name = aO3) || decide (name = n)))
theorem a27 {p : Str → Bool} {xs : List Str} {body : Int × List Str → Option (Step (Int × List Str) (List Str))} (hx : xs.length ≤ 100000)
  (hb : ∀ (i : Nat) (out : List Str) (h : i < xs.length), out.length ≤ i → body ((i : Int), out) = if p xs[i] then some (.cont ((i : Int) + 1, out ++ [xs[i]])) else some (.cont ((i : Int) + 1, out)))
  (he : ∀ out, body ((xs.length : Int), out) = some (.done out)) : ab0 body (0, []) = some (xs.filter p) := by
 refine (ae4 (τ := Int × List Str) xs.length (fun (x : List Str) i => (i, x)) body (fun i x => x ++ (xs.drop i).filter p) (fun i x => x.length ≤ i) (s0 := []) (by simp) ?_ ?_).trans (by simp)
 ·intro out i hi hl
  left
  refine ⟨if p xs[i] then out ++ [xs[i]] else out, ?_, ?_, ?_⟩
  ·rw [hb i out hi hl]; split <;> rfl
  ·simp only [List.drop_eq_getElem_cons hi, List.filter_cons]
   split <;> simp
  ·split <;> (try simp) <;> omega
 ·intro out _
  simp [he]
theorem bK2 {l : List aa3} {name : Str} (h : okD l) : aF7 l name = some (aO4 l name) := by
 unfold aF7 aO4
 have hv : at7 l [110, 101, 116] = some (aA3 l aO3) := bk6 h
 have hl := aO2 l aO3
 have h1 := h.1
 rw [hv, Option.bind_some]
 refine a27 (by omega) ?_ ?_
 ·intro i out hi hl2
  have hap : ∀ v, ar6 16 out [v] = some (out ++ [v]) := fun v => ac2 (by simp; omega) (by simp; omega)
  have hw : IntKind.wrap .i64 ((i : Int) + 1) = (i : Int) + 1 := ab1 (by omega)
  simp only [av0, dlt hi, if_true, aa7 hi, Option.bind_some, bQ4, hap, hw]
  rfl
 ·intro out
  simp [av0]
theorem bW0 {l : List aa3} (h : okT l) : aN5 l = some ((aA3 l aO3).filter fun n => bJ6 n && !decide (n = aO3)) := by
 unfold aN5
 have hv : aq0 l [110, 101, 116] = some (aA3 l aO3) := aV2 h.1
 have hl := aO2 l aO3
 have h1 := h.1.1
 have hsm := aY8 (name := aO3) h
 rw [hv, Option.bind_some]
 refine a27 (by omega) ?_ ?_
 ·intro i out hi hl2
  have hap : ∀ v, ar6 16 out [v] = some (out ++ [v]) := fun v => ac2 (by simp; omega) (by simp; omega)
  have hw : IntKind.wrap .i64 ((i : Int) + 1) = (i : Int) + 1 := ab1 (by omega)
  have := hsm _ (List.getElem_mem hi)
  simp only [aC8, dlt hi, if_true, aa7 hi, Option.bind_some, bC3 (s := (aA3 l aO3)[i]) (by omega), hap, hw]
  change _ = if (bJ6 (aA3 l aO3)[i] && !decide ((aA3 l aO3)[i] = [110, 101, 116])) = true then _ else _
  cases bJ6 (aA3 l aO3)[i] <;> by_cases hd : (aA3 l aO3)[i] = [110, 101, 116] <;> simp [hd]
 ·intro out
  simp [aC8]
theorem bQ5 (l : List aa3) : aO4 l aO3 = (aA3 l aO3).filter fun n => bJ6 n && !decide (n = aO3) := by
 unfold aO4
 congr 1
 funext n
 simp
theorem ba0 {p : Str → Bool} {a : Str} : ∀ {l : List Str}, l.Nodup → l.filter (fun n => p n && decide (a = n)) = if (l.filter p).contains a then [a] else []
 | [], _ => rfl
 | x :: r, h => by
  have hx := List.nodup_cons.1 h
  by_cases hp : p x = true
  ·by_cases hax : a = x
   ·subst hax
    have hr : r.filter (fun n => p n && decide (a = n)) = [] := by
     rw [List.filter_eq_nil_iff]
     intro n hn
     have : a ≠ n := fun e => hx.1 (e ▸ hn)
     simp [this]
    rw [List.filter_cons_of_pos (by simp [hp]), hr, List.filter_cons_of_pos hp]
    simp
   ·rw [List.filter_cons_of_neg (by simp [hax]), ba0 hx.2, List.filter_cons_of_pos hp]
    have : (a == x) = false := by simp [hax]
    rw [List.contains_cons, this, Bool.false_or]
  ·rw [List.filter_cons_of_neg (by simp [hp]), ba0 hx.2, List.filter_cons_of_neg hp]
theorem cf2 {l : List aa3} {name : Str} (h : name ≠ aO3) : aO4 l name = if (aO4 l aO3).contains name then [name] else [] := by
 rw [bQ5, ← ba0 (bK1 l aO3)]
 unfold aO4
 congr 1
 funext n
 have : decide (name = aO3) = false := by simpa using h
 rw [this, Bool.false_or, Bool.and_assoc]
theorem b50 {l : List aa3} {name n : Str} (h : n ∈ aO4 l name) : n ∈ aA3 l aO3 ∧ bJ6 n = true ∧ n ≠ aO3 ∧ (name = aO3 ∨ name = n) := by
 unfold aO4 at h
 obtain ⟨h1, h2⟩ := List.mem_filter.1 h
 simp only [Bool.and_eq_true, Bool.or_eq_true, decide_eq_true_eq, Bool.not_eq_true', decide_eq_false_iff_not] at h2
 exact ⟨h1, h2.1, h2.2.1, h2.2.2⟩
def aF0 (l : List aa3) (host name : Str) : List Str :=
 if name = [42] then [name] else if name = bk7 then (if aO1 host then [host] else []) else if (aA3 l aR0).contains name then [name] else (au6 l a11 name aR0).filter aO1
theorem bK3 {l : List Str} (hl : l.length ≤ 1000000) : ae1 l = some (l.filter aO1) := by
 unfold ae1
 have hp1 : ∀ a, aD5 a = some (!aO1 a) := by
  intro a; unfold aD5; rw [bk4]; rfl
 have hix : ae9 l = some (aS1 (fun a => !aO1 a) l) := by
  unfold ae9
  refine av7 hl ?_ ?_
  ·intro i hi
   simp only [ae0, dlt hi, if_true, aa7 hi, Option.bind_some, hp1]
  ·simp [ae0]
 rw [hix, Option.bind_some]
 rcases bC0 (fun a => !aO1 a) l with ⟨h1, h2⟩ | ⟨i, h, h1, h2, h3⟩
 ·rw [h1, List.filter_eq_self.2 (fun a ha => by simpa using h2 a ha)]; rfl
 ·have : ¬ ((i : Int) = -1) := by omega
  rw [h1]
  simp only [this, decide_false, Bool.false_eq_true, if_false]
  have := ce9 (p := fun a => !aO1 a) (body := fun s => ab2 s.1 s.2.1 s.2.2) hl (by
   intro i j s hi hj
   simp only [ab2, dlt hj, if_true, aa7 hj, aa7 hi, Option.bind_some, hp1, Int.toNat_natCast]) (by
   intro i s hi
   simp only [ab2, dge, Bool.false_eq_true, if_false, af6, bb9 hi, Option.bind_some, Option.map_some]) h h2 h3
  rw [this]
  congr 2
  funext a
  simp
theorem cf3 {l : List aa3} {host name : Str} (h : okD l) : aX8 l host name = some (aF0 l host name) := by
 unfold aX8 aF0
 have hv : at7 l [104, 111, 115, 116] = some (aA3 l aR0) := bk6 h
 have hq : av1 l [97, 108, 105, 97, 115] name [104, 111, 115, 116] = some (au6 l a11 name aR0) := bx0 h
 have hl := aO2 l aR0
 have hl2 := aV5 (name := a11) (value := name) (want := aR0) h
 have h1 := h.1
 simp only [bk4, hv, hq, Option.bind_some, bk5 (l := aA3 l aR0) (v := name) (by omega), bK3 (l := au6 l a11 name aR0) (by omega)]
 by_cases h42 : name = [42]
 ·simp [h42]
 ·by_cases hs : name = [115, 101, 108, 102]
  ·have : name = bk7 := hs
   simp only [h42, hs, decide_false, decide_true, Bool.false_eq_true, if_false, if_true, Option.bind_some, show ([115, 101, 108, 102] : Str) = bk7 from rfl]
   have : ¬ (bk7 = [42]) := by decide
   simp only [this, if_false, if_true]
   cases aO1 host <;> simp
  ·have hs2 : ¬ (name = bk7) := hs
   simp only [h42, hs, hs2, decide_false, Bool.false_eq_true, if_false, Option.bind_some]
   cases (aA3 l aR0).contains name <;> simp
theorem bK4 {l : List aa3} {host name : Str} (h : okT l) (hh : host.length ≤ 1000000) : aQ1 l host name = some (aF0 l host name) := by
 unfold aQ1 aF0
 have hv : aQ0 l name = some ((aA3 l aR0).contains name) := by
  unfold aQ0
  have : aq0 l [104, 111, 115, 116] = some (aA3 l aR0) := aV2 h.1
  have hl := aO2 l aR0
  have h1 := h.1.1
  rw [this, Option.bind_some, b49 (by omega)]; rfl
 have hq : ar3 l [97, 108, 105, 97, 115] name [104, 111, 115, 116] = some (au6 l a11 name aR0) := a26 h.1
 have hl2 := aV5 (name := a11) (value := name) (want := aR0) h.1
 have hsm := au7 (name := a11) (value := name) (want := aR0) h
 have hk : ∀ xs : List Str, xs.length ≤ 100000 → (∀ v ∈ xs, v.length ≤ 1000000) → aw8 xs = some (xs.filter aO1) := by
  intro xs hx hs
  unfold aw8
  refine a27 hx ?_ ?_
  ·intro i out hi hl2
   have hap : ∀ v, ar6 16 out [v] = some (out ++ [v]) := fun v => ac2 (by simp; omega) (by simp; omega)
   have hw : IntKind.wrap .i64 ((i : Int) + 1) = (i : Int) + 1 := ab1 (by omega)
   simp only [az9, dlt hi, if_true, aa7 hi, Option.bind_some, br1 (hs _ (List.getElem_mem hi)), hap, hw]
  ·intro out
   simp [az9]
 have k1 := hk (au6 l a11 name aR0) (by omega) (fun v hv => by have := hsm v hv; omega)
 have k2 := hk [host] (by simp) (by simpa using hh)
 simp only [hv, hq, Option.bind_some, k1, k2]
 by_cases h42 : name = [42]
 ·simp [h42]
 ·by_cases hs : name = [115, 101, 108, 102]
  ·simp only [h42, hs, decide_false, decide_true, Bool.not_true, Bool.false_eq_true, if_false, if_true, Option.bind_some, show ([115, 101, 108, 102] : Str) = bk7 from rfl]
   have : ¬ (bk7 = [42]) := by decide
   simp only [this, if_false, if_true, List.filter_cons, List.filter_nil, decide_false, Bool.false_eq_true]
   cases aO1 host <;> simp
  ·have hs2 : ¬ (name = bk7) := hs
   simp only [h42, hs, hs2, decide_false, Bool.not_false, Bool.false_eq_true, if_false, if_true, Option.bind_some]
   cases (aA3 l aR0).contains name <;> simp
def b51 (c : UInt8) : Bool := decide (48 ≤ (c.toNat : Int)) && decide ((c.toNat : Int) ≤ 57)
def dig (c : UInt8) : Int := (c.toNat : Int) - 48
def bn3 : Int → Str → Int × Int
 | n, [] => (n, 0)
 | n, c :: r => if b51 c && decide (n ≤ (65535 - dig c) / 10) then bn3 (n * 10 + dig c) r else (0, 5)
def cj7 (s : Str) : Int × Int := if decide (s = []) || (decide (1 < s.length) && (match s with | c :: _ => decide (c = 48) | [] => false)) then (0, 5) else bn3 0 s
theorem bC5 {c : UInt8} (h : b51 c = true) : 0 ≤ dig c ∧ dig c ≤ 9 := by
 unfold b51 at h
 rw [Bool.and_eq_true, decide_eq_true_eq, decide_eq_true_eq] at h
 unfold dig; omega
theorem cj8 {d : Int} (h : 0 ≤ d ∧ d ≤ 9) : ca1 .i64 (IntKind.wrap .i64 (65535 - d)) 10 = some ((65535 - d) / 10) := by
 unfold ca1
 have hw : IntKind.wrap .i64 (65535 - d) = 65535 - d := ag6 (by omega) (by omega)
 have ht : (65535 - d).tdiv 10 = (65535 - d) / 10 := Int.tdiv_eq_ediv_of_nonneg (by omega)
 rw [if_neg (by decide), hw, ht, ag6 (by omega) (by omega)]
theorem bC6 {c : UInt8} (h : b51 c = true) : aH6 (c.toNat : Int) = some (dig c) := by
 have key : ∀ c : UInt8, (!b51 c || decide (aH6 (c.toNat : Int) = some (dig c))) = true := by
  intro c
  unfold aH6 b51 dig
  have h := aX3 (p := fun c : UInt8 => (!(decide (48 ≤ (c.toNat : Int)) && decide ((c.toNat : Int) ≤ 57)) || decide (IntKind.wrap .i64 (IntKind.wrap .u8 ((c.toNat : Int) - 48)) = (c.toNat : Int) - 48))) (by decide +kernel) c
  by_cases hd : (decide (48 ≤ (c.toNat : Int)) && decide ((c.toNat : Int) ≤ 57)) = true
  ·rw [hd] at h
   simp only [Bool.not_true, Bool.false_or, decide_eq_true_eq] at h
   simp [hd, h]
  ·simp [hd]
 have k := key c
 rw [h] at k
 simpa using k
theorem bK5 {c : UInt8} (h : b51 c = false) : ∃ x, aH6 (c.toNat : Int) = some x ∧ 10 ≤ x := by
 unfold aH6
 have h2 : (decide (48 ≤ (c.toNat : Int)) && decide ((c.toNat : Int) ≤ 57)) = false := h
 rw [h2]
 simp only [Bool.false_eq_true, if_false]
 by_cases hd : (decide (97 ≤ (c.toNat : Int)) && decide ((c.toNat : Int) ≤ 102)) = true
 ·rw [hd]
  have h3 := aX3 (p := fun c : UInt8 => (!(decide (97 ≤ (c.toNat : Int)) && decide ((c.toNat : Int) ≤ 102)) || decide (10 ≤ IntKind.wrap .i64 ((IntKind.wrap .i64 (IntKind.wrap .u8 ((c.toNat : Int) - 97))) + 10)))) (by decide +kernel) c
  rw [hd] at h3
  simp only [Bool.not_true, Bool.false_or, decide_eq_true_eq] at h3
  exact ⟨_, rfl, h3⟩
 ·rw [Bool.eq_false_iff.2 hd]
  exact ⟨16, rfl, by omega⟩
theorem bC7 {c : UInt8} (h : b51 c = true) : aB6 (c.toNat : Int) = some (dig c) := by
 unfold aB6
 have h2 : (decide (48 ≤ (c.toNat : Int)) && decide ((c.toNat : Int) ≤ 57)) = true := h
 rw [h2]
 have h3 := aX3 (p := fun c : UInt8 => (!(decide (48 ≤ (c.toNat : Int)) && decide ((c.toNat : Int) ≤ 57)) || decide (IntKind.wrap .i64 (IntKind.wrap .i64 (c.toNat : Int) - 48) = (c.toNat : Int) - 48))) (by decide +kernel) c
 rw [h2] at h3
 simp only [Bool.not_true, Bool.false_or, decide_eq_true_eq] at h3
 simp only [if_true, h3, dig]
theorem bK6 {c : UInt8} (h : b51 c = false) : ∃ x, aB6 (c.toNat : Int) = some x ∧ (x < 0 ∨ 10 ≤ x) := by
 unfold aB6
 have h2 : (decide (48 ≤ (c.toNat : Int)) && decide ((c.toNat : Int) ≤ 57)) = false := h
 rw [h2]
 simp only [Bool.false_eq_true, if_false]
 by_cases hd : (decide (97 ≤ (c.toNat : Int)) && decide ((c.toNat : Int) ≤ 102)) = true
 ·rw [hd]
  have h3 := aX3 (p := fun c : UInt8 => (!(decide (97 ≤ (c.toNat : Int)) && decide ((c.toNat : Int) ≤ 102)) || decide (10 ≤ IntKind.wrap .i64 ((IntKind.wrap .i64 (IntKind.wrap .i64 (c.toNat : Int) - 97)) + 10)))) (by decide +kernel) c
  rw [hd] at h3
  simp only [Bool.not_true, Bool.false_or, decide_eq_true_eq] at h3
  exact ⟨_, rfl, .inr h3⟩
 ·rw [Bool.eq_false_iff.2 hd]
  exact ⟨-1, rfl, .inl (by omega)⟩
theorem b52 {n d : Int} (hn : 0 ≤ n) (hd : 0 ≤ d ∧ d ≤ 9) (h : n ≤ (65535 - d) / 10) : IntKind.wrap .i64 (IntKind.wrap .i64 (n * 10) + d) = n * 10 + d ∧ n * 10 + d ≤ 65535 := by
 have : n * 10 + d ≤ 65535 := by omega
 rw [ag6 (n := n * 10) (by omega) (by omega), ag6 (by omega) (by omega)]
 exact ⟨rfl, this⟩
theorem co4 {s : Str} (hs : s.length ≤ 1000000) : ab0 (fun x => av2 s 10 65535 x.1 x.2) (0, 0) = some (bn3 0 s) := by
 refine (ae4 (τ := Int × Int) s.length (fun (n : Int) i => (n, i)) (fun x => av2 s 10 65535 x.1 x.2) (fun i n => bn3 n (s.drop i)) (fun _ n => 0 ≤ n ∧ n ≤ 65535) (s0 := 0) (by omega) ?_ ?_).trans rfl
 ·intro n i hi hn
  simp only [av2, dlt hi, if_true, al6 hi, Option.bind_some, List.drop_eq_getElem_cons hi, bn3]
  cases hd : b51 s[i] with
  | false =>
   obtain ⟨x, hx, h10⟩ := bK5 hd
   right
   simp [hx, h10]
  | true =>
   have hr := bC5 hd
   have h10 : ¬ (10 ≤ dig s[i]) := by omega
   have hq : ¬ (65535 < dig s[i]) := by omega
   simp only [bC6 hd, Option.bind_some, h10, decide_false, Bool.false_eq_true, if_false, cj8 hr, Bool.true_and, hq]
   by_cases hle : n ≤ (65535 - dig s[i]) / 10
   ·have hlt : ¬ ((65535 - dig s[i]) / 10 < n) := by omega
    obtain ⟨e1, e2⟩ := b52 hn.1 hr hle
    left
    refine ⟨n * 10 + dig s[i], ?_, by simp [hle], by omega⟩
    simp only [hlt, decide_false, Bool.false_eq_true, if_false, Option.bind_some, e1]
    rw [ab1 (by omega)]
   ·have hlt : (65535 - dig s[i]) / 10 < n := by omega
    right
    simp [hlt, hle]
 ·intro n _
  simp [av2, bn3]
theorem co5 {s : Str} (hs : s.length ≤ 1000000) : ab0 (fun x => ao9 s 10 65535 x.1 x.2) (0, 0) = some (bn3 0 s) := by
 refine (ae4 (τ := Int × Int) s.length (fun (n : Int) i => (n, i)) (fun x => ao9 s 10 65535 x.1 x.2) (fun i n => bn3 n (s.drop i)) (fun _ n => 0 ≤ n ∧ n ≤ 65535) (s0 := 0) (by omega) ?_ ?_).trans rfl
 ·intro n i hi hn
  simp only [ao9, dlt hi, if_true, al6 hi, Option.bind_some, List.drop_eq_getElem_cons hi, bn3]
  cases hd : b51 s[i] with
  | false =>
   obtain ⟨x, hx, h10⟩ := bK6 hd
   right
   rcases h10 with h | h
   ·simp [hx, h]
   ·by_cases h0 : x < 0 <;> simp [hx, h, h0]
  | true =>
   have hr := bC5 hd
   have h0 : ¬ (dig s[i] < 0) := by omega
   have h10 : ¬ (10 ≤ dig s[i]) := by omega
   have hq : ¬ (65535 < dig s[i]) := by omega
   simp only [bC7 hd, Option.bind_some, h0, h10, decide_false, Bool.false_eq_true, if_false, cj8 hr, Bool.true_and, hq]
   by_cases hle : n ≤ (65535 - dig s[i]) / 10
   ·have hlt : ¬ ((65535 - dig s[i]) / 10 < n) := by omega
    obtain ⟨e1, e2⟩ := b52 hn.1 hr hle
    left
    refine ⟨n * 10 + dig s[i], ?_, by simp [hle], by omega⟩
    simp only [hlt, decide_false, Bool.false_eq_true, if_false, e1]
    rw [ab1 (by omega)]
   ·have hlt : (65535 - dig s[i]) / 10 < n := by omega
    right
    simp [hlt, hle]
 ·intro n _
  simp [ao9, bn3]
theorem is48 (c : UInt8) : decide ((c.toNat : Int) = 48) = decide (c = 48) := isC c 48
theorem cw8 {s : Str} (hs : s.length ≤ 1000000) : a54 s 10 65535 = some (cj7 s) := by
 unfold a54 cj7
 rw [co4 hs]
 cases s with
 | nil => rfl
 | cons c r =>
  have hat : ai9 (c :: r) 0 = some c := rfl
  have hl : decide ((1 : Int) < (List.length (c :: r) : Int)) = decide (1 < (c :: r).length) := by rw [Bool.eq_iff_iff]; simp only [decide_eq_true_eq]; omega
  have hk : aT9 10 = some true := rfl
  simp only [hk, hat, hl, Option.bind_some, is48, reduceCtorEq, decide_false, Bool.false_or]
  cases decide (1 < (c :: r).length) <;> cases decide (c = 48) <;> simp
theorem b53 {s : Str} (hs : s.length ≤ 1000000) : aQ2 s 10 65535 = some (cj7 s) := by
 unfold aQ2 cj7
 rw [co5 hs]
 cases s with
 | nil => rfl
 | cons c r =>
  have hat : ai9 (c :: r) 0 = some c := rfl
  have hl : decide ((1 : Int) < (List.length (c :: r) : Int)) = decide (1 < (c :: r).length) := by rw [Bool.eq_iff_iff]; simp only [decide_eq_true_eq]; omega
  have hk : aI6 10 = some true := rfl
  simp only [hk, hat, hl, Option.bind_some, is48, reduceCtorEq, decide_false, Bool.false_or]
  cases decide (1 < (c :: r).length) <;> cases decide (c = 48) <;> simp
def bC8 (s : Str) : Bool := decide ((cj7 s).2 = 0) && decide (0 < (cj7 s).1)
theorem bC9 {s : Str} (hs : s.length ≤ 1000000) : aH7 s = some (bC8 s) := by
 unfold aH7 bC8
 rw [cw8 hs]; rfl
theorem br4 {s : Str} (hs : s.length ≤ 1000000) : aN6 s = some (bC8 s) := by
 unfold aN6 bC8
 rw [b53 hs]
 have : decide (1 ≤ (cj7 s).1) = decide (0 < (cj7 s).1) := by rw [Bool.eq_iff_iff]; simp only [decide_eq_true_eq]; omega
 rw [Option.bind_some, this]
def ap3 : List Str → Str
 | [] => []
 | p :: r => if bC8 p then p else ap3 r
def bD0 (l : List aa3) (net svc : Str) : Str := if bC8 svc then svc else ap3 (au6 l an7 svc net)
def aJ2 (l : List aa3) (net svc : Str) : Str := if svc = [] then (match au6 l aO3 net an7 with | [] => [] | x :: _ => bD0 l net x) else bD0 l net svc
theorem bQ6 {l : List aa3} {net svc : Str} (h : okT l) (hs : svc.length ≤ 1000000) : aD6 l net svc = some (bD0 l net svc) := by
 unfold aD6 bD0
 have hq : av1 l [115, 101, 114, 118, 105, 99, 101] svc net = some (au6 l an7 svc net) := bx0 h.1
 have hsm := au7 (name := an7) (value := svc) (want := net) h
 have hl := aV5 (name := an7) (value := svc) (want := net) h.1
 rw [bC9 hs, Option.bind_some, hq, Option.bind_some]
 generalize au6 l an7 svc net = xs at hsm hl
 have hloop : ab0 (fun s => av3 xs s) 0 = some (ap3 xs) := by
  refine (ae4 xs.length (fun (_ : Unit) i => i) (fun s => av3 xs s) (fun i _ => ap3 (xs.drop i)) (fun _ _ => True) (s0 := ()) trivial ?_ ?_).trans rfl
  ·intro _ i hi _
   have := hsm _ (List.getElem_mem hi)
   simp only [av3, dlt hi, if_true, aa7 hi, Option.bind_some, bC9 (s := xs[i]) (by omega), List.drop_eq_getElem_cons hi, ap3]
   by_cases hp : bC8 xs[i] = true
   ·right; rw [if_pos hp, if_pos hp]
   ·left
    refine ⟨(), ?_, by rw [if_neg hp], trivial⟩
    rw [if_neg hp, ab1 (by omega)]
  ·intro _ _
   simp [av3, ap3]
 rw [hloop]
 split <;> rfl
theorem bk8 {l : List aa3} {net svc : Str} (h : okT l) (hs : svc.length ≤ 1000000) : aA0 l net svc = some (bD0 l net svc) := by
 unfold aA0 bD0
 have hq : ar3 l [115, 101, 114, 118, 105, 99, 101] svc net = some (au6 l an7 svc net) := a26 h.1
 have hsm := au7 (name := an7) (value := svc) (want := net) h
 have hl := aV5 (name := an7) (value := svc) (want := net) h.1
 rw [br4 hs, Option.bind_some, hq, Option.bind_some]
 generalize au6 l an7 svc net = xs at hsm hl
 have hloop : ab0 (fun s => as3 xs s) 0 = some (ap3 xs) := by
  refine (ae4 xs.length (fun (_ : Unit) i => i) (fun s => as3 xs s) (fun i _ => ap3 (xs.drop i)) (fun _ _ => True) (s0 := ()) trivial ?_ ?_).trans rfl
  ·intro _ i hi _
   have := hsm _ (List.getElem_mem hi)
   simp only [as3, dlt hi, if_true, aa7 hi, Option.bind_some, br4 (s := xs[i]) (by omega), List.drop_eq_getElem_cons hi, ap3]
   by_cases hp : bC8 xs[i] = true
   ·right; rw [if_pos hp, if_pos hp]
   ·left
    refine ⟨(), ?_, by rw [if_neg hp], trivial⟩
    rw [if_neg hp, ab1 (by omega)]
  ·intro _ _
   simp [as3, ap3]
 rw [hloop]
 split <;> rfl
theorem co6 {l : List aa3} {net svc : Str} (h : okT l) (hs : svc.length ≤ 1000000) : a55 l net svc = some (aJ2 l net svc) := by
 unfold a55 aJ2
 by_cases h0 : svc = []
 ·have hq : av1 l [110, 101, 116] net [115, 101, 114, 118, 105, 99, 101] = some (au6 l aO3 net an7) := bx0 h.1
  have hsm := au7 (name := aO3) (value := net) (want := an7) h
  simp only [h0, decide_true, if_true, hq, Option.bind_some]
  generalize au6 l aO3 net an7 = xs at hsm
  cases xs with
  | nil => rfl
  | cons x r =>
   have hx := hsm x (by simp)
   have hne : ¬ ((List.length (x :: r) : Int) = 0) := by simp only [List.length_cons]; omega
   have hat : aa8 (x :: r) 0 = some x := rfl
   simp only [hne, decide_false, Bool.false_eq_true, if_false, hat, Option.bind_some]
   exact bQ6 h (by omega)
 ·simp only [h0, decide_false, Bool.false_eq_true, if_false]
  exact bQ6 h hs
theorem bK7 {l : List aa3} {net svc : Str} (h : okT l) (hs : svc.length ≤ 1000000) : aY3 l net svc = some (aJ2 l net svc) := by
 unfold aY3 aJ2
 by_cases h0 : svc = []
 ·have hq : ar3 l [110, 101, 116] net [115, 101, 114, 118, 105, 99, 101] = some (au6 l aO3 net an7) := a26 h.1
  have hsm := au7 (name := aO3) (value := net) (want := an7) h
  simp only [h0, decide_true, if_true, hq, Option.bind_some]
  generalize au6 l aO3 net an7 = xs at hsm
  cases xs with
  | nil => rfl
  | cons x r =>
   have hx := hsm x (by simp)
   have hne : ¬ ((List.length (x :: r) : Int) = 0) := by simp only [List.length_cons]; omega
   have hat : aa8 (x :: r) 0 = some x := rfl
   simp only [hne, decide_false, Bool.false_eq_true, if_false, hat, Option.bind_some]
   exact bk8 h (by omega)
 ·simp only [h0, decide_false, Bool.false_eq_true, if_false]
  exact bk8 h hs
def aj2 (l : List aa3) (svc : Str) (hs : List Str) (n : Str) : List aa2 := if aJ2 l n svc = [] then [] else hs.map fun h => ⟨n, h, aJ2 l n svc⟩
def ap4 (l : List aa3) (host : Str) (a : aa2) : List aa2 × Int :=
 if as9 a = false then ([], 36) else if aO4 l a.Net = [] then ([], 37) else if aF0 l host a.Host = [] then ([], 38) else
 if (aO4 l a.Net).flatMap (aj2 l a.Service (aF0 l host a.Host)) = [] then ([], 39) else ((aO4 l a.Net).flatMap (aj2 l a.Service (aF0 l host a.Host)), 0)
theorem be7 {l : List aa3} {svc : Str} {hs : List Str} {K : Nat} (hk : hs.length ≤ K) : ∀ ns : List Str, (ns.flatMap (aj2 l svc hs)).length ≤ ns.length * K
 | [] => by simp
 | n :: r => by
  rw [List.flatMap_cons, List.length_append, List.length_cons, Nat.add_mul, Nat.one_mul]
  have := be7 (l := l) (svc := svc) hk r
  have : (aj2 l svc hs n).length ≤ K := by unfold aj2; split <;> simp; omega
  omega
theorem bk9 {l : List aa3} {name : Str} (h : okD l) : (aO4 l name).length ≤ 1000 := by
 have h1 := aO2 l aO3
 have h2 := h.1
 have := List.length_filter_le (fun n => bJ6 n && (!decide (n = aO3) && (decide (name = aO3) || decide (name = n)))) (aA3 l aO3)
 unfold aO4; omega
theorem ba1 {l : List aa3} {host name : Str} (h : okD l) : (aF0 l host name).length ≤ 1000 := by
 have h1 := aV5 (name := a11) (value := name) (want := aR0) h
 have := List.length_filter_le aO1 (au6 l a11 name aR0)
 unfold aF0
 split
 ·simp
 ·split
  ·split <;> simp
  ·split
   ·simp
   ·omega
theorem bc2 {l : List aa3} {host : Str} {a : aa2} (h : okT l) (ha : a.Service.length ≤ 1000000) : as1 l host a = some (ap4 l host a) := by
 unfold as1 ap4
 have hn := bk9 (name := a.Net) h.1
 have hh := ba1 (host := host) (name := a.Host) h.1
 simp only [be6, bK2 h.1, cf3 h.1, Option.bind_some]
 generalize aO4 l a.Net = ns at hn
 generalize aF0 l host a.Host = hs at hh
 cases as9 a with
 | false => rfl
 | true =>
  simp only [Bool.not_true, Bool.false_eq_true, if_false, Bool.true_eq_false]
  by_cases h1 : ns = []
  ·simp [h1]
  ·have h1' : ¬ ((List.length ns : Int) = 0) := by have := List.length_pos_iff.2 h1; omega
   simp only [h1, h1', decide_false, Bool.false_eq_true, if_false]
   by_cases h2 : hs = []
   ·simp [h2]
   ·have h2' : ¬ ((List.length hs : Int) = 0) := by have := List.length_pos_iff.2 h2; omega
    simp only [h2, h2', decide_false, Bool.false_eq_true, if_false]
    refine (ae4 (τ := Int × List aa2) ns.length (fun (x : List aa2) i => (i, x)) (fun x => al9 l a ns hs x.1 x.2) (fun _ _ => if ns.flatMap (aj2 l a.Service hs) = [] then ([], 39) else (ns.flatMap (aj2 l a.Service hs), 0)) (fun i x => x = (ns.take i).flatMap (aj2 l a.Service hs)) (s0 := []) (by simp) ?_ ?_).trans rfl
    ·rintro out i hi rfl
     left
     have hw : IntKind.wrap .i64 ((i : Int) + 1) = (i : Int) + 1 := ab1 (by omega)
     have hlen := be7 (l := l) (svc := a.Service) hh (ns.take i)
     have hlen2 : ((ns.take i).flatMap (aj2 l a.Service hs)).length ≤ 1000 * 1000 := Nat.le_trans hlen (Nat.mul_le_mul (by simp; omega) (Nat.le_refl _))
     refine ⟨(ns.take (i + 1)).flatMap (aj2 l a.Service hs), ?_, rfl, rfl⟩
     simp only [al9, dlt hi, if_true, aa7 hi, Option.bind_some, co6 h ha]
     rw [List.take_succ_eq_append_getElem hi, List.flatMap_append]
     generalize (ns.take i).flatMap (aj2 l a.Service hs) = out at hlen2
     simp only [List.flatMap_cons, List.flatMap_nil, List.append_nil, aj2]
     by_cases hp : aJ2 l ns[i] a.Service = []
     ·simp [hp, hw]
     ·simp only [hp, decide_false, Bool.false_eq_true, if_false]
      refine (ae4 (τ := Int × List aa2) hs.length (fun (x : List aa2) k => (k, x)) (fun x => al8 hs (i : Int) ns[i] (aJ2 l ns[i] a.Service) x.1 x.2) (fun _ _ => Step.cont ((i : Int) + 1, out ++ hs.map fun h => ⟨ns[i], h, aJ2 l ns[i] a.Service⟩)) (fun k x => x = out ++ (hs.take k).map fun h => ⟨ns[i], h, aJ2 l ns[i] a.Service⟩) (s0 := out) (by simp) ?_ ?_).trans rfl
      ·rintro x k hk rfl
       left
       have hap : ∀ y, ar6 48 (out ++ (hs.take k).map fun h => (⟨ns[i], h, aJ2 l ns[i] a.Service⟩ : aa2)) [y] = some ((out ++ (hs.take k).map fun h => ⟨ns[i], h, aJ2 l ns[i] a.Service⟩) ++ [y]) := fun y => ac2 (by simp; omega) (by simp; omega)
       refine ⟨out ++ (hs.take (k + 1)).map fun h => ⟨ns[i], h, aJ2 l ns[i] a.Service⟩, ?_, rfl, rfl⟩
       simp only [al8, dlt hk, if_true, aa7 hk, Option.bind_some, hap]
       rw [ab1 (by omega), List.take_succ_eq_append_getElem hk, List.map_append, List.append_assoc]
       rfl
      ·rintro x rfl
       simp only [al8, dge, Bool.false_eq_true, if_false, List.take_length, hw]
    ·rintro out rfl
     simp only [al9, dge, Bool.false_eq_true, if_false, az2, List.take_length]
     by_cases hf : ns.flatMap (aj2 l a.Service hs) = []
     ·simp [hf]
     ·have : ¬ ((List.length (ns.flatMap (aj2 l a.Service hs)) : Int) = 0) := by have := List.length_pos_iff.2 hf; omega
      simp only [hf, this, decide_false, Bool.false_eq_true, if_false, Option.map_some]
theorem bc3 {l : List aa3} {host : Str} {a : aa2} {ns : List Str} (h : okT l) (ha : a.Service.length ≤ 1000000) (hho : host.length ≤ 1000000) (hn : ns.length ≤ 1000) : am5 l host a ns = some (if ns = [] then ([], 37) else if aF0 l host a.Host = [] then ([], 38) else
  if ns.flatMap (aj2 l a.Service (aF0 l host a.Host)) = [] then ([], 39) else (ns.flatMap (aj2 l a.Service (aF0 l host a.Host)), 0)) := by
 unfold am5
 have hh := ba1 (host := host) (name := a.Host) h.1
 simp only [bK4 h hho, Option.bind_some]
 generalize aF0 l host a.Host = hs at hh
 by_cases h1 : ns = []
 ·simp [h1]
 ·have h1' : ¬ ((List.length ns : Int) = 0) := by have := List.length_pos_iff.2 h1; omega
  simp only [h1, h1', decide_false, Bool.false_eq_true, if_false]
  by_cases h2 : hs = []
  ·simp [h2]
  ·have h2' : ¬ ((List.length hs : Int) = 0) := by have := List.length_pos_iff.2 h2; omega
   simp only [h2, h2', decide_false, Bool.false_eq_true, if_false]
   refine (ae4 (τ := Int × List aa2) ns.length (fun (x : List aa2) i => (i, x)) (fun x => al1 l a ns hs x.1 x.2) (fun _ _ => if ns.flatMap (aj2 l a.Service hs) = [] then ([], 39) else (ns.flatMap (aj2 l a.Service hs), 0)) (fun i x => x = (ns.take i).flatMap (aj2 l a.Service hs)) (s0 := []) (by simp) ?_ ?_).trans rfl
   ·rintro out i hi rfl
    left
    have hw : IntKind.wrap .i64 ((i : Int) + 1) = (i : Int) + 1 := ab1 (by omega)
    have hlen := be7 (l := l) (svc := a.Service) hh (ns.take i)
    have hlen2 : ((ns.take i).flatMap (aj2 l a.Service hs)).length ≤ 1000 * 1000 := Nat.le_trans hlen (Nat.mul_le_mul (by simp; omega) (Nat.le_refl _))
    refine ⟨(ns.take (i + 1)).flatMap (aj2 l a.Service hs), ?_, rfl, rfl⟩
    simp only [al1, dlt hi, if_true, aa7 hi, Option.bind_some, bK7 h ha]
    rw [List.take_succ_eq_append_getElem hi, List.flatMap_append]
    generalize (ns.take i).flatMap (aj2 l a.Service hs) = out at hlen2
    simp only [List.flatMap_cons, List.flatMap_nil, List.append_nil, aj2]
    by_cases hp : aJ2 l ns[i] a.Service = []
    ·simp only [hp, if_true, List.append_nil]
     refine aM3 ?_
     simp only [ai6, decide_true, Bool.not_true, Bool.and_false, Bool.false_eq_true, if_false, hw]
    ·simp only [hp, if_false]
     refine (ae4 (τ := Int × List aa2) hs.length (fun (x : List aa2) k => (k, x)) (fun x => ai6 ns hs (i : Int) (aJ2 l ns[i] a.Service) x.1 x.2) (fun _ _ => Step.cont ((i : Int) + 1, out ++ hs.map fun h => ⟨ns[i], h, aJ2 l ns[i] a.Service⟩)) (fun k x => x = out ++ (hs.take k).map fun h => ⟨ns[i], h, aJ2 l ns[i] a.Service⟩) (s0 := out) (by simp) ?_ ?_).trans rfl
     ·rintro x k hk rfl
      left
      have hap : ∀ y, ar6 48 (out ++ (hs.take k).map fun h => (⟨ns[i], h, aJ2 l ns[i] a.Service⟩ : aa2)) [y] = some ((out ++ (hs.take k).map fun h => ⟨ns[i], h, aJ2 l ns[i] a.Service⟩) ++ [y]) := fun y => ac2 (by simp; omega) (by simp; omega)
      refine ⟨out ++ (hs.take (k + 1)).map fun h => ⟨ns[i], h, aJ2 l ns[i] a.Service⟩, ?_, rfl, rfl⟩
      simp only [ai6, dlt hk, hp, decide_false, Bool.not_false, Bool.and_true, if_true, aa7 hi, aa7 hk, Option.bind_some, hap]
      rw [ab1 (by omega), List.take_succ_eq_append_getElem hk, List.map_append, List.append_assoc]
      rfl
     ·rintro x rfl
      simp only [ai6, dge, Bool.false_and, Bool.false_eq_true, if_false, List.take_length, hw]
   ·rintro out rfl
    simp only [al1, dge, Bool.false_eq_true, if_false, ay0, List.take_length]
    by_cases hf : ns.flatMap (aj2 l a.Service hs) = []
    ·simp [hf]
    ·have : ¬ ((List.length (ns.flatMap (aj2 l a.Service hs)) : Int) = 0) := by have := List.length_pos_iff.2 hf; omega
     simp only [hf, this, decide_false, Bool.false_eq_true, if_false, Option.map_some]
theorem aV6 {l : List aa3} {host : Str} {a : aa2} (h : okT l) (h1 : a.Net.length ≤ 1000000) (h2 : a.Host.length ≤ 1000000) (ha : a.Service.length ≤ 1000000) (hho : host.length ≤ 1000000) : au4 l host a = some (ap4 l host a) := by
 unfold au4 ap4
 rw [aQ9 h1 h2 ha, Option.bind_some]
 have hn := bk9 (name := aO3) h.1
 have hN : aN5 l = some (aO4 l aO3) := by rw [bW0 h, bQ5]
 cases as9 a with
 | false => rfl
 | true =>
  simp only [Bool.not_true, Bool.false_eq_true, if_false, Bool.true_eq_false, hN, Option.bind_some]
  by_cases hnet : a.Net = aO3
  ·have hnet' : a.Net = [110, 101, 116] := hnet
   simp only [hnet', decide_true, Bool.not_true, Bool.false_eq_true, if_false, bc3 (host := host) (a := a) h ha hho hn]
   rfl
  ·have hnet' : ¬ (a.Net = [110, 101, 116]) := hnet
   simp only [hnet', decide_false, Bool.not_false, if_true, b49 (l := aO4 l aO3) (v := a.Net) (by omega), Option.bind_some, bc3 (host := host) (a := a) (ns := [a.Net]) h ha hho (by simp)]
   rw [cf2 hnet]
   cases (aO4 l aO3).contains a.Net <;> simp
def bD1 : Str → List aa3 → Str × Int
 | acc, [] => (acc, 0)
 | acc, x :: r => if decide (x.Attrs = []) || x.Attrs.any (·.Query) then ([], 2) else if ce2 x.Attrs ≠ 0 then ([], ce2 x.Attrs) else bD1 (acc ++ (aV1 x.Attrs ++ [10])) r
def bK8 (l : List aa3) : Str × Int := if 256 < l.length then ([], 22) else bD1 [] l
def okX (l : List aa3) : Prop := l.length ≤ 300 ∧ ∀ x ∈ l, okL x.Attrs
theorem b54 {l : List aa4} (h : okL l) : (aV1 l).length ≤ 75020000 := by
 have := bB9 h l.length
 rw [List.take_length] at this
 exact this
theorem co7 {l : List aa3} (h : okX l) : aU4 l = some (bK8 l) := by
 unfold aU4 bK8
 by_cases h0 : 256 < l.length
 ·have : (256 : Int) < (List.length l : Int) := by omega
  simp [h0, this]
 ·have : ¬ ((256 : Int) < (List.length l : Int)) := by omega
  simp only [h0, this, decide_false, Bool.false_eq_true, if_false]
  refine (ae4 (τ := Int × Str) l.length (fun (x : Str) i => (i, x)) (fun x => az6 l x.1 x.2) (fun i x => bD1 x (l.drop i)) (fun i x => x.length ≤ i * 75020001) (s0 := []) (by simp) ?_ ?_).trans rfl
  ·intro acc i hi hl
   have hok := h.2 _ (List.getElem_mem hi)
   have h1 := hok.1
   have hp := b54 hok
   have hb : i * 75020001 ≤ 256 * 75020001 := Nat.mul_le_mul (by omega) (Nat.le_refl _)
   have c1 : aA4 (aV1 l[i].Attrs) [10] = some (aV1 l[i].Attrs ++ [10]) := ag9 (by simp; omega)
   have c2 : bAdd acc (aV1 l[i].Attrs ++ [10]) = some (acc ++ (aV1 l[i].Attrs ++ [10])) := bV5 (by simp; omega)
   have hw : IntKind.wrap .i64 ((i : Int) + 1) = (i : Int) + 1 := ab1 (by omega)
   have hz : decide ((List.length l[i].Attrs : Int) = 0) = decide (l[i].Attrs = []) := by
    rw [Bool.eq_iff_iff]; simp only [decide_eq_true_eq]
    rw [← List.length_eq_zero_iff]; omega
   simp only [az6, dlt hi, if_true, aa7 hi, Option.bind_some, co3 (l := l[i].Attrs) (by omega), ce7 hok, hz, hw, List.drop_eq_getElem_cons hi, bD1]
   cases hd : decide (l[i].Attrs = []) with
   | true => right; simp
   | false =>
    cases hq : l[i].Attrs.any (·.Query) with
    | true => right; simp
    | false =>
     by_cases hc : ce2 l[i].Attrs = 0
     ·left
      refine ⟨acc ++ (aV1 l[i].Attrs ++ [10]), ?_, ?_, ?_⟩
      ·simp [hc, c1, c2]
      ·simp [hc]
      ·simp only [List.length_append, List.length_cons, List.length_nil]; omega
     ·right; simp [hc]
  ·intro acc _
   simp [az6, bD1]
def good (x : aa3) : Prop := x.Attrs ≠ [] ∧ ce2 x.Attrs = 0 ∧ x.Attrs.any (·.Query) = false
theorem b55 {d : Nat} (h : d < 10) : cut ([48, 49, 50, 51, 52, 53, 54, 55, 56, 57, 97, 98, 99, 100, 101, 102] : Str) (d : Int) ((d : Int) + 1) = some [UInt8.ofNat (48 + d)] := by
 rcases (by omega : d = 0 ∨ d = 1 ∨ d = 2 ∨ d = 3 ∨ d = 4 ∨ d = 5 ∨ d = 6 ∨ d = 7 ∨ d = 8 ∨ d = 9) with rfl | rfl | rfl | rfl | rfl | rfl | rfl | rfl | rfl | rfl <;> rfl
theorem cf4 (u : Nat) (h : ¬ u < 10) : Go.Lib.decDigits u = Go.Lib.decDigits (u / 10) ++ [UInt8.ofNat (48 + u % 10)] := by
 rw [Go.Lib.decDigits, dif_neg h]
def cu8 (u : Nat) (s : Str) : Str := if u = 0 ∧ s ≠ [] then s else Go.Lib.decDigits u ++ s
theorem b56 (u : Nat) (s : Str) (h : ¬ (u = 0 ∧ s ≠ [])) : cu8 u s = cu8 (u / 10) (UInt8.ofNat (48 + u % 10) :: s) := by
 unfold cu8
 rw [if_neg h]
 by_cases h10 : u < 10
 ·have : u / 10 = 0 := by omega
  rw [this, if_pos ⟨rfl, by simp⟩, Go.Lib.decDigits_one h10, Nat.mod_eq_of_lt h10]; rfl
 ·rw [if_neg (by omega), cf4 u h10, List.append_assoc]; rfl
theorem ba2 {u : Nat} {s : Str} (h : ¬ (u = 0 ∧ s ≠ [])) (hu : u ≤ 9223372036854775808) (hs : s.length ≤ 100) : ap0 10 (-(u : Int)) s = some (.cont (-((u / 10 : Nat) : Int), UInt8.ofNat (48 + u % 10) :: s)) := by
 unfold ap0
 have hc : (decide (-(u : Int) < 0) || decide (s = [])) = true := by
  rcases Nat.eq_zero_or_pos u with h0 | h0
  ·have : s = [] := Classical.byContradiction fun e => h ⟨h0, e⟩
   simp [this]
  ·have hn : -(u : Int) < 0 := by omega
   rw [decide_eq_true hn]; rfl
 have e1 : Int.tmod (-(u : Int)) 10 = -((u % 10 : Nat) : Int) := by rw [Int.neg_tmod]; rfl
 have e2 : Int.tdiv (-(u : Int)) 10 = -((u / 10 : Nat) : Int) := by rw [Int.neg_tdiv]; rfl
 have e3 : IntKind.wrap .i64 (0 - -((u % 10 : Nat) : Int)) = ((u % 10 : Nat) : Int) := by rw [ag6 (by omega) (by omega)]; omega
 have e4 : IntKind.wrap .i64 (((u % 10 : Nat) : Int) + 1) = ((u % 10 : Nat) : Int) + 1 := ag6 (by omega) (by omega)
 have e5 : IntKind.wrap .i64 (-((u / 10 : Nat) : Int)) = -((u / 10 : Nat) : Int) := ag6 (by omega) (by omega)
 rw [if_pos hc]
 unfold remI ca1
 rw [if_neg (by decide), if_neg (by decide), Option.bind_some, e1, e3, e4, b55 (by omega), Option.bind_some]
 rw [ag9 (by simp; omega), Option.bind_some, Option.bind_some, e2, e5]
 rfl
theorem b57 {u n : Nat} (h1 : u * 10 ^ n ≤ 9223372036854775808) (h2 : 0 < u) : n ≤ 18 := by
 rcases Nat.lt_or_ge 18 n with h | h
 ·have h3 : 10 ^ 19 ≤ 10 ^ n := Nat.pow_le_pow_right (by omega) h
  have h4 : 1 * 10 ^ n ≤ u * 10 ^ n := Nat.mul_le_mul_right _ h2
  omega
 ·exact h
theorem aV7 {u : Nat} (hu : u ≤ 9223372036854775808) : aD9 (-(u : Int)) 10 = some (Go.Lib.decDigits u) := by
 unfold aD9
 refine (bq1 (σ := Nat × Str) (fun s => ap0 10 s.1 s.2) (fun s => (-(s.1 : Int), s.2)) (fun s => cu8 s.1 s.2) (fun s => s.1 + (if s.2 = [] then 1 else 0)) (fun s => s.1 * 10 ^ s.2.length ≤ 9223372036854775808 ∧ s.2.length ≤ 20) (fun s hs => ?_) (s0 := (u, [])) ⟨by simpa using hu, by simp⟩).trans ?_
 ·obtain ⟨v, s⟩ := s
  obtain ⟨h1, h2⟩ := hs
  simp only at h1 h2 ⊢
  have hv : v ≤ 9223372036854775808 := by
   have : v * 1 ≤ v * 10 ^ s.length := Nat.mul_le_mul_left _ (Nat.one_le_pow _ _ (by omega))
   omega
  by_cases h : v = 0 ∧ s ≠ []
  ·right
   unfold ap0 cu8
   rw [if_pos h, h.1]
   have hs' : decide (s = []) = false := by simpa using h.2
   simp [hs', h.2]
  ·left
   refine ⟨(v / 10, UInt8.ofNat (48 + v % 10) :: s), ba2 h hv (by omega), b56 v s h, ⟨?_, ?_⟩, ?_⟩
   ·simp only [List.length_cons, Nat.pow_succ]
    have e : v / 10 * (10 ^ s.length * 10) = v / 10 * 10 * 10 ^ s.length := by rw [Nat.mul_comm (10 ^ s.length) 10, Nat.mul_assoc]
    rw [e]
    exact Nat.le_trans (Nat.mul_le_mul_right _ (Nat.div_mul_le_self v 10)) h1
   ·simp only [List.length_cons]
    by_cases hs' : s = []
    ·subst hs'; simp
    ·have : 0 < v := Nat.pos_of_ne_zero fun e => h ⟨e, hs'⟩
     have := b57 h1 this
     omega
   ·simp only [reduceCtorEq, if_false]
    by_cases hs' : s = []
    ·rw [if_pos hs']; omega
    ·rw [if_neg hs']
     have : 0 < v := Nat.pos_of_ne_zero fun e => h ⟨e, hs'⟩
     omega
 ·unfold cu8; simp
theorem a63 {n : Int} (h0 : -9223372036854775808 ≤ n) (h1 : n ≤ 9223372036854775807) : aB7 n 10 = some (Go.Lib.itoa n) := by
 unfold aB7 aI6 Go.Lib.itoa
 by_cases hn : n < 0
 ·have e : n = -((n.natAbs : Nat) : Int) := by omega
  have hd := aV7 (u := n.natAbs) (by omega)
  rw [← e] at hd
  have hl := Go.Lib.itoa_length_le n h0 h1
  unfold Go.Lib.itoa at hl
  rw [if_pos hn] at hl
  simp only [List.length_cons] at hl
  simp [hn, hd, ag9 (a := [45]) (b := Go.Lib.decDigits n.natAbs) (by simp; omega)]
 ·have hw : IntKind.wrap .i64 (0 - n) = -((n.toNat : Nat) : Int) := by rw [ag6 (by omega) (by omega)]; omega
  have hd := aV7 (u := n.toNat) (by omega)
  rw [hw, hd]
  simp [hn]
theorem a28 {n : Int} (h0 : -9223372036854775808 ≤ n) (h1 : n ≤ 9223372036854775807) : aX6 n 10 = some (Go.Lib.itoa n) := by
 unfold aX6 aT9 aB0 aX2
 rw [if_pos ⟨rfl, h0, h1⟩]; rfl
theorem bQ7 {n : Int} (h0 : -9223372036854775808 ≤ n) (h1 : n ≤ 9223372036854775807) : (Go.Lib.itoa n).length ≤ 21 := Go.Lib.itoa_length_le n h0 h1
def ca2 (c : UInt8) : Bool := (decide ((c.toNat : Int) = 32)) || ((decide ((c.toNat : Int) = 9)) || ((decide ((c.toNat : Int) = 10)) || (decide ((c.toNat : Int) = 13))))
def by4 : Str → Str → List Str
 | [], [] => []
 | a :: l, [] => [a :: l]
 | [], c :: r => if ca2 c = true then by4 [] r else by4 [c] r
 | a :: l, c :: r => if ca2 c = true then (a :: l) :: by4 [] r else by4 (a :: l ++ [c]) r
def aC0 (s : Str) : List Str := by4 [] s
theorem be8 {cur r : Str} {c : UInt8} (h : ca2 c = true) : by4 cur (c :: r) = (if cur = [] then [] else [cur]) ++ by4 [] r := by
 cases cur with
 | nil => simp [by4, h]
 | cons a l => simp [by4, h]
theorem bK9 {cur r : Str} {c : UInt8} (h : ca2 c = false) : by4 cur (c :: r) = by4 (cur ++ [c]) r := by
 cases cur with
 | nil => simp [by4, h]
 | cons a l => simp [by4, h]
theorem be9 (cur : Str) : by4 cur [] = if cur = [] then [] else [cur] := by
 cases cur <;> simp [by4]
theorem bl0 {s : Str} {k i : Nat} (hk : k ≤ i) (hi : i < s.length) : (s.take (i + 1)).drop k = (s.take i).drop k ++ [s[i]] := by
 rw [List.take_succ_eq_append_getElem hi, List.drop_append_of_le_length (by simp; omega)]
def cw9 (s : Str) (f : Int) (i : Nat) : Str := if f < 0 then [] else (s.take i).drop f.toNat
theorem aR1 {s : Str} (h : s.length ≤ 100000) : aG3 s = some (aC0 s) := by
 unfold aG3
 have hm : s.length ≤ maxLen := by unfold maxLen; omega
 refine (ae4 (σ := Int × List Str) (τ := Int × Int × List Str) s.length (fun a i => (a.1, i, a.2)) (fun a => aj0 s a.1 a.2.1 a.2.2) (fun i a => a.2 ++ by4 (cw9 s a.1 i) (s.drop i))
  (fun i a => (a.1 = -1 ∨ (0 ≤ a.1 ∧ a.1 < (i : Int))) ∧ a.2.length ≤ i) (s0 := (-1, [])) ⟨.inl rfl, by simp⟩ ?_ ?_).trans ?_
 ·rintro ⟨f, out⟩ i hi ⟨hf, ho⟩
  simp only at hf ho
  left
  have hlt : (i : Int) < (List.length s : Int) := by omega
  have hk29 : ∀ b : Bool, am9 s f (i : Int) out b = some (.cont (if b = true then (-1, ((i : Int) + 1), if f < 0 then out else out ++ [(s.take i).drop f.toNat]) else (if f < 0 then (i : Int) else f, ((i : Int) + 1), out))) := by
   intro b
   unfold am9
   rw [b28 hi hm]
   cases b with
   | true =>
    by_cases h0 : 0 ≤ f
    ·have hn : ¬ f < 0 := by omega
     have hc : cut s f (i : Int) = some ((s.take i).drop f.toNat) := by
      have := a19 (l := s) (a := f.toNat) (b := i) (by omega) (by omega)
      rw [show ((f.toNat : Nat) : Int) = f by omega] at this
      exact this
     simp only [if_true, decide_eq_true h0, hc, Option.bind_some, if_neg hn]
     rw [ac2 (by simp; omega) (by simp; omega), Option.bind_some]
    ·have hn : f < 0 := by omega
     simp [h0, hn]
   | false =>
    by_cases h0 : f < 0
    ·simp [h0]
    ·simp [h0]
  have hstep : aj0 s f (i : Int) out = some (.cont (if ca2 s[i] = true then (-1, ((i : Int) + 1), if f < 0 then out else out ++ [(s.take i).drop f.toNat]) else (if f < 0 then (i : Int) else f, ((i : Int) + 1), out))) := by
   unfold aj0
   simp only [decide_eq_true hlt, if_true, al6 hi, Option.bind_some, hk29]
   unfold ca2
   cases decide ((s[i].toNat : Int) = 32) <;> cases decide ((s[i].toNat : Int) = 9) <;> cases decide ((s[i].toNat : Int) = 10) <;> cases decide ((s[i].toNat : Int) = 13) <;> rfl
  have hd : s.drop i = s[i] :: s.drop (i + 1) := List.drop_eq_getElem_cons hi
  cases hs : ca2 s[i] with
  | true =>
   refine ⟨(-1, if f < 0 then out else out ++ [(s.take i).drop f.toNat]), ?_, ?_, .inl rfl, ?_⟩
   ·show aj0 s f (i : Int) out = _
    rw [hstep, hs]; simp
   ·simp only
    rw [hd, be8 hs]
    unfold cw9
    rcases hf with hf | ⟨h1, h2⟩
    ·simp [hf]
    ·have hn : ¬ f < 0 := by omega
     have hne : (s.take i).drop f.toNat ≠ [] := by
      intro e
      have := congrArg List.length e
      simp at this; omega
     simp [hn, hne]
   ·simp only
    split
    ·omega
    ·simp; omega
  | false =>
   refine ⟨(if f < 0 then (i : Int) else f, out), ?_, ?_, .inr ?_, by simp only; omega⟩
   ·show aj0 s f (i : Int) out = _
    rw [hstep, hs]; simp
   ·simp only
    rw [hd, bK9 hs]
    unfold cw9
    rcases hf with hf | ⟨h1, h2⟩
    ·have hni : ¬ ((i : Int) < 0) := by omega
     have e := bl0 (s := s) (k := i) (i := i) (Nat.le_refl _) hi
     have e0 : (s.take i).drop i = [] := List.drop_of_length_le (by simp; omega)
     rw [e0] at e
     simp [hf, hni, e]
    ·have hn : ¬ f < 0 := by omega
     simp only [hn, if_false]
     rw [bl0 (by omega) hi]
   ·simp only
    split <;> omega
 ·rintro ⟨f, out⟩ ⟨hf, ho⟩
  simp only at hf ho
  show aj0 s f (s.length : Int) out = _
  unfold aj0 aL2
  have hn : ¬ ((s.length : Int) < (List.length s : Int)) := by omega
  simp only [decide_eq_false hn, Bool.false_eq_true, if_false, List.drop_length, be9]
  unfold cw9
  rcases hf with hf | ⟨h1, h2⟩
  ·simp [hf]
  ·have hn : ¬ f < 0 := by omega
   have hc : cut s f (List.length s : Int) = some ((s.take s.length).drop f.toNat) := by
    have := a19 (l := s) (a := f.toNat) (b := s.length) (by omega) (by omega)
    rw [show ((f.toNat : Nat) : Int) = f by omega] at this
    exact this
   have hne : (s.take s.length).drop f.toNat ≠ [] := by
    intro e
    have := congrArg List.length e
    simp at this; omega
   simp only [decide_eq_true h1, if_true, hc, Option.bind_some, if_neg hn, if_neg hne]
   rw [ac2 (by simp; omega) (by simp; omega)]; rfl
 ·simp [aC0, cw9]
theorem aV8 {s : Str} (h : s.length ≤ 100000) : ay3 s = some (aC0 s) := by
 unfold ay3
 have hm : s.length ≤ maxLen := by unfold maxLen; omega
 refine (ae4 (σ := Nat × List Str) (τ := Int × Int × List Str) (s.length + 1) (fun a i => ((a.1 : Int), i, a.2)) (fun a => ac4 s a.1 a.2.1 a.2.2) (fun i a => if i = s.length + 1 then a.2 else a.2 ++ by4 ((s.take i).drop a.1) (s.drop i))
  (fun i a => a.1 ≤ i ∧ a.2.length ≤ i) (s0 := (0, [])) ⟨by simp, by simp⟩ ?_ ?_).trans ?_
 ·rintro ⟨f, out⟩ i hi ⟨hf, ho⟩
  simp only at hf ho
  left
  have hle : (i : Int) ≤ (List.length s : Int) := by omega
  have hw : IntKind.wrap .i64 ((i : Int) + 1) = ((i + 1 : Nat) : Int) := by rw [ag6 (by omega) (by omega)]; omega
  have hcut : cut s (f : Int) (i : Int) = some ((s.take i).drop f) := a19 hf (by omega)
  have happ : ar6 16 out [(s.take i).drop f] = some (out ++ [(s.take i).drop f]) := ac2 (by simp; omega) (by simp; omega)
  have hlen : ((s.take i).drop f).length = i - f := by simp; omega
  by_cases hlt : i < s.length
  ·have hlt' : (i : Int) < (List.length s : Int) := by omega
   have hd : s.drop i = s[i] :: s.drop (i + 1) := List.drop_eq_getElem_cons hlt
   have hsep : aI3 (s[i].toNat : Int) = some (ca2 s[i]) := rfl
   cases hs : ca2 s[i] with
   | false =>
    refine ⟨(f, out), ?_, ?_, by simp only; omega, by simp only; omega⟩
    ·show ac4 s (f : Int) (i : Int) out = _
     unfold ac4
     simp only [decide_eq_true hle, decide_eq_true hlt', if_true, al6 hlt, Option.bind_some, hsep, hs, Bool.not_false, hw]
     rfl
    ·simp only
     rw [if_neg (by omega), if_neg (by omega), hd, bK9 hs, bl0 hf hlt]
   | true =>
    by_cases hfi : f < i
    ·have hfi' : (f : Int) < (i : Int) := by omega
     refine ⟨(i + 1, out ++ [(s.take i).drop f]), ?_, ?_, by simp only; omega, by simp; omega⟩
     ·show ac4 s (f : Int) (i : Int) out = _
      unfold ac4
      simp only [decide_eq_true hle, decide_eq_true hlt', if_true, al6 hlt, Option.bind_some, hsep, hs, Bool.not_true, Bool.false_eq_true, if_false, decide_eq_true hfi', hcut, happ, hw]
      rfl
     ·simp only
      have hne : (s.take i).drop f ≠ [] := by
       intro e; rw [e] at hlen; simp at hlen; omega
      have e0 : (s.take (i + 1)).drop (i + 1) = [] := List.drop_of_length_le (by simp; omega)
      rw [if_neg (by omega), if_neg (by omega), hd, be8 hs, if_neg hne, e0, List.append_assoc]
    ·have hfi' : ¬ (f : Int) < (i : Int) := by omega
     refine ⟨(i + 1, out), ?_, ?_, by simp only; omega, by simp only; omega⟩
     ·show ac4 s (f : Int) (i : Int) out = _
      unfold ac4
      simp only [decide_eq_true hle, decide_eq_true hlt', if_true, al6 hlt, Option.bind_some, hsep, hs, Bool.not_true, Bool.false_eq_true, if_false, decide_eq_false hfi', hw]
      rfl
     ·simp only
      have he : (s.take i).drop f = [] := List.length_eq_zero_iff.1 (by omega)
      have e0 : (s.take (i + 1)).drop (i + 1) = [] := List.drop_of_length_le (by simp; omega)
      rw [if_neg (by omega), if_neg (by omega), hd, be8 hs, he, e0]
      simp
  ·have hi2 : i = s.length := by omega
   have hlt' : ¬ (i : Int) < (List.length s : Int) := by omega
   by_cases hfi : f < i
   ·have hfi' : (f : Int) < (i : Int) := by omega
    refine ⟨(i + 1, out ++ [(s.take i).drop f]), ?_, ?_, by simp only; omega, by simp; omega⟩
    ·show ac4 s (f : Int) (i : Int) out = _
     unfold ac4
     simp only [decide_eq_true hle, decide_eq_false hlt', if_true, Option.bind_some, Bool.false_eq_true, if_false, decide_eq_true hfi', hcut, happ, hw]
     rfl
    ·simp only
     have hne : (s.take i).drop f ≠ [] := by
      intro e; rw [e] at hlen; simp at hlen; omega
     have ed : s.drop i = [] := List.drop_of_length_le (by omega)
     rw [if_neg (by omega), if_pos (by omega), ed, be9, if_neg hne]
   ·have hfi' : ¬ (f : Int) < (i : Int) := by omega
    refine ⟨(i + 1, out), ?_, ?_, by simp only; omega, by simp only; omega⟩
    ·show ac4 s (f : Int) (i : Int) out = _
     unfold ac4
     simp only [decide_eq_true hle, decide_eq_false hlt', if_true, Option.bind_some, Bool.false_eq_true, if_false, decide_eq_false hfi', hw]
     rfl
    ·simp only
     have he : (s.take i).drop f = [] := List.length_eq_zero_iff.1 (by omega)
     have ed : s.drop i = [] := List.drop_of_length_le (by omega)
     rw [if_neg (by omega), if_pos (by omega), ed, be9, if_pos he, List.append_nil]
 ·rintro ⟨f, out⟩ ⟨hf, ho⟩
  have : ¬ (((s.length + 1 : Nat) : Int) ≤ (List.length s : Int)) := by omega
  show ac4 s (f : Int) ((s.length + 1 : Nat) : Int) out = _
  unfold ac4
  simp only [decide_eq_false this, Bool.false_eq_true, if_false, if_true]
 ·simp [aC0]
end Go.Proofs.YtofpfpkjdigabaaGreatDoor
