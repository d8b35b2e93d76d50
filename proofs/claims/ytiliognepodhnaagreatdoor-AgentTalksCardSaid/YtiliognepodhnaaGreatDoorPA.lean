import Derived.Test.YtiliognepodhnaaGreatDoorR
import Derived.Test.YtiliognepodhnaaGreatDoorVmQ
import Derived.Lib.ReplaceLaws
import Derived.Test.YtiliognepodhnaaGreatDoorVmI
import Derived.Lib.ItoaLen
namespace Go.Proofs.YtiliognepodhnaaGreatDoor
open Go.Vm
set_option autoImplicit false
set_option linter.unusedVariables false
set_option linter.unusedSimpArgs false
set_option maxRecDepth 100000
theorem bM8 {α : Type} {o : Option α} : (o.bind fun x => some x) = o := by cases o <;> rfl
theorem ag2 {i : Nat} (h : i ≤ 1000000) : IntKind.wrap .i64 ((i : Int) + 1) = (i : Int) + 1 := ah7 (by omega) (by omega)
theorem dlt {i n : Nat} (h : i < n) : decide ((i : Int) < (n : Int)) = true := by simp [h]
theorem dge {n : Nat} : decide ((n : Int) < (n : Int)) = false := by simp
def as8 (stops : Str) : Str → Nat
 | [] => 0
 | c :: r => if stops.contains c then 0 else as8 stops r + 1
theorem aV1 (stops s : Str) : as8 stops s ≤ s.length := by
 induction s with
 | nil => exact Nat.le_refl _
 | cons c r ih => unfold as8; split <;> simp <;> omega
theorem a92 {s stops : Str} (hm : s.length ≤ 1000000) : aq5 s stops = some (as8 stops s : Int) := by
 unfold aq5
 refine (ai8 s.length (fun (_ : Unit) i => i) (fun v => aw0 s stops v) (fun i _ => ((i + as8 stops (s.drop i) : Nat) : Int)) (fun _ _ => True) (s0 := ()) trivial ?_ ?_).trans ?_
 ·intro _ i hi _
  simp only [aw0, dlt hi, if_true, av9 hi, Option.bind_some, strings_IndexByte, stringslite_IndexByte, aW7, bZ4, cp5, List.drop_eq_getElem_cons hi, as8]
  by_cases hc : stops.contains s[i] = true
  ·right; rw [if_pos hc, if_pos hc]; rfl
  ·left
   refine ⟨(), ?_, ?_, trivial⟩
   ·rw [if_neg hc, ag2 (by omega)]
   ·rw [if_neg hc]; omega
 ·intro _ _
  simp [aw0, as8]
 ·simp
theorem aV2 {s p : Str} : stringslite_HasPrefix s p = some (p.isPrefixOf s) := by
 unfold stringslite_HasPrefix
 by_cases h : p.length ≤ s.length
 ·have h1 : ((List.length p : Int) ≤ (List.length s : Int)) := by omega
  simp only [h1, decide_true, if_true, aP2 h, Option.bind_some]
  congr 1
  rw [Bool.eq_iff_iff, decide_eq_true_eq, List.isPrefixOf_iff_prefix]
  rw [List.prefix_iff_eq_take]; exact eq_comm
 ·have h1 : ¬ ((List.length p : Int) ≤ (List.length s : Int)) := by omega
  simp only [h1, decide_false, Bool.false_eq_true, if_false, Option.bind_some]
  congr 1
  symm
  rw [Bool.eq_false_iff]
  intro e
  exact h (List.isPrefixOf_iff_prefix.1 e).length_le
theorem a93 {s p : Str} : strings_HasPrefix s p = some (p.isPrefixOf s) := by
 unfold strings_HasPrefix; rw [aV2]; rfl
def bA8 (c : UInt8) : Bool := (decide (97 ≤ (c.toNat : Int)) && decide ((c.toNat : Int) ≤ 122)) || ((decide (48 ≤ (c.toNat : Int)) && decide ((c.toNat : Int) ≤ 57)) || (decide ((c.toNat : Int) = 45) || decide ((c.toNat : Int) = 95)))
def cu6 (c : UInt8) : Bool := decide (97 ≤ (c.toNat : Int)) && decide ((c.toNat : Int) ≤ 122)
def aG4 (s : Str) : Bool := ([33] : Str).isPrefixOf s
def cB1 (s : Str) : Str := if aG4 s then s.drop 1 else s
def cp7 (s : Str) : Bool := match s with
 | [] => false
 | c :: r => cu6 c && r.all bA8 && decide (s.length ≤ 32)
def ck1 (s : Str) : Bool := cp7 (cB1 s)
theorem bZ5 (c : UInt8) (h : cu6 c = true) : bA8 c = true := by
 unfold cu6 at h; unfold bA8; rw [h]; rfl
theorem bZ6 {c : UInt8} {r : Str} : cp7 (c :: r) = (cu6 c && (c :: r).all bA8 && decide ((c :: r).length ≤ 32)) := by
 show (cu6 c && r.all bA8 && decide _) = _
 cases h : cu6 c
 ·rfl
 ·rw [List.all_cons, bZ5 c h]; rfl
theorem ck2 (s : Str) : (cB1 s).length ≤ s.length := by
 unfold cB1; split <;> simp
theorem bA9 {s : Str} : strings_TrimPrefix s [33] = some (cB1 s) := by
 unfold strings_TrimPrefix stringslite_TrimPrefix
 rw [aV2 (s := s) (p := [33])]
 unfold cB1 aG4
 cases hp : ([33] : Str).isPrefixOf s with
 | false => simp
 | true =>
  have hl : 1 ≤ s.length := (List.isPrefixOf_iff_prefix.1 hp).length_le
  have := az2 (l := s) (a := 1) hl
  simp only [Option.bind_some, if_true]
  rw [show (List.length ([33] : Str) : Int) = ((1 : Nat) : Int) from rfl, this]; rfl
theorem bM9 {s : Str} (hs : s.length ≤ 1000000) : aN1 s = some (ck1 s) := by
 unfold aN1 ck1
 rw [bA9, Option.bind_some]
 have hl := ck2 s
 generalize cB1 s = x at hl ⊢
 cases x with
 | nil => rfl
 | cons c r =>
  have hat : ah3 (c :: r) 0 = some c := rfl
  simp only [reduceCtorEq, decide_false, Bool.false_eq_true, if_false, hat, Option.bind_some, bZ6]
  by_cases hlen : (32 : Int) < (List.length (c :: r) : Int)
  ·have : ¬ ((c :: r).length ≤ 32) := by omega
   simp only [hlen, decide_true, if_true, Option.bind_some, this, decide_false, Bool.and_false]
  ·have h32 : (c :: r).length ≤ 32 := by omega
   simp only [hlen, decide_false, Bool.false_eq_true, if_false, h32, decide_true, Bool.and_true]
   have hloop : aa8 (fun s => ao2 (c :: r) s) 0 = some ((c :: r).all bA8) := by
    refine (ai8 (c :: r).length (fun (_ : Unit) i => i) (fun v => ao2 (c :: r) v) (fun i _ => ((c :: r).drop i).all bA8) (fun _ _ => True) (s0 := ()) trivial ?_ ?_).trans rfl
    ·intro _ i hi _
     have key : ∀ c : UInt8, (bif (decide ((c.toNat : Int) < 97)) then (bif (decide ((c.toNat : Int) < 48)) then ((!decide ((c.toNat : Int) = 45)) && (!decide ((c.toNat : Int) = 95))) else ((decide (57 < (c.toNat : Int))) && ((!decide ((c.toNat : Int) = 45)) && (!decide ((c.toNat : Int) = 95))))) else ((decide (122 < (c.toNat : Int))) && (bif (decide ((c.toNat : Int) < 48)) then ((!decide ((c.toNat : Int) = 45)) && (!decide ((c.toNat : Int) = 95))) else ((decide (57 < (c.toNat : Int))) && ((!decide ((c.toNat : Int) = 45)) && (!decide ((c.toNat : Int) = 95))))))) = !bA8 c := b75 (by decide +kernel)
     simp only [ao2, dlt hi, if_true, av9 hi, Option.bind_some, List.drop_eq_getElem_cons hi, List.all_cons, key]
     cases hn : bA8 (c :: r)[i]
     ·right; simp
     ·left
      refine ⟨(), ?_, by simp, trivial⟩
      simp only [Bool.not_true, Bool.false_eq_true, if_false]
      rw [ag2 (by omega)]
    ·intro _ _
     simp [ao2]
   rw [hloop]
   have k1 : ∀ c : UInt8, cu6 c = (!decide ((c.toNat : Int) < 97) && !decide (122 < (c.toNat : Int))) := b75 (by decide +kernel)
   rw [k1]
   cases decide ((c.toNat : Int) < 97) <;> cases decide (122 < (c.toNat : Int)) <;> simp
def b81 (v : Str) : Bool := v.all fun c => !([0, 10, 13] : Str).contains c
theorem bH0 (stops s : Str) : decide ((as8 stops s : Int) < (List.length s : Int)) = !(s.all fun c => !stops.contains c) := by
 induction s with
 | nil => rfl
 | cons c r ih =>
  unfold as8
  by_cases hc : stops.contains c = true
  ·rw [if_pos hc]; simp only [List.all_cons, hc]; simp
  ·have hc' : stops.contains c = false := by simpa using hc
   rw [if_neg hc, List.all_cons, hc', Bool.not_false, Bool.true_and, ← ih]
   congr 1
   simp only [List.length_cons, eq_iff_iff]; omega
def bB0 (l : List aa1) (n : Str) : Bool := l.any fun b => decide (b.Name = n)
def chk (before : List aa1) (a : aa1) : Int :=
 if (32 : Int) ≤ (List.length before : Int) then 22 else if ck1 a.Name = false then 6 else if (a.Query && !decide (a.Value = [])) = true ∨ b81 a.Value = false then 2 else if (1024 : Int) < (List.length a.Value : Int) then 4 else if bB0 before a.Name = true then 7 else 0
def ba6 {α : Type} (p : α → Bool) : List α → Int
 | [] => -1
 | a :: r => if p a then 0 else if ba6 p r = -1 then -1 else ba6 p r + 1
theorem b82 {α : Type} (p : α → Bool) (l : List α) : -1 ≤ ba6 p l := by
 induction l with
 | nil => exact Int.le_refl _
 | cons a r ih => simp only [ba6]; split <;> (try split) <;> omega
theorem ck3 {α : Type} (p : α → Bool) (l : List α) : 0 ≤ ba6 p l ↔ l.any p = true := by
 induction l with
 | nil => simp [ba6]
 | cons a r ih =>
  have := b82 p r
  rw [List.any_cons, Bool.or_eq_true, ← ih]
  simp only [ba6]
  by_cases hp : p a = true
  ·simp [hp]
  ·rw [if_neg hp]
   split
   ·rename_i h; rw [h]; simp [hp]
   ·simp only [hp, false_or]; omega
theorem bB1 {α : Type} (p : α → Bool) (l : List α) : decide (0 ≤ ba6 p l) = l.any p := by
 rw [Bool.eq_iff_iff, decide_eq_true_eq, ck3]
theorem bT6 {α : Type} {p : α → Bool} {a : α} {r : List α} (h : p a = true) : ba6 p (a :: r) = 0 := by simp [ba6, h]
theorem bp3 {α : Type} {p : α → Bool} {a : α} {r : List α} (h : ¬ p a = true) : ba6 p (a :: r) = if ba6 p r = -1 then -1 else ba6 p r + 1 := by simp [ba6, h]
theorem aO2 {α : Type} {p : α → Bool} {l : List α} {body : Int → Option (Step Int Int)} (hl : l.length ≤ 1000000)
  (hb : ∀ i (h : i < l.length), body (i : Int) = if p l[i] then some (.done (i : Int)) else some (.cont (IntKind.wrap .i64 ((i : Int) + 1)))) (he : body (l.length : Int) = some (.done (-1))) : aa8 body 0 = some (ba6 p l) := by
 refine (ai8 l.length (fun (_ : Unit) i => i) body (fun i _ => if ba6 p (l.drop i) = -1 then -1 else (i : Int) + ba6 p (l.drop i)) (fun _ _ => True) (s0 := ()) trivial ?_ ?_).trans ?_
 ·intro _ i hi _
  rw [hb i hi, List.drop_eq_getElem_cons hi]
  have := b82 p (l.drop (i + 1))
  by_cases hp : p l[i] = true
  ·right; rw [if_pos hp, bT6 hp]; simp
  ·left
   refine ⟨(), ?_, ?_, trivial⟩
   ·rw [if_neg hp, ag2 (by omega)]
   ·rw [bp3 hp]
    by_cases h : ba6 p (l.drop (i + 1)) = -1
    ·simp [h]
    ·rw [if_neg h, if_neg (by omega), if_neg h]; omega
 ·intro _ _
  rw [he]; simp [ba6]
 ·simp only [List.drop_zero]
  congr 1
  split
  ·rename_i h; exact h.symm
  ·simp
theorem bT7 {before : List aa1} {a : aa1} (hb : before.length ≤ 1000000) (hn : a.Name.length ≤ 1000000) (hv : a.Value.length ≤ 1000000) : aD6 before a = some (chk before a) := by
 unfold aD6 chk
 have hix : ad5 before a = some (ba6 (fun b => decide (b.Name = a.Name)) before) := by
  unfold ad5
  refine aO2 hb ?_ ?_
  ·intro i hi
   simp only [ab8, dlt hi, if_true, ab6 hi, Option.bind_some, aS6]
  ·simp [ab8]
 have hc : ab9 before a = some (bB0 before a.Name) := by
  unfold ab9 bB0
  rw [hix, Option.bind_some, bB1]
 simp only [bM9 hn, Option.bind_some, a92 hv, hc, bH0]
 by_cases h1 : (32 : Int) ≤ (List.length before : Int)
 ·simp [h1]
 ·simp only [h1, decide_false, Bool.false_eq_true, if_false]
  cases ck1 a.Name with
  | false => simp
  | true =>
   simp only [Bool.not_true, Bool.false_eq_true, if_false, Bool.true_eq_false]
   cases a.Query && !decide (a.Value = []) with
   | true => simp
   | false =>
    change (if (!b81 a.Value) = true then _ else _) = _
    cases b81 a.Value with
    | false => simp
    | true =>
     simp only [Bool.not_true, Bool.false_eq_true, if_false, Bool.true_eq_false, or_self]
     by_cases h4 : (1024 : Int) < (List.length a.Value : Int)
     ·simp [h4]
     ·simp only [h4, decide_false, Bool.false_eq_true, if_false]
      cases bB0 before a.Name <;> simp
def okA (a : aa1) : Prop := a.Name.length ≤ 5000 ∧ a.Value.length ≤ 5000
def okL (l : List aa1) : Prop := l.length ≤ 5000 ∧ ∀ a ∈ l, okA a
def b83 (before : List aa1) : List aa1 → Int
 | [] => 0
 | a :: r => if chk before a = 0 then b83 (before ++ [a]) r else chk before a
def bp4 (l : List aa1) : Int := b83 [] l
theorem okL.get {l : List aa1} (h : okL l) {i : Nat} (hi : i < l.length) : okA l[i] := h.2 _ (List.getElem_mem hi)
theorem bi8 {l : List aa1} (h : okL l) : ay0 l = some (bp4 l) := by
 unfold ay0
 refine (ai8 l.length (fun (_ : Unit) i => i) (fun s => aw1 l s) (fun i _ => b83 (l.take i) (l.drop i)) (fun _ _ => True) (s0 := ()) trivial ?_ ?_).trans ?_
 ·intro _ i hi _
  have ha := h.get hi
  have h1 := h.1
  simp only [aw1, dlt hi, if_true, ab6 hi, Option.bind_some, aP2 (Nat.le_of_lt hi), bT7 (before := l.take i) (a := l[i]) (by simp; omega) (by have := ha.1; omega) (by have := ha.2; omega), List.drop_eq_getElem_cons hi, b83]
  by_cases hz : chk (l.take i) l[i] = 0
  ·left
   refine ⟨(), ?_, ?_, trivial⟩
   ·simp only [hz, decide_true, Bool.not_true, Bool.false_eq_true, if_false]
    rw [ag2 (by omega)]
   ·simp only [hz, if_true]
    rw [List.take_succ_eq_append_getElem hi]
  ·right; simp [hz]
 ·intro _ _
  simp [aw1, b83]
 ·simp [bp4]
def dbl (s : Str) : Str := s.flatMap fun c => if c = 39 then [39, 39] else [c]
def oddB (s : Str) : Bool := decide (s = []) || s.any fun c => ([32, 9, 39] : Str).contains c
def bp5 (s : Str) : Str := if oddB s then [39] ++ dbl s ++ [39] else s
theorem b84 (s : Str) : (dbl s).length ≤ 2 * s.length := by
 induction s with
 | nil => exact Nat.le_refl _
 | cons c r ih =>
  unfold dbl at ih ⊢
  rw [List.flatMap_cons, List.length_append, List.length_cons]
  split <;> simp only [List.length_cons, List.length_nil] <;> omega
theorem bw7 (s : Str) : (bp5 s).length ≤ 2 * s.length + 2 := by
 have := b84 s
 unfold bp5
 split <;> simp <;> omega
theorem bB2 {c : UInt8} (hc : c ≠ 39) (k : Nat) (s : Str) (hk : k ≤ Go.Lib.count s [39]) : Go.Lib.replaceK [39] [39, 39] k (c :: s) = c :: Go.Lib.replaceK [39] [39, 39] k s := by
 cases k with
 | zero => rfl
 | succ k =>
  obtain ⟨i, hi⟩ := Go.Lib.index_of_count (s := s) (old := [39]) (by omega)
  have hi' : Go.Lib.index (c :: s) [39] = ((i + 1 : Nat) : Int) := by
   have hp : ([39] : Str).isPrefixOf (c :: s) = false := by simp [List.isPrefixOf, Ne.symm hc]
   rw [Go.Lib.index, hp, hi]
   have : ((i : Int) == -1) = false := by rw [beq_eq_false_iff_ne]; omega
   simp [this]
  rw [Go.Lib.replaceK_hit _ _ _ _ _ hi, Go.Lib.replaceK_hit _ _ _ _ _ hi']
  simp [Nat.add_right_comm]
theorem bN0 (s : Str) : Go.Lib.replaceK [39] [39, 39] (Go.Lib.count s [39]) s = dbl s := by
 induction s with
 | nil => rw [Go.Lib.count_one]; rfl
 | cons c r ih =>
  by_cases hc : c = 39
  ·subst hc
   have hi : Go.Lib.index (39 :: r) [39] = ((0 : Nat) : Int) := by rw [Go.Lib.index]; simp [List.isPrefixOf]
   rw [Go.Lib.count_cons_eq, Nat.add_comm 1, Go.Lib.replaceK_hit _ _ _ _ _ hi]
   simp only [List.take_zero, List.nil_append, Nat.zero_add, List.length_cons, List.length_nil, List.drop_succ_cons, List.drop_zero, ih]
   unfold dbl
   rw [List.flatMap_cons, if_pos rfl]
  ·rw [Go.Lib.count_cons_ne _ _ _ hc, bB2 hc _ _ (Nat.le_refl _), ih]
   unfold dbl
   rw [List.flatMap_cons, if_neg hc]; rfl
theorem bB3 {s : Str} (hs : s.length ≤ 1000000) : strings_ReplaceAll s [39] [39, 39] = some (dbl s) := by
 have hc : Go.Lib.count s [39] ≤ s.length := by rw [Go.Lib.count_one]; exact List.count_le_length
 unfold strings_ReplaceAll aM3
 rw [if_pos ⟨by omega, by simp, by simp; omega⟩]
 unfold Go.Lib.replaceAll Go.Lib.replace
 rw [if_neg (by decide)]
 have : Go.Lib.replaceNum s [39] (-1) = Go.Lib.count s [39] := by unfold Go.Lib.replaceNum; rw [if_pos (Or.inl (by omega))]
 rw [this, bN0]
theorem ck4 {s : Str} (hs : s.length ≤ 1000000) : aX2 s = some (bp5 s) := by
 unfold aX2
 have hd := b84 s
 have c1 : am8 [39] (dbl s) = some ([39] ++ dbl s) := ag5 (by simp; omega)
 have c2 : am8 ([39] ++ dbl s) [39] = some ([39] ++ dbl s ++ [39]) := ag5 (by simp; omega)
 have hu := aV1 [32, 9, 39] s
 have ha := bH0 [32, 9, 39] s
 have hany : (s.any fun c => ([32, 9, 39] : Str).contains c) = !(s.all fun c => !([32, 9, 39] : Str).contains c) := by
  rw [List.any_eq_not_all_not]
 have hdd : decide ((as8 [32, 9, 39] s : Int) = (List.length s : Int)) = (s.all fun c => !([32, 9, 39] : Str).contains c) := by
  cases h : s.all fun c => !([32, 9, 39] : Str).contains c with
  | true => rw [h] at ha; simp only [Bool.not_true, decide_eq_false_iff_not] at ha; simp; omega
  | false => rw [h] at ha; simp only [Bool.not_false, decide_eq_true_eq] at ha; simp; omega
 simp only [a92 hs, Option.bind_some, bB3 hs, c1, c2, hdd]
 unfold bp5 oddB
 rw [hany]
 cases h : s.all fun c => !([32, 9, 39] : Str).contains c <;> cases hn : decide (s = []) <;> simp
def bw8 (a : aa1) : Str := if a.Query then a.Name ++ [63] else a.Name ++ [61] ++ bp5 a.Value
theorem bT8 {a : aa1} (h : okA a) : (bw8 a).length ≤ 15003 := by
 have := bw7 a.Value
 have h1 := h.1
 have h2 := h.2
 unfold bw8
 split <;> simp <;> omega
def a13 (l : List aa1) : Str := Go.Lib.join (l.map bw8) [32]
theorem bT9 {K : Nat} {sep : Str} : ∀ {l : List Str}, (∀ x ∈ l, x.length ≤ K) → (Go.Lib.join l sep).length ≤ l.length * (K + sep.length)
 | [], _ => by simp [Go.Lib.join_nil]
 | x :: r, h => by
  rw [Go.Lib.join_cons, List.length_append]
  have hx := h x (by simp)
  have : ∀ r : List Str, (∀ y ∈ r, y.length ≤ K) → (Go.Lib.joinTail sep r).length ≤ r.length * (K + sep.length) := by
   intro r
   induction r with
   | nil => intro _; simp [Go.Lib.joinTail]
   | cons y r ih =>
    intro h
    have h1 := ih fun z hz => h z (List.mem_cons_of_mem _ hz)
    have h2 := h y (by simp)
    unfold Go.Lib.joinTail at h1 ⊢
    rw [List.map_cons, List.flatten_cons, List.length_append, List.length_append, List.length_cons, Nat.add_mul, Nat.one_mul]
    omega
  have := this r fun z hz => h z (List.mem_cons_of_mem _ hz)
  rw [List.length_cons, Nat.add_mul, Nat.one_mul]
  omega
theorem b85 {l : List aa1} (h : okL l) (i : Nat) : (Go.Lib.join ((l.take i).map bw8) [32]).length ≤ 75020000 := by
 have h1 := bT9 (K := 15003) (sep := [32]) (l := (l.take i).map bw8) (by
  intro x hx
  obtain ⟨a, ha, rfl⟩ := List.mem_map.1 hx
  exact bT8 (h.2 a (List.mem_of_mem_take ha)))
 have h2 := h.1
 simp only [List.length_map, List.length_take, List.length_cons, List.length_nil] at h1
 have : min i l.length * (15003 + (0 + 1)) ≤ 5000 * 15004 := Nat.mul_le_mul (by omega) (by omega)
 omega
theorem ck5 {l : List aa1} (h : okL l) : aX3 l = some (if bp4 l = 0 then (a13 l, 0) else ([], bp4 l)) := by
 unfold aX3
 rw [bi8 h, Option.bind_some]
 by_cases hz : bp4 l = 0
 ·have hl := h.1
  have hmk : mkC 16 ([] : Str) 0 (List.length l : Int) = some [] := by
   unfold mkC
   rw [if_pos ⟨by omega, by omega, by omega, by omega⟩]; rfl
  simp only [hz, decide_true, Bool.not_true, Bool.false_eq_true, if_false, if_true, hmk, Option.bind_some]
  refine (ai8 (τ := Int × List Str) l.length (fun (x : List Str) i => (i, x)) (fun x => at7 l x.1 x.2) (fun i _ => (a13 l, 0)) (fun i x => x = (l.take i).map bw8) (s0 := []) (by simp) ?_ ?_).trans rfl
  ·rintro x i hi rfl
   left
   have ha := h.get hi
   have h1 := ha.1
   have h2 := ha.2
   have hw : IntKind.wrap .i64 ((i : Int) + 1) = (i : Int) + 1 := ag2 (by omega)
   have hq := bw7 l[i].Value
   have c1 : am8 l[i].Name [63] = some (l[i].Name ++ [63]) := ag5 (by simp; omega)
   have c2 : am8 l[i].Name [61] = some (l[i].Name ++ [61]) := ag5 (by simp; omega)
   have c3 : am8 (l[i].Name ++ [61]) (bp5 l[i].Value) = some (l[i].Name ++ [61] ++ bp5 l[i].Value) := ag5 (by simp; omega)
   have ap : ∀ y : Str, aC2 16 ((l.take i).map bw8) [y] = some ((l.take i).map bw8 ++ [y]) := fun y => au1 (by simp; omega) (by simp; omega)
   refine ⟨(l.take (i + 1)).map bw8, ?_, rfl, rfl⟩
   simp only [at7, dlt hi, if_true, ab6 hi, Option.bind_some, c1, c2, ck4 (s := l[i].Value) (by omega), c3, ap, hw]
   rw [List.take_succ_eq_append_getElem hi, List.map_append, List.map_cons, List.map_nil]
   unfold bw8
   cases l[i].Query <;> simp
  ·rintro x rfl
   have hj : strings_Join (l.map bw8) [32] = some (a13 l) := by
    unfold strings_Join a13
    have := b85 h l.length
    rw [List.take_length] at this
    exact bM6 (by simp; omega) (by omega)
   simp only [at7, dge, Bool.false_eq_true, if_false, aI5, List.take_length, hj, Option.bind_some, Option.map_some]
 ·simp [hz]
def ah9 : Str → Option (Str × Nat)
 | [] => none
 | [c] => if c = 39 then some ([], 1) else none
 | c :: d :: r => if c = 39 then (if d = 39 then (ah9 r).map fun x => (39 :: x.1, x.2 + 2) else some ([], 1)) else (ah9 (d :: r)).map fun x => (c :: x.1, x.2 + 1)
theorem bZ7 {c : UInt8} {r : Str} (h : c ≠ 39) : ah9 (c :: r) = (ah9 r).map fun x => (c :: x.1, x.2 + 1) := by
 cases r with
 | nil => simp [ah9, h]
 | cons d r => rw [ah9, if_neg h]
theorem bH1 {r : Str} (h : r.head? ≠ some 39) : ah9 (39 :: r) = some ([], 1) := by
 cases r with
 | nil => rfl
 | cons d r =>
  have : d ≠ 39 := by simpa using h
  rw [ah9, if_pos rfl, if_neg this]
theorem bN1 {r : Str} : ah9 (39 :: 39 :: r) = (ah9 r).map fun x => (39 :: x.1, x.2 + 2) := by
 rw [ah9, if_pos rfl, if_pos rfl]
theorem is39 (c : UInt8) : decide ((c.toNat : Int) = 39) = decide (c = 39) := isC c 39
theorem bN2 (s : Str) (i : Nat) (hi : i ≤ s.length) : i = s.length ∨ ∃ h : i < s.length, (s[i] ≠ 39 ∧ ah9 (s.drop i) = (ah9 (s.drop (i + 1))).map fun x => (s[i] :: x.1, x.2 + 1)) ∨
  (s[i] = 39 ∧ (i + 1 = s.length ∨ ∃ h2 : i + 1 < s.length, s[i + 1] ≠ 39) ∧ ah9 (s.drop i) = some ([], 1)) ∨
  (s[i] = 39 ∧ (∃ h2 : i + 1 < s.length, s[i + 1] = 39) ∧ ah9 (s.drop i) = (ah9 (s.drop (i + 2))).map fun x => (39 :: x.1, x.2 + 2)) := by
 rcases Nat.lt_or_ge i s.length with h | h
 ·right
  refine ⟨h, ?_⟩
  rw [List.drop_eq_getElem_cons h]
  by_cases hc : s[i] = 39
  ·right
   rcases Nat.lt_or_ge (i + 1) s.length with h2 | h2
   ·by_cases hd : s[i + 1] = 39
    ·right
     refine ⟨hc, ⟨h2, hd⟩, ?_⟩
     rw [hc, List.drop_eq_getElem_cons h2, hd, bN1]
    ·left
     refine ⟨hc, Or.inr ⟨h2, hd⟩, ?_⟩
     rw [hc, List.drop_eq_getElem_cons h2]
     exact bH1 fun e => hd (Option.some.inj e)
   ·left
    refine ⟨hc, Or.inl (by omega), ?_⟩
    rw [hc, List.drop_of_length_le h2]; rfl
  ·left
   exact ⟨hc, bZ7 hc⟩
 ·left; omega
theorem b86 {s : Str} (hs : s.length ≤ 1000000) : aN0 s = some (match ah9 s with | some x => (x.1, (x.2 : Int), true) | none => ([], 0, false)) := by
 unfold aN0
 refine (aW9 (σ := Nat × Str) (fun x => ak1 s x.1 x.2) (fun x => ((x.1 : Int), x.2)) (fun x => match ah9 (s.drop x.1) with | some y => (x.2 ++ y.1, ((x.1 + y.2 : Nat) : Int), true) | none => ([], 0, false)) (fun x => s.length - x.1)
  (fun x => x.1 ≤ s.length ∧ x.2.length ≤ x.1) ?_ (s0 := (0, [])) ⟨by simp, by simp⟩).trans ?_
 ·rintro ⟨i, acc⟩ ⟨h1, h2⟩
  simp only at h1 h2
  rcases bN2 s i h1 with he | ⟨h, hcase⟩
  ·right
   subst he
   simp [ak1, ah9]
  ·have hw : IntKind.wrap .i64 ((i : Int) + 1) = (i : Int) + 1 := ag2 (by omega)
   have hw2 : IntKind.wrap .i64 ((i : Int) + 1 + 1) = ((i + 2 : Nat) : Int) := by rw [ah7 (by omega) (by omega)]; omega
   have b1 : ∀ c : UInt8, bAdd acc [c] = some (acc ++ [c]) := fun c => aD3 (by simp; omega)
   rcases hcase with ⟨hc, hq⟩ | ⟨hc, hn, hq⟩ | ⟨hc, ⟨h3, hd⟩, hq⟩
   ·left
    refine ⟨(i + 1, acc ++ [s[i]]), ?_, ?_, ⟨by simp only; omega, by simp; omega⟩, by simp only; omega⟩
    ·simp only [ak1, dlt h, if_true, av9 h, Option.bind_some, is39, hc, decide_false, Bool.not_false, b1, hw]
     rfl
    ·simp only [hq]
     cases ah9 (s.drop (i + 1)) with
     | none => rfl
     | some y => simp; omega
   ·right
    simp only [ak1, dlt h, if_true, av9 h, Option.bind_some, is39, hc, decide_true, Bool.not_true, Bool.false_eq_true, if_false, hw, hq]
    rcases hn with h3 | ⟨h3, hd⟩
    ·have : (i : Int) + 1 = (List.length s : Int) := by omega
     simp [this]
    ·have h4 : ¬ ((i : Int) + 1 = (List.length s : Int)) := by omega
     have h5 : ah3 s ((i : Int) + 1) = some s[i + 1] := by
      have := av9 h3
      rwa [show ((i + 1 : Nat) : Int) = (i : Int) + 1 by omega] at this
     simp [h4, h5, is39, hd]
   ·left
    have h4 : ¬ ((i : Int) + 1 = (List.length s : Int)) := by omega
    have h5 : ah3 s ((i : Int) + 1) = some s[i + 1] := by
     have := av9 h3
     rwa [show ((i + 1 : Nat) : Int) = (i : Int) + 1 by omega] at this
    refine ⟨(i + 2, acc ++ [39]), ?_, ?_, ⟨by simp only; omega, by simp; omega⟩, by simp only; omega⟩
    ·simp only [ak1, dlt h, if_true, av9 h, Option.bind_some, is39, hc, decide_true, Bool.not_true, Bool.false_eq_true, if_false, hw, h4, decide_false, h5, hd, b1, hw2]
    ·simp only [hq]
     cases ah9 (s.drop (i + 2)) with
     | none => rfl
     | some y => simp; omega
 ·simp only [List.drop_zero]
  cases ah9 s <;> simp
def bp6 (c : UInt8) : Bool := decide ((c.toNat : Int) = 32) || decide ((c.toNat : Int) = 9)
def cu7 (s : Str) : Bool := match s with
 | [] => true
 | c :: _ => bp6 c
def bad (e : Int) : aa1 × Nat × Int := (⟨[], [], false⟩, 0, e)
def fin (s : Str) (a : aa1) (n : Nat) : aa1 × Nat × Int := if cu7 (s.drop n) then (a, n, 0) else bad 2
def valS (s nm : Str) (n : Nat) (r : Str) : aa1 × Nat × Int := if (r.take (as8 [32, 9] r)).contains 39 then bad 2 else fin s ⟨nm, r.take (as8 [32, 9] r), false⟩ (n + (1 + as8 [32, 9] r))
def cD0 (s nm : Str) (n : Nat) : Str → aa1 × Nat × Int
 | [] => bad 2
 | c :: r => if c = 63 then fin s ⟨nm, [], true⟩ (n + 1) else if c = 61 then
  (if ([39] : Str).isPrefixOf r then (match ah9 (r.drop 1) with | none => bad 48 | some x => fin s ⟨nm, x.1, false⟩ (n + (2 + x.2))) else valS s nm n r) else bad 2
def bg7 : Str := [32, 9, 61, 63, 39]
def bt1 (s : Str) : aa1 × Nat × Int := cD0 s (s.take (as8 bg7 s)) (as8 bg7 s) (s.drop (as8 bg7 s))
theorem bB4 {s nm v : Str} {n : Nat} {q : Bool} (hn : n ≤ s.length) : ax8 s nm (n : Int) v q = some ((fin s ⟨nm, v, q⟩ n).1, ((fin s ⟨nm, v, q⟩ n).2.1 : Int), (fin s ⟨nm, v, q⟩ n).2.2) := by
 unfold ax8 fin
 rcases Nat.lt_or_ge n s.length with h | h
 ·simp only [dlt h, if_true, av9 h, Option.bind_some, aJ8, List.drop_eq_getElem_cons h, cu7]
  change (if (!bp6 s[n]) = true then _ else _) = _
  cases bp6 s[n] <;> rfl
 ·have : n = s.length := by omega
  subst this
  simp [cu7]
theorem aO3 : ∀ (s : Str) (x : Str × Nat), ah9 s = some x → x.1.length ≤ x.2 ∧ 1 ≤ x.2 ∧ x.2 ≤ s.length
 | [], x, h => by simp [ah9] at h
 | [c], x, h => by
  unfold ah9 at h
  split at h
  ·cases h; simp
  ·cases h
 | c :: d :: r, x, h => by
  rw [ah9] at h
  split at h
  ·split at h
   ·obtain ⟨y, hy, rfl⟩ := Option.map_eq_some_iff.1 h
    have := aO3 r y hy
    simp; omega
   ·cases h; simp
  ·obtain ⟨y, hy, rfl⟩ := Option.map_eq_some_iff.1 h
   have := aO3 (d :: r) y hy
   simp at this ⊢; omega
theorem cD1 {s : Str} (hs : s.length ≤ 1000000) : bi6 s = some ((bt1 s).1, ((bt1 s).2.1 : Int), (bt1 s).2.2) := by
 unfold bi6 bt1
 have hn := aV1 bg7 s
 have hu : aq5 s [32, 9, 61, 63, 39] = some (as8 bg7 s : Int) := a92 hs
 rw [hu, Option.bind_some]
 generalize as8 bg7 s = n at hn ⊢
 rw [aP2 hn, Option.bind_some, az2 hn, Option.bind_some]
 generalize hr : s.drop n = rest
 have hlen : rest.length = s.length - n := by rw [← hr, List.length_drop]
 simp only [a93, Option.bind_some]
 cases rest with
 | nil => simp [List.isPrefixOf, cD0, bad]
 | cons c r =>
  simp only [List.length_cons] at hlen
  unfold cD0
  by_cases h63 : c = 63
  ·subst h63
   have hw : IntKind.wrap .i64 ((n : Int) + 1) = ((n + 1 : Nat) : Int) := by rw [ah7 (by omega) (by omega)]; omega
   simp only [List.isPrefixOf, BEq.rfl, Bool.and_true, if_true, hw]
   exact bB4 (by omega)
  ·have e63 : ((63 : UInt8) == c) = false := by simpa using Ne.symm h63
   simp only [List.isPrefixOf, e63, Bool.false_and, Bool.false_eq_true, if_false, h63]
   by_cases h61 : c = 61
   ·subst h61
    simp only [BEq.rfl, Bool.true_and, if_true]
    cases r with
    | nil =>
     have hu2 : aq5 [61] [32, 9] = some (1 : Int) := a92 (by simp)
     have hcut : cut ([61] : Str) 1 1 = some [] := rfl
     have hcon : strings_Contains [] [39] = some false := rfl
     have hw : IntKind.wrap .i64 ((n : Int) + 1) = ((n + 1 : Nat) : Int) := by rw [ah7 (by omega) (by omega)]; omega
     simp only [List.isPrefixOf, Bool.false_eq_true, if_false, hu2, Option.bind_some, hcut, hcon, hw]
     exact bB4 (by simp at hlen; omega)
    | cons d r2 =>
     simp only [List.isPrefixOf, Bool.and_true]
     by_cases h39 : d = 39
     ·subst h39
      have hcut : cut (61 :: 39 :: r2) 2 (List.length (61 :: 39 :: r2) : Int) = some r2 := by
       have := az2 (l := (61 :: 39 :: r2 : Str)) (a := 2) (by simp)
       simpa using this
      simp only [List.length_cons] at hlen
      have hcut' : cut (61 :: 39 :: r2) 2 (List.length (61 :: 39 :: r2) : Int) = some r2 := hcut
      simp only [BEq.rfl, if_true, hcut', Option.bind_some, b86 (s := r2) (by omega), List.drop_succ_cons, List.drop_zero]
      cases hq : ah9 r2 with
      | none => simp [bad]
      | some x =>
       have hx := aO3 r2 x hq
       have hw1 : IntKind.wrap .i64 (2 + (x.2 : Int)) = 2 + (x.2 : Int) := ah7 (by omega) (by omega)
       have hw2 : IntKind.wrap .i64 ((n : Int) + (2 + (x.2 : Int))) = ((n + (2 + x.2) : Nat) : Int) := by rw [ah7 (by omega) (by omega)]; omega
       simp only [Bool.not_true, Bool.false_eq_true, if_false, hw1, hw2]
       exact bB4 (by omega)
     ·have e39 : ((39 : UInt8) == d) = false := by simpa using Ne.symm h39
      simp only [List.length_cons] at hlen
      have hu2 : aq5 (61 :: d :: r2) [32, 9] = some ((as8 [32, 9] (d :: r2) + 1 : Nat) : Int) := by
       rw [a92 (by simp; omega), as8]; rfl
      have hle := aV1 [32, 9] (d :: r2)
      simp only [List.length_cons] at hle
      simp only [e39, Bool.false_eq_true, if_false, hu2, Option.bind_some]
      unfold valS
      generalize as8 [32, 9] (d :: r2) = k at hle ⊢
      have hcut : cut (61 :: d :: r2) 1 ((k + 1 : Nat) : Int) = some ((d :: r2).take k) := by
       have := bM5 (l := (61 :: d :: r2 : Str)) (a := 1) (b := k + 1) (by omega) (by simp; omega)
       simpa using this
      have hcon : strings_Contains ((d :: r2).take k) [39] = some (((d :: r2).take k).contains 39) := by
       unfold strings_Contains strings_Index bG4
       rw [Option.bind_some, cp5]
      have hw : IntKind.wrap .i64 ((n : Int) + ((k + 1 : Nat) : Int)) = ((n + (1 + k) : Nat) : Int) := by rw [ah7 (by omega) (by omega)]; omega
      simp only [hcut, Option.bind_some, hcon, hw]
      cases hc : ((d :: r2).take k).contains 39 with
      | true => simp [bad]
      | false =>
       simp only [Bool.false_eq_true, if_false]
       exact bB4 (by omega)
   ·have e61 : ((61 : UInt8) == c) = false := by simpa using Ne.symm h61
    simp [e61, h61, bad]
def agree (x : aa1 × Int × Int) (at_ : Nat) (o : aa1 × Nat × Int) : Prop := x.2.2 = o.2.2 ∧ (o.2.2 = 0 → x.1 = o.1 ∧ x.2.1 = ((at_ + o.2.1 : Nat) : Int))
def bt2 (out : List aa1) (o : aa1 × Nat × Int) : Int := if o.2.2 = 0 then chk out o.1 else o.2.2
def at0 : Nat → List aa1 → Nat → Str → List aa1 × Int × Int
 | 0, out, _, _ => (out, 0, 0)
 | _ + 1, out, _, [] => (out, 0, 0)
 | f + 1, out, i, c :: r => if bp6 c then at0 f out (i + 1) r else if bt2 out (bt1 (c :: r)) = 0 then at0 f (out ++ [(bt1 (c :: r)).1]) (i + (bt1 (c :: r)).2.1) ((c :: r).drop (bt1 (c :: r)).2.1) else ([], (i : Int), bt2 out (bt1 (c :: r)))
def an3 (s : Str) : List aa1 × Int × Int := at0 (s.length + 1) [] 0 s
theorem bp7 {s : Str} {a : aa1} {n : Nat} (h : (fin s a n).2.2 = 0) : fin s a n = (a, n, 0) := by
 unfold fin at h ⊢
 split
 ·rfl
 ·rename_i hc; rw [if_neg hc] at h; simp [bad] at h
theorem bH2 {s : Str} (h : (bt1 s).2.2 = 0) : 1 ≤ (bt1 s).2.1 ∧ (bt1 s).2.1 ≤ s.length ∧ (bt1 s).1.Name.length ≤ s.length ∧ (bt1 s).1.Value.length ≤ s.length := by
 unfold bt1 at h ⊢
 have hn := aV1 bg7 s
 generalize as8 bg7 s = n at hn h ⊢
 generalize hr : s.drop n = rest at h ⊢
 have hlen : rest.length = s.length - n := by rw [← hr, List.length_drop]
 cases rest with
 | nil => simp [cD0, bad] at h
 | cons c r =>
  simp only [List.length_cons] at hlen
  simp only [cD0] at h ⊢
  split at h
  ·rename_i hc
   rw [if_pos hc, bp7 h]; simp; omega
  ·rename_i hc
   rw [if_neg hc]
   split at h
   ·rename_i h61
    rw [if_pos h61]
    split at h
    ·rename_i hp
     rw [if_pos hp]
     cases hq : ah9 (r.drop 1) with
     | none => rw [hq] at h; simp [bad] at h
     | some x =>
      rw [hq] at h
      simp only at h ⊢
      have hx := aO3 _ x hq
      rw [List.length_drop] at hx
      rw [bp7 h]; simp; omega
    ·rename_i hp
     rw [if_neg hp]
     unfold valS at h ⊢
     have hu := aV1 [32, 9] r
     split at h
     ·simp [bad] at h
     ·rename_i hq
      rw [if_neg hq, bp7 h]; simp; omega
   ·simp [bad] at h
theorem bZ8 {f i : Nat} {out : List aa1} {s : Str} (h : i < s.length) : at0 (f + 1) out i (s.drop i) = if bp6 s[i] then at0 f out (i + 1) (s.drop (i + 1)) else
  if bt2 out (bt1 (s.drop i)) = 0 then at0 f (out ++ [(bt1 (s.drop i)).1]) (i + (bt1 (s.drop i)).2.1) (s.drop (i + (bt1 (s.drop i)).2.1)) else ([], (i : Int), bt2 out (bt1 (s.drop i))) := by
 conv => lhs; rw [List.drop_eq_getElem_cons h, at0]
 rw [← List.drop_eq_getElem_cons h, List.drop_drop]
theorem bZ9 {out : List aa1} {o : aa1 × Nat × Int} (h : bt2 out o = 0) : o.2.2 = 0 := by
 unfold bt2 at h
 split at h
 ·rename_i h1; exact h1
 ·rename_i h1; exact absurd h h1
theorem bB5 {s : Str} (hs : s.length ≤ 1000000) : ax9 s = some (an3 s) := by
 unfold ax9
 refine (aW9 (σ := Nat × Nat × List aa1) (fun x => at5 s x.1 x.2) (fun x => ((x.2.1 : Int), x.2.2)) (fun x => at0 x.1 x.2.2 x.2.1 (s.drop x.2.1)) (fun x => x.1)
  (fun x => x.2.1 ≤ s.length ∧ s.length - x.2.1 < x.1 ∧ x.2.2.length ≤ x.2.1) ?_ (s0 := (s.length + 1, 0, [])) ⟨by simp, by simp, by simp⟩).trans ?_
 ·rintro ⟨f, i, out⟩ ⟨h1, h2, h3⟩
  simp only at h1 h2 h3
  obtain ⟨f, rfl⟩ : ∃ g, f = g + 1 := ⟨f - 1, by omega⟩
  have hb : ∀ c : UInt8, aJ8 (c.toNat : Int) = some (bp6 c) := fun c => rfl
  rcases Nat.lt_or_ge i s.length with h | h
  ·have hw : IntKind.wrap .i64 ((i : Int) + 1) = ((i + 1 : Nat) : Int) := by rw [ah7 (by omega) (by omega)]; omega
   have hso : (s.drop i).length ≤ 1000000 := by rw [List.length_drop]; omega
   simp only [at5, dlt h, if_true, av9 h, Option.bind_some, hb, az2 h1, cD1 hso, bZ8 h]
   cases hbl : bp6 s[i] with
   | true =>
    left
    refine ⟨(f, i + 1, out), ?_, rfl, ⟨by simp only; omega, by simp only; omega, by simp only; omega⟩, by simp⟩
    simp only [if_true, hw]
   | false =>
    simp only [Bool.false_eq_true, if_false]
    generalize ho : bt1 (s.drop i) = o
    have hof : o.2.2 = 0 → 1 ≤ o.2.1 ∧ o.2.1 ≤ (s.drop i).length ∧ o.1.Name.length ≤ (s.drop i).length ∧ o.1.Value.length ≤ (s.drop i).length := by
     intro hz; rw [← ho] at hz ⊢; exact bH2 hz
    rw [List.length_drop] at hof
    by_cases hz : o.2.2 = 0
    ·obtain ⟨g1, g2, g3, g4⟩ := hof hz
     have hck : aD6 out o.1 = some (chk out o.1) := bT7 (by omega) (by omega) (by omega)
     have hst : bt2 out o = chk out o.1 := by unfold bt2; rw [if_pos hz]
     have hw2 : IntKind.wrap .i64 ((i : Int) + (o.2.1 : Int)) = ((i + o.2.1 : Nat) : Int) := by rw [ah7 (by omega) (by omega)]; omega
     have hap : aC2 40 out [o.1] = some (out ++ [o.1]) := au1 (by simp; omega) (by simp; omega)
     simp only [hz, decide_true, if_true, hck, Option.bind_some, at4, hst, hap, hw2]
     by_cases hc : chk out o.1 = 0
     ·left
      refine ⟨(f, i + o.2.1, out ++ [o.1]), ?_, ?_, ⟨by simp only; omega, by simp only; omega, by simp; omega⟩, by simp⟩
      ·simp only [hc, decide_true, Bool.not_true, Bool.false_eq_true, if_false]
      ·simp only [hc, if_true]
     ·right
      simp only [hc, decide_false, Bool.not_false, if_true, if_false]
    ·right
     have hst : bt2 out o = o.2.2 := by unfold bt2; rw [if_neg hz]
     simp only [hz, decide_false, Bool.false_eq_true, if_false, at4, Bool.not_false, if_true, hst]
  ·right
   have : i = s.length := by omega
   subst this
   simp only [at5, dge, Bool.false_eq_true, if_false, List.drop_length, at0]
 ·rfl
def bB6 (name : Str) (a : aa1) : Bool := !a.Query && decide (a.Name = name)
def an4 (name : Str) : List aa1 → Str × Bool
 | [] => ([], false)
 | a :: r => if bB6 name a then (a.Value, true) else an4 name r
theorem a94 {α : Type} (p : α → Bool) (l : List α) : (ba6 p l = -1 ∧ ∀ a ∈ l, p a = false) ∨ ∃ i, ∃ h : i < l.length, ba6 p l = (i : Int) ∧ p l[i] = true ∧ ∀ a ∈ l.take i, p a = false := by
 induction l with
 | nil => left; exact ⟨rfl, by simp⟩
 | cons a r ih =>
  by_cases hp : p a = true
  ·right; exact ⟨0, by simp, bT6 hp, hp, by simp⟩
  ·have hp' := Bool.eq_false_iff.2 hp
   rcases ih with ⟨h1, h2⟩ | ⟨i, h, h1, h2, h3⟩
   ·left
    refine ⟨by rw [bp3 hp, if_pos h1], ?_⟩
    intro x hx
    rcases List.mem_cons.1 hx with rfl | hx
    ·exact hp'
    ·exact h2 x hx
   ·right
    refine ⟨i + 1, by simpa using h, ?_, by simpa using h2, ?_⟩
    ·rw [bp3 hp, h1, if_neg (by omega)]; omega
    ·intro x hx
     rw [List.take_succ_cons] at hx
     rcases List.mem_cons.1 hx with rfl | hx
     ·exact hp'
     ·exact h3 x hx
theorem b87 {name : Str} {a : aa1} {r : List aa1} (h : bB6 name a = true) : an4 name (a :: r) = (a.Value, true) := by simp [an4, h]
theorem b00 {name : Str} {a : aa1} {r : List aa1} (h : ¬ bB6 name a = true) : an4 name (a :: r) = an4 name r := by simp [an4, h]
theorem b01 {name : Str} {l : List aa1} (h : ∀ a ∈ l, bB6 name a = false) : an4 name l = ([], false) := by
 induction l with
 | nil => rfl
 | cons a r ih => rw [an4, h a (by simp), if_neg (by simp)]; exact ih fun x hx => h x (List.mem_cons_of_mem _ hx)
theorem bU0 {name : Str} : ∀ {l : List aa1} {i : Nat} (h : i < l.length), bB6 name l[i] = true → (∀ a ∈ l.take i, bB6 name a = false) → an4 name l = (l[i].Value, true)
 | [], _, h, _, _ => by simp at h
 | a :: r, 0, _, h1, _ => by
  simp only [List.getElem_cons_zero] at h1 ⊢
  rw [an4, if_pos h1]
 | a :: r, i + 1, h, h1, h2 => by
  rw [an4, h2 a (by simp), if_neg (by simp)]
  exact bU0 (i := i) (by simpa using h) (by simpa using h1) fun x hx => h2 x (by rw [List.take_succ_cons]; exact List.mem_cons_of_mem _ hx)
theorem ck6 {l : List aa1} {name : Str} (hl : l.length ≤ 1000000) : aX0 l name = some (ba6 (bB6 name) l) := by
 unfold aX0
 rw [bM8]
 unfold ag0
 refine aO2 hl ?_ ?_
 ·intro i hi
  simp only [ac2, dlt hi, if_true, ab6 hi, Option.bind_some, aS7]
  rfl
 ·simp [ac2]
theorem bd1 {l : List aa1} {name : Str} (hl : l.length ≤ 1000000) : ar8 l name = some (an4 name l) := by
 unfold ar8
 rw [ck6 hl, Option.bind_some]
 rcases a94 (bB6 name) l with ⟨h1, h2⟩ | ⟨i, h, h1, h2, h3⟩
 ·rw [h1, b01 h2]; rfl
 ·have : ¬ ((i : Int) < 0) := by omega
  rw [h1, bU0 h h2 h3]
  simp only [this, decide_false, Bool.false_eq_true, if_false, ab6 h, Option.bind_some]
def a95 (l : List aa1) (a : aa1) : Bool := (an4 a.Name l).2 && (a.Query || decide ((an4 a.Name l).1 = a.Value))
theorem bd2 {l pattern : List aa1} (hl : l.length ≤ 1000000) (hp : pattern.length ≤ 1000000) : au4 l pattern = some (pattern.all (a95 l)) := by
 unfold au4
 refine (ai8 pattern.length (fun (_ : Unit) i => i) (fun s => ar9 l pattern s) (fun i _ => (pattern.drop i).all (a95 l)) (fun _ _ => True) (s0 := ()) trivial ?_ ?_).trans rfl
 ·intro _ i hi _
  simp only [ar9, dlt hi, if_true, ab6 hi, Option.bind_some, bd1 hl, List.drop_eq_getElem_cons hi, List.all_cons, a95]
  generalize an4 pattern[i].Name l = x
  cases x.2 <;> cases pattern[i].Query <;> cases decide (x.1 = pattern[i].Value) <;> simp <;> (try rw [ag2 (by omega)])
 ·intro _ _
  simp [ar9]
theorem aD0 {l : List aa1} (hl : l.length ≤ 1000000) : aa5 l = some l := by
 unfold aa5
 rw [au1 (by simp; omega) (by simp; omega)]; rfl
theorem bU1 {α : Type} {p : α → Bool} {l : List α} {body : Int × Int × List α → Option (Step (Int × Int × List α) (List α))} (hl : l.length ≤ 1000000)
  (hb : ∀ (i j : Nat) (s : List α) (hi : i < s.length) (hj : j < s.length), body ((i : Int), (j : Int), s) = if !p s[j] then some (.cont (IntKind.wrap .i64 ((i : Int) + 1), IntKind.wrap .i64 ((j : Int) + 1), s.set i s[j])) else some (.cont ((i : Int), IntKind.wrap .i64 ((j : Int) + 1), s)))
  (he : ∀ (i : Nat) (s : List α), i ≤ s.length → body ((i : Int), (s.length : Int), s) = some (.done (s.take i))) {i0 : Nat} (h0 : i0 < l.length) (hp0 : p l[i0] = true) (hbef : ∀ a ∈ l.take i0, p a = false) :
  aa8 body ((i0 : Int), IntKind.wrap .i64 ((i0 : Int) + 1), l) = some (l.filter fun a => !p a) := by
 have hw0 : IntKind.wrap .i64 ((i0 : Int) + 1) = ((i0 + 1 : Nat) : Int) := by rw [ah7 (by omega) (by omega)]; omega
 rw [hw0]
 have hf0 : (l.take (i0 + 1)).filter (fun a => !p a) = l.take i0 := by
  rw [List.take_succ_eq_append_getElem h0, List.filter_append, List.filter_eq_self.2 (fun a ha => by simp [hbef a ha])]
  simp [hp0]
 refine (aW9 (σ := Nat × Nat × List α) body (fun x => ((x.1 : Int), (x.2.1 : Int), x.2.2)) (fun _ => l.filter fun a => !p a) (fun x => l.length - x.2.1)
  (fun x => x.1 < x.2.1 ∧ x.2.1 ≤ l.length ∧ x.2.2.length = l.length ∧ x.2.2.take x.1 = (l.take x.2.1).filter (fun a => !p a) ∧ x.2.2.drop x.2.1 = l.drop x.2.1) ?_ (s0 := (i0, i0 + 1, l)) ⟨by simp, by simp only; omega, rfl, by simp only; exact hf0.symm, rfl⟩).trans rfl
 rintro ⟨i, j, s⟩ ⟨h1, h2, h3, h4, h5⟩
 simp only at h1 h2 h3 h4 h5
 rcases Nat.lt_or_ge j l.length with hj | hj
 ·left
  have hjs : j < s.length := by omega
  have hwi : IntKind.wrap .i64 ((i : Int) + 1) = ((i + 1 : Nat) : Int) := by rw [ah7 (by omega) (by omega)]; omega
  have hwj : IntKind.wrap .i64 ((j : Int) + 1) = ((j + 1 : Nat) : Int) := by rw [ah7 (by omega) (by omega)]; omega
  have hsj : s[j] = l[j] := by
   rw [List.drop_eq_getElem_cons hjs, List.drop_eq_getElem_cons hj] at h5
   exact (List.cons.inj h5).1
  have h5' : s.drop (j + 1) = l.drop (j + 1) := by
   rw [List.drop_eq_getElem_cons hjs, List.drop_eq_getElem_cons hj] at h5
   exact (List.cons.inj h5).2
  simp only
  rw [hb i j s (by omega) hjs]
  cases hp : p s[j] with
  | true =>
   refine ⟨(i, j + 1, s), ?_, by trivial, ⟨by simp only; omega, by simp only; omega, h3, ?_, h5'⟩, by simp only; omega⟩
   ·simp only [Bool.not_true, Bool.false_eq_true, if_false, hwj]
   ·simp only
    rw [h4, List.take_succ_eq_append_getElem hj, List.filter_append]
    simp [← hsj, hp]
  | false =>
   refine ⟨(i + 1, j + 1, s.set i s[j]), ?_, by trivial, ⟨by simp only; omega, by simp only; omega, by simp [h3], ?_, ?_⟩, by simp only; omega⟩
   ·simp only [Bool.not_false, if_true, hwi, hwj]
   ·simp only
    rw [List.take_succ_eq_append_getElem (by simp; omega), List.getElem_set_self, List.take_set_of_le (Nat.le_refl _), h4, List.take_succ_eq_append_getElem hj, List.filter_append]
    simp [← hsj, hp]
   ·simp only
    rw [List.drop_set_of_lt (by omega)]; exact h5'
 ·right
  have : j = s.length := by omega
  subst this
  simp only
  rw [he i s (by omega), h4, List.take_of_length_le hj]
theorem bp8 {l : List aa1} (hl : l.length ≤ 1000000) : ay1 l = some (l.filter fun a => !aG4 a.Name) := by
 unfold ay1
 rw [aD0 hl, Option.bind_some, bM8]
 unfold af2
 have hp1 : ∀ a, aw2 a = some (aG4 a.Name) := by
  intro a; unfold aw2; rw [a93]; rfl
 have hix : ad7 l = some (ba6 (fun a => aG4 a.Name) l) := by
  unfold ad7
  refine aO2 hl ?_ ?_
  ·intro i hi
   simp only [ac3, dlt hi, if_true, ab6 hi, Option.bind_some, hp1]
  ·simp [ac3]
 rw [hix, Option.bind_some]
 rcases a94 (fun a => aG4 a.Name) l with ⟨h1, h2⟩ | ⟨i, h, h1, h2, h3⟩
 ·rw [h1, List.filter_eq_self.2 (fun a ha => by simp [h2 a ha])]; rfl
 ·have : ¬ ((i : Int) = -1) := by omega
  rw [h1]
  simp only [this, decide_false, Bool.false_eq_true, if_false]
  refine bU1 (p := fun a => aG4 a.Name) hl ?_ ?_ h h2 h3
  ·intro i j s hi hj
   simp only [ab3, dlt hj, if_true, ab6 hj, ab6 hi, Option.bind_some, hp1, Int.toNat_natCast]
  ·intro i s hi
   simp only [ab3, dge, Bool.false_eq_true, if_false, ae1, aP2 hi, Option.bind_some, Option.map_some]
theorem bw9 {l : List aa1} {name : Str} (hl : l.length ≤ 1000000) : aA4 l name = some (l.filter fun a => !decide (a.Name = name)) := by
 unfold aA4
 rw [aD0 hl, Option.bind_some, bM8]
 unfold af3
 have hp1 : ∀ a, az6 a name = some (decide (a.Name = name)) := fun a => rfl
 have hix : ad8 l name = some (ba6 (fun a => decide (a.Name = name)) l) := by
  unfold ad8
  refine aO2 hl ?_ ?_
  ·intro i hi
   simp only [ac4, dlt hi, if_true, ab6 hi, Option.bind_some, hp1]
  ·simp [ac4]
 rw [hix, Option.bind_some]
 rcases a94 (fun (a : aa1) => decide (a.Name = name)) l with ⟨h1, h2⟩ | ⟨i, h, h1, h2, h3⟩
 ·rw [h1, List.filter_eq_self.2 (fun a ha => by simp only [h2 a ha, Bool.not_false])]; rfl
 ·have : ¬ ((i : Int) = -1) := by omega
  rw [h1]
  simp only [this, decide_false, Bool.false_eq_true, if_false]
  refine bU1 (p := fun a => decide (a.Name = name)) hl ?_ ?_ h h2 h3
  ·intro i j s hi hj
   simp only [ab4, dlt hj, if_true, ab6 hj, ab6 hi, Option.bind_some, hp1, Int.toNat_natCast]
  ·intro i s hi
   simp only [ab4, dge, Bool.false_eq_true, if_false, ae5, aP2 hi, Option.bind_some, Option.map_some]
theorem bN3 {n : Int} (h0 : -9223372036854775808 ≤ n) (h1 : n ≤ 9223372036854775807) : a79 n 10 = some (Go.Lib.itoa n) := by
 unfold a79 bo1 ay4 aW8
 rw [if_pos ⟨rfl, h0, h1⟩]; rfl
end Go.Proofs.YtiliognepodhnaaGreatDoor
