import Derived.Test.YtchaaedlfibdoaaGreatDoorPB
open BitVec (ofInt toNat_ofNat)
open Bool (false_eq_true or_eq_true)
open Go.IntKind (wrap)
open List (getD getElem_mem getElem_of_mem length_append length_cons length_nil take_length)
open Nat (le_refl)
namespace Go.Proofs.YtchaaedlfibdoaaGreatDoor
open Go.Vm
set_option linter.unusedVariables false
set_option linter.unusedSimpArgs false
set_option maxRecDepth 100000
def lowB (c : UInt8) : Bool := decide (97 ≤ (c.toNat : Int)) && decide ((c.toNat : Int) ≤ 122)
def ch7 (c : UInt8) : Bool := (decide (48 ≤ (c.toNat : Int)) && decide ((c.toNat : Int) ≤ 57)) || (decide ((c.toNat : Int) = 45) || decide ((c.toNat : Int) = 95))
def vU : Bool → Str → Bool
 | _, [] => true
 | first, c :: r => (lowB c || (!first && ch7 c)) && vU false r
def a32 (name : Str) : Bool := !decide (name = []) && (decide ((List.length name : Int) ≤ 32) && vU true name)
theorem b75 {name : Str} {i : Nat} (h : i < name.length) : vU (decide (i = 0)) (name.drop i) = ((lowB name[i] || (!decide (i = 0) && ch7 name[i])) && vU (decide (i + 1 = 0)) (name.drop (i + 1))) := by
 rw [List.drop_eq_getElem_cons h]
 simp [vU]
theorem a33 {name : Str} : aM1 name = some (a32 name) := by
 unfold aM1 a32
 by_cases h0 : name = []
 ·simp [h0]
 by_cases h1 : (32 : Int) < (List.length name : Int)
 ·have : ¬ ((List.length name : Int) ≤ 32) := by omega
  simp [h0, h1, this]
 have hm : name.length ≤ maxLen := by unfold maxLen; omega
 have h2 : (List.length name : Int) ≤ 32 := by omega
 have := ah3 name.length (fun (s : Unit) i => i) (fun s => aw2 name s) (fun i _ => vU (decide (i = 0)) (name.drop i)) (fun _ _ => True) (s0 := ()) trivial ?_ ?_
 ·simp only [h0, h1, h2, decide_true, decide_false, Bool.or_self, false_eq_true, if_false, Bool.not_false, Bool.true_and]
  rw [this]; rfl
 ·intro s i hi _
  simp only [aw2, aL3 hi, aK1 hi hm, oB, b75 hi, lowB, ch7]
  have hd : decide ((i : Int) < (List.length name : Int)) = true := by simp [hi]
  have hz : decide ((i : Int) = 0) = decide (i = 0) := by simp
  simp only [hd, hz, if_true]
  generalize vU (decide (i + 1 = 0)) (name.drop (i + 1)) = R
  generalize decide (i = 0) = z
  generalize decide (97 ≤ (name[i].toNat : Int)) = a
  generalize decide ((name[i].toNat : Int) ≤ 122) = b
  generalize decide (48 ≤ (name[i].toNat : Int)) = c
  generalize decide ((name[i].toNat : Int) ≤ 57) = d
  generalize decide ((name[i].toNat : Int) = 45) = e
  generalize decide ((name[i].toNat : Int) = 95) = f
  cases a <;> cases b <;> cases c <;> cases d <;> cases e <;> cases f <;> cases z <;> simp
 ·intro s _; simp [aw2, vU]
theorem aW6 {name : Str} (hm : name.length ≤ maxLen) : aH0 name = some (a32 name) := by
 unfold aH0 a32
 by_cases h0 : name = []
 ·simp [h0]
 have h0' : ¬ (List.length name : Int) < 1 := by
  have : name.length ≠ 0 := by simpa using h0
  omega
 by_cases h1 : (32 : Int) < (List.length name : Int)
 ·have : ¬ ((List.length name : Int) ≤ 32) := by omega
  simp [h0, h1, this]
 have h2 : (List.length name : Int) ≤ 32 := by omega
 have := ah3 name.length (fun (s : Unit) i => i) (fun s => at2 name s) (fun i _ => vU (decide (i = 0)) (name.drop i)) (fun _ _ => True) (s0 := ()) trivial ?_ ?_
 ·simp only [h0, h0', h1, h2, decide_true, decide_false, Bool.or_self, false_eq_true, if_false, Bool.not_false, Bool.true_and]
  rw [this]; rfl
 ·intro s i hi _
  simp only [at2, aL3 hi, aK1 hi hm, oB, b75 hi, lowB, ch7]
  have hd : decide ((i : Int) < (List.length name : Int)) = true := by simp [hi]
  have hz : decide ((i : Int) = 0) = decide (i = 0) := by simp
  simp only [hd, hz, if_true]
  generalize vU (decide (i + 1 = 0)) (name.drop (i + 1)) = R
  generalize decide (i = 0) = z
  generalize decide (97 ≤ (name[i].toNat : Int)) = a
  generalize decide ((name[i].toNat : Int) ≤ 122) = b
  generalize decide (48 ≤ (name[i].toNat : Int)) = c
  generalize decide ((name[i].toNat : Int) ≤ 57) = d
  generalize decide ((name[i].toNat : Int) = 45) = e
  generalize decide ((name[i].toNat : Int) = 95) = f
  cases a <;> cases b <;> cases c <;> cases d <;> cases e <;> cases f <;> cases z <;> simp
 ·intro s _; simp [at2, vU]
theorem bA0 : ∀ (a b : Str), (blt a b || decide (a = b)) = !blt b a
 | [], [] => by simp [blt, Op.bytesLess]
 | [], _ :: _ => by simp [blt, Op.bytesLess]
 | _ :: _, [] => by simp [blt, Op.bytesLess]
 | x :: a, y :: b => by
  have ih := bA0 a b
  unfold blt at *
  simp only [Op.bytesLess]
  by_cases h1 : x < y
  ·have h2 : ¬ y < x := by have := UInt8.lt_asymm h1; exact this
   have h3 : ¬ y = x := by rintro rfl; exact UInt8.lt_irrefl _ h1
   simp [h1, h2, h3]
  ·by_cases h2 : y < x
   ·have h3 : ¬ x = y := by rintro rfl; exact UInt8.lt_irrefl _ h2
    simp [h1, h2, h3]
   ·have h3 : x = y := UInt8.le_antisymm (UInt8.not_lt.1 h2) (UInt8.not_lt.1 h1)
    subst h3
    simp only [UInt8.lt_irrefl, decide_false, beq_self_eq_true, Bool.true_and, Bool.false_or, List.cons.injEq, true_and]
    exact ih
def a34 (q : af7) : Bool := decide (q.Files < 0) || (decide (9007199254740991 < q.Files) || (decide (q.Bytes < 0) || decide (9007199254740991 < q.Bytes)))
def gap (p : Option Str) (u : Str) : Bool := match p with | some p => !blt p u | none => false
def chk : Option Str → List af7 → Int
 | _, [] => 0
 | p, q :: r => if a32 q.Uz = false then 25 else if gap p q.Uz = true then 2 else if a34 q = true then 5 else chk (some q.Uz) r
def aQ1 (l : List af7) (i : Nat) : Option Str := if i = 0 then none else (l[i - 1]?).map fun q => q.Uz
def bi1 (l : List af7) : Int := if (64 : Int) < (List.length l : Int) then 22 else chk none l
theorem bV2 (a b : Int) : (decide (min a b < 0) || decide (9007199254740991 < max a b)) = (decide (a < 0) || (decide (9007199254740991 < a) || (decide (b < 0) || decide (9007199254740991 < b)))) := by
 rw [Bool.eq_iff_iff]
 simp only [or_eq_true, dT]
 omega
theorem bk7 {l : List af7} : aP2 l = some (bi1 l) := by
 unfold aP2 bi1
 by_cases h : (64 : Int) < (List.length l : Int)
 ·simp [h]
 have hm : l.length ≤ maxLen := by unfold maxLen; omega
 have := ah3 l.length (fun (s : Unit) i => i) (fun s => au3 l s) (fun i _ => chk (aQ1 l i) (l.drop i)) (fun _ _ => True) (s0 := ()) trivial ?_ ?_
 ·simp only [h, decide_false, false_eq_true, if_false]
  rw [this]; rfl
 ·intro s i hi _
  have hd : decide ((i : Int) < (List.length l : Int)) = true := by simp [hi]
  simp only [au3, aj4 hi, aK1 hi hm, ba1 hi hm, oB, a33, List.drop_eq_getElem_cons hi, chk, hd, if_true, bV2]
  have hp : aQ1 l (i + 1) = some l[i].Uz := by simp [aQ1, hi]
  by_cases hv : a32 l[i].Uz = true
  ·by_cases h0 : i = 0
   ·subst h0
    have hq : aQ1 l 0 = none := rfl
    simp only [gap, hv, hq, hp, if_true, oB, Bool.not_true, false_eq_true, if_false, reduceCtorEq, Int.natCast_zero, Int.lt_irrefl, decide_false]
    cases hb : a34 l[0] <;> unfold a34 at hb <;> simp [hb]
   ·have hpos : (0 : Int) < (i : Int) := by omega
    have hq : aQ1 l i = some (l[i - 1]'(by omega)).Uz := by simp [aQ1, h0, show i - 1 < l.length by omega]
    rw [bx4 hi (by omega)]
    simp only [gap, hv, hq, hp, hpos, decide_true, if_true, oB, Bool.not_true, false_eq_true, if_false, reduceCtorEq, bA0]
    cases blt (l[i - 1]'(by omega)).Uz l[i].Uz with
    | false => simp
    | true =>
     cases hb : a34 l[i] <;> unfold a34 at hb <;> simp [hb]
  ·simp [hv]
 ·intro s _; simp [au3, chk]
theorem bk8 {l : List af7} (hw : ∀ q ∈ l, q.Uz.length ≤ maxLen) : aH2 l = some (bi1 l) := by
 unfold aH2 bi1
 by_cases h : (64 : Int) < (List.length l : Int)
 ·simp [h]
 have hm : l.length ≤ maxLen := by unfold maxLen; omega
 have := ah3 l.length (fun (s : Unit) i => i) (fun s => at3 l s) (fun i _ => chk (aQ1 l i) (l.drop i)) (fun _ _ => True) (s0 := ()) trivial ?_ ?_
 ·simp only [h, decide_false, false_eq_true, if_false]
  rw [this]; rfl
 ·intro s i hi _
  have hd : decide ((i : Int) < (List.length l : Int)) = true := by simp [hi]
  simp only [at3, aj4 hi, aK1 hi hm, ba1 hi hm, oB, aW6 (hw l[i] (getElem_mem hi)), List.drop_eq_getElem_cons hi, chk, hd, if_true]
  have hp : aQ1 l (i + 1) = some l[i].Uz := by simp [aQ1, hi]
  by_cases hv : a32 l[i].Uz = true
  ·by_cases h0 : i = 0
   ·subst h0
    have hq : aQ1 l 0 = none := rfl
    simp only [gap, hv, hq, hp, if_true, oB, Bool.not_true, false_eq_true, if_false, reduceCtorEq, Int.natCast_zero, Int.lt_irrefl, decide_false]
    cases hb : a34 l[0] <;> unfold a34 at hb <;> simp [hb]
   ·have hpos : (0 : Int) < (i : Int) := by omega
    have hq : aQ1 l i = some (l[i - 1]'(by omega)).Uz := by simp [aQ1, h0, show i - 1 < l.length by omega]
    rw [bx4 hi (by omega)]
    simp only [gap, hv, hq, hp, hpos, decide_true, if_true, oB, Bool.not_true, false_eq_true, if_false, reduceCtorEq]
    cases blt (l[i - 1]'(by omega)).Uz l[i].Uz with
    | false => simp
    | true =>
     cases hb : a34 l[i] <;> unfold a34 at hb <;> simp [hb]
  ·simp [hv]
 ·intro s _; simp [at3, chk]
def us (l : List ab7) (i : Nat) : ab7 := l.getD i default
theorem bG7 {l : List ab7} {i : Nat} (h : i < l.length) : ag1 l (i : Int) = some (us l i) := by
 rw [aj4 h]; simp [us, getD, gE h]
theorem bA1 {l : List ab7} {i : Nat} (h : i < l.length) : l[i] = us l i := by simp [us, getD, gE h]
def isU (name : Str) (u : ab7) : Bool := decide (u.Mz = name)
def b95 (l : List ab7) (name : Str) : Bool := l.any (isU name)
theorem cq8 {l : List ab7} {name : Str} (hl : l.length ≤ 64) : aO4 l name = some (aQ4 (isU name) l) := by
 unfold aO4
 refine a28 (by omega) ?_ ?_
 ·intro i hi
  unfold aO3
  rw [iP (dlt hi), aj4 hi, oB]
  rfl
 ·unfold aO3
  rw [iN (by simp)]
theorem bN1 {l : List ab7} {name : Str} : decide (aQ4 (isU name) l < 0) = !b95 l name := by
 rw [show b95 l name = decide (0 ≤ aQ4 (isU name) l) from (cf3 _ _).symm]
 by_cases h : aQ4 (isU name) l < 0
 ·simp [h]
 ·simp [h]; omega
theorem b76 {α : Type} {p : α → Bool} : ∀ {l : List α} {j : Nat} (h : j < l.length), p l[j] = true → aQ4 p l ≤ (j : Int)
 | a :: r, 0, _, hp => by
  rw [a27 (by simpa using hp)]; simp
 | a :: r, j + 1, h, hp => by
  by_cases ha : p a = true
  ·rw [a27 ha]; omega
  ·rw [aM2 ha]
   have := b76 (l := r) (j := j) (by simpa using h) (by simpa using hp)
   split <;> omega
def mb (ms : List Str) (k : Nat) : Str := ms.getD k []
theorem bt0 {ms : List Str} {i : Nat} (h : i < ms.length) : ag1 ms (i : Int) = some (mb ms i) := by
 rw [aj4 h]; simp [mb, getD, gE h]
def bV3 (l : List ab7) (ms : List Str) (k : Nat) : Prop := b95 l (mb ms k) = true ∧ (0 < k → blt (mb ms (k - 1)) (mb ms k) = true)
structure OkU (l : List ab7) (i : Nat) : Prop where
 valid : a32 (us l i).Mz = true
 fresh : ∀ j, j < i → (us l j).Mz ≠ (us l i).Mz
 lead : (us l i).Leader = [] ∨ b95 l (us l i).Leader = true
 mem : ∀ k, k < (us l i).Members.length → bV3 l (us l i).Members k
open Classical in
theorem bG8 {l : List ab7} {u : ab7} (hl : l.length ≤ 64) (hm : u.Members.length ≤ maxLen) : ae0 (fun s => ak3 l u s) 0 = some (if ∀ k, 0 ≤ k → k < u.Members.length → bV3 l u.Members k then 0 else 26) := by
 refine ah3 u.Members.length (fun (_ : Unit) i => i) (fun s => ak3 l u s) (fun i _ => if ∀ k, i ≤ k → k < u.Members.length → bV3 l u.Members k then 0 else 26) (fun _ _ => True) (s0 := ()) trivial ?_ ?_
 ·intro _ i hi _
  unfold ak3
  rw [iP (dlt hi), bt0 hi, oB, cq8 hl, oB, bN1]
  have step : bV3 l u.Members i → ((∀ k, i ≤ k → k < u.Members.length → bV3 l u.Members k) ↔ ∀ k, i + 1 ≤ k → k < u.Members.length → bV3 l u.Members k) := fun hg => by
   constructor
   ·intro h k a b; exact h k (by omega) b
   ·intro h k a b
    by_cases hk : k = i
    ·subst hk; exact hg
    ·exact h k (by omega) b
  cases hh : b95 l (mb u.Members i) with
  | false =>
   right
   rw [iP (by rfl), oB, iP rfl, iN]
   intro h
   have := (h i (le_refl _) hi).1
   rw [hh] at this; cases this
  | true =>
   rw [iN (by decide)]
   by_cases h0 : 0 < i
   ·have hp : ((i : Int) - 1) = ((i - 1 : Nat) : Int) := by omega
    rw [iP (by rw [dT]; omega), ba1 hi hm, hp, bt0 (by omega), oB, oB, oB]
    cases hb : blt (mb u.Members (i - 1)) (mb u.Members i) with
    | false =>
     right
     rw [iP (by rfl), iN]
     intro h
     have := (h i (le_refl _) hi).2 h0
     rw [hb] at this; cases this
    | true =>
     left
     rw [iN (by decide), aK1 hi hm]
     refine ⟨(), rfl, ?_, trivial⟩
     simp only [step ⟨hh, fun _ => hb⟩]
   ·left
    rw [iN (by rw [dT]; omega), oB, iN (by decide), aK1 hi hm]
    refine ⟨(), rfl, ?_, trivial⟩
    simp only [step ⟨hh, fun h => absurd h h0⟩]
 ·intro _ _
  unfold ak3
  rw [iN (by simp), iP]
  intro k a b; omega
theorem bG9 {l : List ab7} {i : Nat} (hi : i < l.length) (hl : l.length ≤ 64) (hn : (us l i).Mz.length ≤ maxLen) (hm : (us l i).Members.length ≤ maxLen) : ∃ e, av2 l (i : Int) = some e ∧ (e = 0 → OkU l i) := by
 unfold av2
 rw [bG7 hi, oB, aW6 hn, oB]
 cases hv : a32 (us l i).Mz with
 | false => exact ⟨25, by rw [iP (by rfl)], fun h => by cases h⟩
 | true =>
  rw [iN (by decide), cq8 hl, oB]
  by_cases hf : aQ4 (isU (us l i).Mz) l < (i : Int)
  ·exact ⟨7, by rw [iP (by rw [dT]; exact hf)], fun h => by cases h⟩
  ·rw [iN (by rw [dT]; exact hf)]
   have fresh : ∀ j, j < i → (us l j).Mz ≠ (us l i).Mz := fun j hj he => by
    have := b76 (p := isU (us l i).Mz) (l := l) (j := j) (by omega) (by rw [bA1 (by omega)]; simpa [isU] using he)
    omega
   have lead : (if (!decide ((us l i).Leader = [])) = true then (aO4 l (us l i).Leader).bind fun x7 => some (decide (x7 < 0)) else some false) = some (!(decide ((us l i).Leader = []) || b95 l (us l i).Leader)) := by
    by_cases h : (us l i).Leader = []
    ·rw [iN (by simp [h])]; simp [h]
    ·rw [iP (by simp [h]), cq8 hl, oB, bN1]; simp [h]
   rw [lead, oB]
   cases hd : (decide ((us l i).Leader = []) || b95 l (us l i).Leader) with
   | false => exact ⟨26, by rw [iP (by rfl)], fun h => by cases h⟩
   | true =>
    rw [iN (by decide), bG8 hl hm]
    refine ⟨_, rfl, fun h => ⟨hv, fresh, by simpa using hd, fun k hk => ?_⟩⟩
    split at h
    ·rename_i q; exact q k (Nat.zero_le _) hk
    ·cases h
structure OkUs (l : List ab7) : Prop where
 len : l.length ≤ 64
 ok : ∀ i, i < l.length → OkU l i
theorem bk9 {l : List ab7} (hn : ∀ u ∈ l, u.Mz.length ≤ maxLen ∧ u.Members.length ≤ maxLen) : ∃ e, aH1 l = some e ∧ (e = 0 → OkUs l) := by
 unfold aH1
 by_cases h : (64 : Int) < (List.length l : Int)
 ·exact ⟨22, by rw [iP (by rw [dT]; exact h)], fun h => by cases h⟩
 rw [iN (by rw [dT]; exact h)]
 have hl : l.length ≤ 64 := by omega
 have hat : ∀ i, i < l.length → ∃ e, av2 l (i : Int) = some e ∧ (e = 0 → OkU l i) := fun i hi => by
  have hu := hn l[i] (getElem_mem hi)
  rw [bA1 hi] at hu
  exact bG9 hi hl hu.1 hu.2
 have key : ∀ (k i : Nat), i + k = l.length → (∀ j, j < i → OkU l j) → ∃ e, ae0 (fun s => ar2 l s) (i : Int) = some e ∧ (e = 0 → OkUs l) := by
  intro k
  induction k with
  | zero =>
   intro i hi hj
   refine ⟨0, ab5 ?_, fun _ => ⟨hl, fun j h => hj j (by omega)⟩⟩
   unfold ar2
   rw [iN (by rw [dT]; omega)]
  | succ k ih =>
   intro i hi hj
   obtain ⟨e, he, h0⟩ := hat i (by omega)
   by_cases hz : e = 0
   ·obtain ⟨r, hr, hr2⟩ := ih (i + 1) (by omega) (fun j h => by
     by_cases hji : j = i
     ·subst hji; exact h0 hz
     ·exact hj j (by omega))
    refine ⟨r, (ac0 ?_).trans hr, hr2⟩
    unfold ar2
    rw [iP (dlt (by omega)), he, oB, iN (by simp [hz]), ah6 (by omega)]
    rfl
   ·refine ⟨e, ab5 ?_, fun h => absurd h hz⟩
    unfold ar2
    rw [iP (dlt (by omega)), he, oB, iP (by simp [hz])]
 exact key l.length 0 (by omega) (fun j h => by omega)
theorem bV4 {ms : List Str} {m : ap6 Str} (hl : ms.length ≤ maxLen) (h : ∀ k, k < ms.length → aq8 m (mb ms k) ≠ 0 ∧ (0 < k → blt (mb ms (k - 1)) (mb ms k) = true)) : aw3 ms m = some (0, m) := by
 unfold aw3
 refine ah3 ms.length (fun (_ : Unit) i => i) (fun s => ap4 ms m s) (fun _ _ => (0, m)) (fun _ _ => True) (s0 := ()) trivial ?_ ?_
 ·intro _ i hi _
  left
  obtain ⟨h1, h2⟩ := h i hi
  refine ⟨(), ?_, rfl, trivial⟩
  unfold ap4
  rw [iP (dlt hi), bt0 hi, oB, iN (by rw [dT]; exact h1)]
  by_cases h0 : 0 < i
  ·have hp : ((i : Int) - 1) = ((i - 1 : Nat) : Int) := by omega
   rw [iP (by rw [dT]; omega), ba1 hi hl, hp, bt0 (by omega), oB, oB, h2 h0, iN (by decide), aK1 hi hl]
  ·rw [iN (by rw [dT]; omega), oB, iN (by decide), aK1 hi hl]
 ·intro _ _
  unfold ap4
  rw [iN (by simp)]
def InvA (l : List ab7) (i : Nat) (m : ap6 Str) : Prop := ∀ k, 0 ≤ aq8 m k ∧ aq8 m k ≤ i ∧ ∀ j, j < i → (us l j).Mz = k → 1 ≤ aq8 m k
def InvS (l : List ab7) (i : Nat) (m : ap6 Str) : Prop := ∀ k, 0 ≤ aq8 m k ∧ aq8 m k ≤ i ∧ ((∀ j, j < i → (us l j).Mz ≠ k) → aq8 m k = 0)
theorem bV5 {l : List ab7} (h : OkUs l) (hm : ∀ u ∈ l, u.Members.length ≤ maxLen) : aU5 l = some 0 := by
 have hl := h.len
 unfold aU5
 rw [iN (by rw [dT]; omega)]
 refine ah3 l.length (fun (m : ap6 Str) i => (i, m)) (fun s => az0 l s.1 s.2) (fun _ _ => 0) (fun i m => InvA l i m) (s0 := ([], 0)) (fun k => ⟨Int.le_refl _, Int.le_refl _, fun j hj => by omega⟩) ?_ ?_
 ·intro m i hi inv
  left
  have hk := inv (us l i).Mz
  refine ⟨a55 m (us l i).Mz (aq8 m (us l i).Mz + 1), ?_, rfl, fun k => ?_⟩
  ·unfold az0
   simp only
   rw [iP (dlt hi), bG7 hi, oB, ah6 (by omega), ac9 (by omega) (by omega)]
  ·rw [aS7]
   have := inv k
   split
   ·rename_i e
    subst e
    exact ⟨by omega, by omega, fun j hj he => by omega⟩
   ·rename_i e
    refine ⟨this.1, by omega, fun j hj he => this.2.2 j ?_ he⟩
    have : j ≠ i := by rintro rfl; exact e he
    omega
 ·intro m inv
  unfold az0
  simp only
  rw [iN (by simp)]
  have inner : ae0 (fun s => ar4 l s.1 s.2.1 s.2.2) (0, m, (([], 0) : ap6 Str)) = some 0 := by
   refine ah3 l.length (fun (q : ap6 Str) i => (i, m, q)) (fun s => ar4 l s.1 s.2.1 s.2.2) (fun _ _ => 0) (fun i q => InvS l i q) (s0 := ([], 0)) (fun k => ⟨Int.le_refl _, Int.le_refl _, fun _ => rfl⟩) ?_ ?_
   ·intro q i hi inq
    left
    have ok := h.ok i hi
    have hu := hm l[i] (getElem_mem hi)
    rw [bA1 hi] at hu
    have hz := (inq (us l i).Mz).2.2 ok.fresh
    have hhas : ∀ name, b95 l name = true → aq8 m name ≠ 0 := fun name hn => by
     unfold b95 at hn
     obtain ⟨u, hu1, hu2⟩ := List.any_eq_true.1 hn
     obtain ⟨j, hj, rfl⟩ := getElem_of_mem hu1
     have := (inv name).2.2 j hj (by rw [bA1 hj] at hu2; simpa [isU] using hu2)
     omega
    refine ⟨a55 q (us l i).Mz (aq8 q (us l i).Mz + 1), ?_, rfl, fun k => ?_⟩
    ·unfold ar4
     simp only
     rw [iP (dlt hi), bG7 hi, oB, a33, oB, ok.valid, iN (by decide), iN (by rw [dT, hz]; decide)]
     rw [iN (by
      rcases ok.lead with hd | hd
      ·simp [hd]
      ·simp [hhas _ hd])]
     rw [bV4 hu (fun k hk => ⟨hhas _ (ok.mem k hk).1, (ok.mem k hk).2⟩), oB, iN (by simp), ah6 (by omega), hz]
     rfl
    ·rw [aS7]
     have := inq k
     split
     ·rename_i e
      subst e
      exact ⟨by omega, by omega, fun hh => absurd rfl (hh i (by omega))⟩
     ·rename_i e
      exact ⟨this.1, by omega, fun hh => this.2.2 fun j hj => hh j (by omega)⟩
   ·intro q _
    unfold ar4
    simp only
    rw [iN (by simp)]
  rw [inner]; rfl
theorem cq9 {α : Type} {p : α → Bool} {l : List α} (h : 0 ≤ aQ4 p l) : ∃ i, ∃ hi : i < l.length, aQ4 p l = (i : Int) ∧ p l[i] = true := by
 cases hf : l.find? p with
 | none => rw [bs3 hf] at h; exact absurd h (by decide)
 | some b =>
  obtain ⟨i, hi, h1, h2⟩ := ba7 hf
  exact ⟨i, hi, h1, by rw [h2]; exact List.find?_some hf⟩
theorem bV6 {t : aa3} (hl : t.Nodes.length ≤ 1024) (id : Int) : aH3 t id = some (aQ4 (fun n : aa1 => decide (n.Id = id)) t.Nodes) := by
 unfold aH3
 refine a28 (by omega) ?_ ?_
 ·intro i hi
  unfold aB6
  rw [iP (dlt hi), aj4 hi, oB]
 ·unfold aB6
  rw [iN (by simp)]
def ex (l : List Int) (i : Nat) : Int := l.getD i 0
theorem bt1 {l : List Int} {i : Nat} (h : i < l.length) : ag1 l (i : Int) = some (ex l i) := by
 rw [aj4 h]; simp [ex, getD, gE h]
structure OkX (s : ab6) (i : Nat) : Prop where
 node : ∃ k, k < s.Tree.Nodes.length ∧ (nd s.Tree.Nodes k).Id = ex s.Excl i ∧ (nd s.Tree.Nodes k).Mode / 536870912 % 2 = 1
 rise : 0 < i → ex s.Excl (i - 1) < ex s.Excl i
theorem cy0 {m : Int} (h0 : 0 ≤ m) (h1 : m < 4294967296) : aS2 m 536870912 = some (decide (m / 536870912 % 2 = 1)) := by
 unfold aS2 quoI
 rw [iP (by simpa using h0), iN (by decide), oB, oB, Int.tdiv_eq_ediv_of_nonneg h0, ac9 (by omega) (by omega), Int.tmod_eq_emod_of_nonneg (by omega)]
theorem bA2 {m : Int} (h0 : 0 ≤ m) (h1 : m < 4294967296) (h : m / 536870912 % 2 = 1) : aw6 m 536870912 = some true := by
 obtain ⟨n, rfl⟩ := Int.eq_ofNat_of_zero_le h0
 have hb : (ofInt (IntKind.bits .i64) (n : Int) &&& ofInt (IntKind.bits .i64) 536870912).toNat = 536870912 := by
  have hb' : (BitVec.ofNat 64 n &&& BitVec.ofNat 64 (2 ^ 29)).toNat = 536870912 := by
   rw [BitVec.toNat_and, toNat_ofNat, toNat_ofNat, Nat.mod_eq_of_lt (by omega), Nat.mod_eq_of_lt (by decide)]
   have hd : n / 2 ^ 29 % 2 = 1 := by
    rw [show (2 : Nat) ^ 29 = 536870912 by decide]
    omega
   have h1 : (n &&& 2 ^ 29).testBit 29 = true := by
    rw [Nat.testBit_and, Nat.testBit_two_pow_self, Bool.and_true, Nat.testBit_eq_decide_div_mod_eq]
    exact decide_eq_true hd
   have h2 : 2 ^ 29 ≤ n &&& 2 ^ 29 := Nat.ge_two_pow_of_testBit h1
   have h3 : n &&& 2 ^ 29 ≤ 2 ^ 29 := Nat.and_le_right
   have h4 := Nat.le_antisymm h3 h2
   rw [h4]
  exact hb'
 unfold aw6
 rw [hb]
 have : decide ((0 : Int) ≤ (n : Int)) = true := by simp
 rw [this]
 rfl
theorem bH0 {f : ab6} (hu : ∀ u ∈ f.Users, u.Mz.length ≤ maxLen ∧ u.Members.length ≤ maxLen) (hq : ∀ q ∈ f.Quotas, q.Uz.length ≤ maxLen) (hn : ∀ n ∈ f.Tree.Nodes, n.Mz.length ≤ 1000) (hl : f.Tree.Nodes.length ≤ 1024) (hx : f.Excl.length ≤ 20) :
  ∃ b, aH4 f = some b ∧ (b = true → OkUs f.Users ∧ bi1 f.Quotas = 0 ∧ RightT f.Tree ∧ ∀ i, i < f.Excl.length → OkX f i) := by
 unfold aH4
 obtain ⟨e, he, he2⟩ := bk9 hu
 rw [he, oB]
 by_cases h0 : ¬ e = 0
 ·rw [iP (by simp [h0]), oB, iP rfl]; exact ⟨false, rfl, fun h => by cases h⟩
 have h0 := Decidable.not_not.1 h0
 rw [iN (by simp [h0]), bk8 hq, oB]
 by_cases h1 : ¬ bi1 f.Quotas = 0
 ·rw [iP (by simp [h1]), oB, iP rfl]; exact ⟨false, rfl, fun h => by cases h⟩
 have h1 := Decidable.not_not.1 h1
 rw [iN (by simp [h1])]
 obtain ⟨c, hc, hc2⟩ := bG6 f.Tree hn hl
 rw [hc, oB, oB]
 cases c with
 | false => rw [iP (by decide)]; exact ⟨false, rfl, fun h => by cases h⟩
 | true =>
  rw [iN (by decide)]
  have hr := hc2 rfl
  have key : ∀ (k i : Nat), i + k = f.Excl.length → (∀ j, j < i → OkX f j) → ∃ b, ae0 (fun s => ah4 f s) (i : Int) = some b ∧ (b = true → ∀ i, i < f.Excl.length → OkX f i) := by
   intro k
   induction k with
   | zero =>
    intro i hi hj
    refine ⟨true, ab5 ?_, fun _ j h => hj j (by omega)⟩
    unfold ah4
    rw [iN (by rw [dT]; omega)]
   | succ k ih =>
    intro i hi hj
    have hil : i < f.Excl.length := by omega
    have bad : (ah4 f (i : Int) = some (.done false)) → ∃ b, ae0 (fun s => ah4 f s) (i : Int) = some b ∧ (b = true → ∀ i, i < f.Excl.length → OkX f i) := fun h => ⟨false, ab5 h, fun h => by cases h⟩
    have good : (ah4 f (i : Int) = some (.cont (wrap .i64 ((i : Int) + 1)))) → OkX f i → ∃ b, ae0 (fun s => ah4 f s) (i : Int) = some b ∧ (b = true → ∀ i, i < f.Excl.length → OkX f i) := fun h ok => by
     obtain ⟨b, hb, hb2⟩ := ih (i + 1) (by omega) (fun j h => by
      by_cases hji : j = i
      ·subst hji; exact ok
      ·exact hj j (by omega))
     refine ⟨b, (ac0 (s' := ((i + 1 : Nat) : Int)) ?_).trans hb, hb2⟩
     rw [h, ah6 (by omega)]; rfl
    have hi0 : ah4 f (i : Int) = (aF7 f.Tree (ex f.Excl i)).bind fun x20 => (if (!x20.2) then some true else (aS2 x20.1.Mode 536870912).bind fun x22 => if (!x22) then some true else if (decide (0 < (i : Int))) then (ag1 f.Excl (wrap .i64 ((i : Int) - 1))).bind fun x25 => (ag1 f.Excl (i : Int)).bind fun x26 => some (decide (x26 ≤ x25)) else some false).bind fun t27 => if t27 then some (.done false) else some (.cont (wrap .i64 ((i : Int) + 1))) := by
     unfold ah4
     rw [iP (dlt hil), bt1 hil, oB]
    have hnode : aF7 f.Tree (ex f.Excl i) = if aQ4 (fun n : aa1 => decide (n.Id = ex f.Excl i)) f.Tree.Nodes < 0 then some ((aa1.mk 0 0 0 [] 0 [] [] [] 0 0 []), false) else (ag1 f.Tree.Nodes (aQ4 (fun n : aa1 => decide (n.Id = ex f.Excl i)) f.Tree.Nodes)).bind fun x3 => some (x3, true) := by
     unfold aF7
     rw [bV6 hl, oB]
     simp only [dT]
    by_cases hneg : aQ4 (fun n : aa1 => decide (n.Id = ex f.Excl i)) f.Tree.Nodes < 0
    ·refine bad ?_
     rw [hi0, hnode, iP hneg, oB, iP (by decide), oB, iP rfl]
    ·obtain ⟨p, hp, hp1, hp2⟩ := cq9 (p := fun n : aa1 => decide (n.Id = ex f.Excl i)) (l := f.Tree.Nodes) (by omega)
     have hpid : (nd f.Tree.Nodes p).Id = ex f.Excl i := by rw [a89 hp] at hp2; simpa using hp2
     have hm := (hr.fields hp).mode
     rw [iN hneg, hp1, aD6 hp, oB] at hnode
     rw [hnode, oB, iN (by simp)] at hi0
     rw [cy0 hm.1 hm.2.1, oB] at hi0
     by_cases hbit : (nd f.Tree.Nodes p).Mode / 536870912 % 2 = 1
     ·rw [decide_eq_true hbit, iN (by decide)] at hi0
      by_cases hz : 0 < i
      ·have hpr : ((i : Int) - 1) = ((i - 1 : Nat) : Int) := by omega
       rw [iP (by rw [dT]; omega), ac9 (by omega) (by omega), hpr, bt1 (by omega), oB, bt1 hil, oB, oB] at hi0
       by_cases hle : ex f.Excl i ≤ ex f.Excl (i - 1)
       ·refine bad ?_
        rw [hi0, iP (by simpa using hle)]
       ·refine good ?_ ⟨⟨p, hp, hpid, hbit⟩, fun _ => by omega⟩
        rw [hi0, iN (by simpa using hle)]
      ·rw [iN (by rw [dT]; omega), oB, iN (by decide)] at hi0
       exact good hi0 ⟨⟨p, hp, hpid, hbit⟩, fun h => absurd h hz⟩
     ·refine bad ?_
      rw [hi0, decide_eq_false hbit, iP (by decide), oB, iP rfl]
  obtain ⟨b, hb, hb2⟩ := key f.Excl.length 0 (by omega) (fun j h => by omega)
  exact ⟨b, hb, fun h => ⟨he2 h0, h1, hr, hb2 h⟩⟩
theorem bt2 {f : ab6} (hu : OkUs f.Users) (hm : ∀ u ∈ f.Users, u.Members.length ≤ maxLen) (hq : bi1 f.Quotas = 0) (hr : RightT f.Tree) (hx : ∀ i, i < f.Excl.length → OkX f i) (hl : f.Excl.length ≤ 20) : az1 f = some true := by
 unfold az1
 rw [bV5 hu hm, oB, iN (by decide), bk7, oB, hq, iN (by decide), aV0 hr, oB, oB, iN (by decide)]
 refine ah3 f.Excl.length (fun (q : Int) i => (q, i)) (fun s => ap5 f s.1 s.2) (fun _ _ => true) (fun i q => if i = 0 then q = 0 else q = ex f.Excl (i - 1)) (s0 := 0) (by simp) ?_ ?_
 ·intro q i hi inv
  left
  obtain ⟨⟨k, k1, k2, k3⟩, rise⟩ := hx i hi
  have hmd := (hr.fields k1).mode
  refine ⟨ex f.Excl i, ?_, rfl, by rw [iN (by omega)]; rfl⟩
  unfold ap5
  simp only
  rw [iP (dlt hi), bt1 hi, oB, ← k2, bs8 hr k1, oB, iN (by simp), bA2 hmd.1 hmd.2.1 k3, oB, iN (by decide), oB]
  rw [iN (by
   rw [dT]
   have := hr.id_lt k1
   split at inv
   ·omega
   ·have := rise (by omega)
    omega), ah6 (by omega)]
 ·intro q _
  unfold ap5
  simp only
  rw [iN (by simp)]
theorem bA3 : ∀ {a b c : Str}, blt a b = true → blt b c = true → blt a c = true
 | _, [], _, h, _ => by simp [blt, Op.bytesLess] at h
 | _, _ :: _, [], _, h => by simp [blt, Op.bytesLess] at h
 | [], _ :: _, _ :: _, _, _ => by simp [blt, Op.bytesLess]
 | x :: a, y :: b, z :: c, h1, h2 => by
  have ih := @bA3 a b c
  unfold blt at *
  simp only [Op.bytesLess, or_eq_true, dT, bA, beq_iff_eq] at *
  rcases h1 with h1 | ⟨rfl, h1⟩
  ·rcases h2 with h2 | ⟨rfl, h2⟩
   ·exact .inl (UInt8.lt_trans h1 h2)
   ·exact .inl h1
  ·rcases h2 with h2 | ⟨rfl, h2⟩
   ·exact .inl h2
   ·exact .inr ⟨rfl, ih h1 h2⟩
theorem bo8 : ∀ (a : Str), blt a a = false
 | [] => rfl
 | x :: a => by
  have ih := bo8 a
  unfold blt at *
  simp [Op.bytesLess, ih, UInt8.lt_irrefl]
theorem bN2 {α : Type} [BEq α] [LawfulBEq α] : ∀ {a b : List α}, a.Nodup → (∀ x ∈ a, x ∈ b) → a.length ≤ b.length
 | [], b, _, _ => by simp
 | x :: r, b, h, hb => by
  obtain ⟨h1, h2⟩ := List.nodup_cons.1 h
  have hx := hb x (by simp)
  have := bN2 (a := r) (b := b.erase x) h2 fun y hy => (List.mem_erase_of_ne (by rintro rfl; exact h1 hy)).2 (hb y (by simp [hy]))
  have hl := List.length_erase_of_mem hx
  have : 0 < b.length := List.length_pos_of_mem hx
  simp only [length_cons]
  omega
theorem b77 {ms : List Str} {k : Nat} (h : k < ms.length) : ms[k] = mb ms k := by simp [mb, getD, gE h]
theorem OkUs.few {l : List ab7} (h : OkUs l) : ∀ u ∈ l, u.Members.length ≤ 64 := by
 intro u hu
 obtain ⟨i, hi, rfl⟩ := getElem_of_mem hu
 rw [bA1 hi]
 have ok := (h.ok i hi).mem
 have lt : ∀ (d a : Nat), a + 1 + d < (us l i).Members.length → blt (mb (us l i).Members a) (mb (us l i).Members (a + 1 + d)) = true := by
  intro d
  induction d with
  | zero => intro a ha; have := (ok (a + 1) (by omega)).2 (by omega); simpa using this
  | succ d ih =>
   intro a ha
   have h1 := ih a (by omega)
   have h2 := (ok (a + 1 + (d + 1)) ha).2 (by omega)
   rw [show a + 1 + (d + 1) - 1 = a + 1 + d by omega] at h2
   exact bA3 h1 h2
 have hnd : (us l i).Members.Nodup := by
  rw [List.nodup_iff_pairwise_ne, List.pairwise_iff_getElem]
  intro a b ha hb hab he
  have := lt (b - a - 1) a (by omega)
  rw [show a + 1 + (b - a - 1) = b by omega, ← b77 ha, ← b77 hb, he, bo8] at this
  cases this
 have := bN2 (b := l.map fun u => u.Mz) hnd fun x hx => by
  obtain ⟨k, hk, rfl⟩ := getElem_of_mem hx
  have := (ok k hk).1
  unfold b95 at this
  obtain ⟨v, hv, he⟩ := List.any_eq_true.1 this
  rw [b77 hk]
  exact List.mem_map.2 ⟨v, hv, by simpa [isU] using he⟩
 have hl := h.len
 simp only [List.length_map] at this
 omega
theorem bV7 {l : List ab7} (h : l.length ≤ 1000) : ac6 l = some l := by
 unfold ac6
 rw [ag0 (by simp; omega) (by simp; omega)]; rfl
theorem bH1 {l : List af7} (h : l.length ≤ 1000) : ac2 l = some l := by
 unfold ac2
 rw [ag0 (by simp; omega) (by simp; omega)]; rfl
theorem bV8 {l : List aa1} (h : l.length ≤ 1000) : ac7 l = some l := by
 unfold ac7
 rw [ag0 (by simp; omega) (by simp; omega)]; rfl
theorem b78 {l : List Int} (h : l.length ≤ 1000) : ah0 l = some l := by
 unfold ah0
 rw [ag0 (by simp; omega) (by simp; omega)]; rfl
theorem bV9 {l : List ak9} (h : l.length ≤ 1000) : ac8 l = some l := by
 unfold ac8
 rw [ag0 (by simp; omega) (by simp; omega)]; rfl
theorem b79 {l : List Str} (h : l.length ≤ 8000000000000) : ae1 l = some l := by
 unfold ae1
 rw [ag0 (by simp; omega) (by simp; omega)]; rfl
theorem b80 {f : ab6} (hu : f.Users.length ≤ 1000) (hm : ∀ u ∈ f.Users, u.Members.length ≤ 1000) (hq : f.Quotas.length ≤ 1000) (hn : f.Tree.Nodes.length ≤ 1000) (hx : f.Excl.length ≤ 1000) : ai8 f = some f := by
 unfold ai8
 rw [bV7 hu, oB]
 refine ah3 f.Users.length (fun (v : List ab7) i => (i, v)) (fun s => ai4 f f.Users s.1 s.2) (fun _ _ => f) (fun _ v => v = f.Users) (s0 := f.Users) rfl ?_ ?_
 ·rintro v i hi rfl
  left
  refine ⟨f.Users, ?_, rfl, rfl⟩
  unfold ai4
  simp only
  have := hm f.Users[i] (getElem_mem hi)
  rw [iP (dlt hi), aj4 hi, oB, b79 (by omega), oB, oB, ah6 (by omega), Int.toNat_natCast]
  rw [show ({ f.Users[i] with Members := f.Users[i].Members } : ab7) = f.Users[i] from rfl, List.set_getElem_self]
 ·rintro v rfl
  unfold ai4 ao8
  simp only
  rw [iN (by simp), bH1 hq, oB, bV8 hn, oB, b78 hx, oB]
  rfl
structure Few (f : ab6) : Prop where
 users : f.Users.length ≤ 1000
 mem : ∀ u ∈ f.Users, u.Members.length ≤ 1000
 quotas : f.Quotas.length ≤ 1000
 nodes : f.Tree.Nodes.length ≤ 1000
 excl : f.Excl.length ≤ 1000
theorem Few.eq {f : ab6} (h : Few f) : ai8 f = some f := b80 h.users h.mem h.quotas h.nodes h.excl
theorem bW0 {f : ab6} (h : Few f) : ax3 f 400 = some ⟨f, ⟨400, []⟩, []⟩ := by
 unfold ax3
 rw [h.eq, oB, cl9, oB]
theorem aF1 {f : ab6} (h : Few f) : ai5 ⟨f, ⟨400, []⟩, []⟩ = some ⟨f, ⟨400, []⟩, []⟩ := by
 unfold ai5
 simp only
 rw [h.eq, oB, bh3 (by simp), oB, bV9 (by simp), oB]
theorem cr0 {f : ab6} (h : Few f) (hs : Sm f.Tree) (now : Int) : ∃ s e, au9 ⟨f, ⟨400, []⟩, []⟩ now = some (s, e) ∧
  (e ≠ 0 ∨ (e = 0 ∧ 0 ≤ now ∧ now ≤ 1099511627776 ∧ ∃ st, cx9 f.Tree st ∧ s = ⟨f, st, [⟨now, ae9 4 (aM5 f.Tree)⟩]⟩)) := by
 unfold au9
 simp only
 rw [iN (by simp)]
 by_cases h0 : now < 0
 ·rw [iP (by simpa using h0), oB, iP rfl, aF1 h, oB]
  exact ⟨_, _, rfl, .inl (by decide)⟩
 by_cases h1 : 1099511627776 < now
 ·rw [iN (by simpa using h0), iP (by simpa using h1), oB, iP rfl, aF1 h, oB]
  exact ⟨_, _, rfl, .inl (by decide)⟩
 rw [iN (by simpa using h0), iN (by simpa using h1), iN (by simp), oB, iN (by decide)]
 obtain ⟨st, sc, e, q1, q2⟩ := bV1 hs
 rw [q1, oB]
 rcases q2 with rfl | ⟨rfl, rfl, q3⟩
 ·rw [iP (by simp), aF1 h, oB]
  exact ⟨_, _, rfl, .inl (by simp)⟩
 ·rw [iN (by simp), aF1 h, oB, ag0 (by simp) (by simp), oB]
  exact ⟨_, _, rfl, .inr ⟨rfl, by omega, by omega, st, q3, rfl⟩⟩
def ba8 (b : aa4) : Str := [102, 115, 98, 49] ++ aD8 1 b.Kind ++ aV4 2 b.Data.length ++ b.Score ++ b.Data
def aM6 (l : List aa4) : Str := l.flatMap ba8
structure OkB (b : aa4) : Prop where
 kind : 1 ≤ b.Kind ∧ b.Kind ≤ 4
 data : b.Data.length ≤ 1024
 made : b = mkB b.Kind b.Data
theorem GoodB.okB {l : List aa4} (h : GoodB l) : ∀ b ∈ l, OkB b := fun b hb => by
 obtain ⟨k, d, h1, h2, rfl⟩ := h.2 b hb
 exact ⟨h1, h2, rfl⟩
theorem OkB.score {b : aa4} (h : OkB b) : b.Score.length = 32 := by rw [h.made]; exact aA8 _ _
theorem a35 {b : aa4} (h : OkB b) : (ba8 b).length = 39 + b.Data.length := by
 simp only [ba8, length_append, ae7, ak5, h.score, length_cons, length_nil]
theorem aV1 : ∀ {l : List aa4}, (∀ b ∈ l, OkB b) → (aM6 l).length ≤ 1063 * l.length
 | [], _ => by simp [aM6]
 | b :: r, h => by
  have ih := aV1 (l := r) fun x hx => h x (by simp [hx])
  have hb := h b (by simp)
  have h1 := a35 hb
  have h2 := hb.data
  unfold aM6 at *
  simp only [List.flatMap_cons, length_append, length_cons]
  omega
theorem bi2 {l : List aa4} {i : Nat} (h : i < l.length) : aM6 (l.take (i + 1)) = aM6 (l.take i) ++ ba8 l[i] := by
 unfold aM6
 rw [List.take_succ_eq_append_getElem h, List.flatMap_append]; simp
theorem b81 (l : List aa4) (i : Nat) : (aM6 l).drop (aM6 (l.take i)).length = aM6 (l.drop i) := by
 have : aM6 l = aM6 (l.take i) ++ aM6 (l.drop i) := by
  unfold aM6
  rw [← List.flatMap_append, List.take_append_drop]
 rw [this, List.drop_left]
theorem cy1 {s : aa0} (h : ∀ b ∈ s.Blocks, OkB b) (hl : s.Blocks.length ≤ 400) : a25 s = some (aM6 s.Blocks) := by
 unfold a25
 refine ah3 s.Blocks.length (fun (v : Str) i => (i, v)) (fun q => ay4 s q.1 q.2) (fun _ _ => aM6 s.Blocks) (fun i v => v = aM6 (s.Blocks.take i)) (s0 := []) rfl ?_ ?_
 ·rintro v i hi rfl
  left
  have ok := h s.Blocks[i] (getElem_mem hi)
  have hlen := aV1 (l := s.Blocks.take i) fun b hb => h b (List.mem_of_mem_take hb)
  have hti : (s.Blocks.take i).length = i := by simp; omega
  rw [hti] at hlen
  refine ⟨aM6 (s.Blocks.take (i + 1)), ?_, rfl, rfl⟩
  unfold ay4
  simp only
  have hk := ok.kind
  have hd := ok.data
  have hsc := ok.score
  have p1 := PutI (n := s.Blocks[i].Kind) (w := 1) (by omega) (by omega) (by omega) (by omega) (by omega)
  have p2 := b69 (n := s.Blocks[i].Data.length) (w := 2) (by omega) (by omega) (by omega) (by omega)
  rw [show ((1 : Nat) : Int) = 1 from rfl] at p1
  rw [show ((2 : Nat) : Int) = 2 from rfl] at p2
  rw [iP (dlt hi), aj4 hi, oB, p1, oB, p2, oB]
  rw [ak2 (by simp [ae7]), oB, ak2 (by simp [ae7, ak5]), oB, ak2 (by simp [ae7, ak5, hsc]), oB, ak2 (by simp only [length_append, ae7, ak5, hsc, length_cons, length_nil]; omega), oB]
  rw [aF6 (by simp only [length_append, ae7, ak5, hsc, length_cons, length_nil]; omega), oB, ah6 (by omega), bi2 hi]
  rfl
 ·rintro v rfl
  unfold ay4
  simp only
  rw [iN (by simp), take_length]
theorem cr1 {s : aa0} (h : ∀ b ∈ s.Blocks, OkB b) (hl : s.Blocks.length ≤ 400) : aM0 s = some ((aM6 s.Blocks).length : Int) := by
 unfold aM0
 refine ah3 s.Blocks.length (fun (n : Int) i => (n, i)) (fun q => ay6 s q.1 q.2) (fun _ _ => ((aM6 s.Blocks).length : Int)) (fun i n => n = ((aM6 (s.Blocks.take i)).length : Int)) (s0 := 0) (by simp [aM6]) ?_ ?_
 ·rintro n i hi rfl
  left
  have ok := h s.Blocks[i] (getElem_mem hi)
  have hlen := aV1 (l := s.Blocks.take i) fun b hb => h b (List.mem_of_mem_take hb)
  have hti : (s.Blocks.take i).length = i := by simp; omega
  rw [hti] at hlen
  have hd := ok.data
  refine ⟨((aM6 (s.Blocks.take (i + 1))).length : Int), ?_, rfl, rfl⟩
  unfold ay6
  simp only
  rw [iP (dlt hi), aj4 hi, oB, ah6 (by omega), ac9 (n := 39 + (List.length s.Blocks[i].Data : Int)) (by omega) (by omega), ac9 (by omega) (by omega), bi2 hi, length_append, a35 ok]
  congr 4
 ·rintro n rfl
  unfold ay6
  simp only
  rw [iN (by simp), take_length]
theorem cr2 {b : aa4} (h : OkB b) {rest : Str} (hr : rest.length ≤ 1000000) : aA7 (ba8 b ++ rest) = some (b.Kind, (b.Data.length : Int), b.Score, true) := by
 have hk := h.kind
 have hd := h.data
 have hsc := h.score
 have hlen : (ba8 b ++ rest).length = 39 + b.Data.length + rest.length := by rw [length_append, a35 h]
 have e1 : ba8 b ++ rest = [102, 115, 98, 49] ++ (aD8 1 b.Kind ++ aV4 2 b.Data.length ++ b.Score ++ b.Data ++ rest) := by simp [ba8]
 have hpre : strings_HasPrefix (ba8 b ++ rest) [102, 115, 98, 49] = some true := by
  unfold strings_HasPrefix stringslite_HasPrefix
  rw [iP (by rw [dT, hlen]; simp; omega), b55 (by rw [hlen]; simp; omega)]
  rw [e1, List.take_left]
  rfl
 have g1 := bM5 (pre := [102, 115, 98, 49]) (b := aD8 1 b.Kind) (post := aV4 2 b.Data.length ++ b.Score ++ b.Data ++ rest) (w := 1) (ae7 _ _) (by omega) (by omega)
  (by simp only [length_append, ae7, ak5, hsc, length_cons, length_nil]; omega) (by unfold aD8; rw [aF0 _ _ (by omega)]; omega)
 have g2 := bM5 (pre := [102, 115, 98, 49] ++ aD8 1 b.Kind) (b := aV4 2 b.Data.length) (post := b.Score ++ b.Data ++ rest) (w := 2) (ak5 _ _) (by omega) (by omega)
  (by simp only [length_append, ae7, ak5, hsc, length_cons, length_nil]; omega) (by rw [aF0 _ _ (by omega)]; omega)
 have a1 : [102, 115, 98, 49] ++ aD8 1 b.Kind ++ (aV4 2 b.Data.length ++ b.Score ++ b.Data ++ rest) = ba8 b ++ rest := by simp [ba8]
 have a2 : [102, 115, 98, 49] ++ aD8 1 b.Kind ++ aV4 2 b.Data.length ++ (b.Score ++ b.Data ++ rest) = ba8 b ++ rest := by simp [ba8]
 rw [a1, show (([102, 115, 98, 49] : Str).length : Int) = 4 from rfl, show ((1 : Nat) : Int) = 1 from rfl] at g1
 rw [a2, show (([102, 115, 98, 49] ++ aD8 1 b.Kind : Str).length : Int) = 5 by simp [ae7], show ((2 : Nat) : Int) = 2 from rfl] at g2
 have d1 : (bt7 (aD8 1 b.Kind) : Int) = b.Kind := by unfold aD8; rw [aF0 _ _ (by omega)]; omega
 have d2 : bt7 (aV4 2 b.Data.length) = b.Data.length := aF0 _ _ (by omega)
 unfold aA7
 rw [iN (by rw [dT, hlen]; omega), hpre, oB, oB, iN (by decide), g1, oB]
 simp only
 rw [show ((([102, 115, 98, 49] : Str).length + 1 : Nat) : Int) = 5 from rfl, g2, oB]
 simp only
 rw [show (([102, 115, 98, 49] ++ aD8 1 b.Kind : Str).length + 2 : Nat) = 7 by simp [ae7], ac9 (by omega) (by omega)]
 have hc := aY1 (l := ba8 b ++ rest) (a := 7) (b := 39) (by omega) (by rw [hlen]; omega)
 rw [show ((7 : Nat) : Int) + 32 = ((39 : Nat) : Int) from rfl, hc, oB]
 unfold ax0
 rw [oB, d1, d2]
 have hcut : ((ba8 b ++ rest).take 39).drop 7 = b.Score := by
  have e2 : ba8 b ++ rest = ([102, 115, 98, 49] ++ aD8 1 b.Kind ++ aV4 2 b.Data.length) ++ (b.Score ++ (b.Data ++ rest)) := by simp [ba8]
  have l7 : ([102, 115, 98, 49] ++ aD8 1 b.Kind ++ aV4 2 b.Data.length : Str).length = 7 := by simp [ae7, ak5]
  rw [List.drop_take, e2, List.drop_left' l7, List.take_left' hsc]
 rw [hcut]
 simp [hk.1, hk.2]
 omega
theorem b82 {b : aa4} (h : OkB b) {rest : Str} (hr : rest.length ≤ 1000000) : at8 (ba8 b ++ rest) = some (b, true) := by
 have hd := h.data
 have hsc := h.score
 have hlen : (ba8 b ++ rest).length = 39 + b.Data.length + rest.length := by rw [length_append, a35 h]
 unfold at8
 rw [cr2 h hr, oB]
 simp only
 rw [hlen, ac9 (by omega) (by omega), ac9 (by omega) (by omega), iN (by simp only [Bool.not_true, Bool.false_or, dT]; omega)]
 have hc := aY1 (l := ba8 b ++ rest) (a := 39) (b := 39 + b.Data.length) (by omega) (by rw [hlen]; omega)
 rw [show (39 : Int) + (b.Data.length : Int) = ((39 + b.Data.length : Nat) : Int) by omega, show (39 : Int) = ((39 : Nat) : Int) from rfl, hc, oB]
 have hcut : ((ba8 b ++ rest).take (39 + b.Data.length)).drop 39 = b.Data := by
  have e2 : ba8 b ++ rest = ([102, 115, 98, 49] ++ aD8 1 b.Kind ++ aV4 2 b.Data.length ++ b.Score) ++ (b.Data ++ rest) := by simp [ba8]
  have l7 : ([102, 115, 98, 49] ++ aD8 1 b.Kind ++ aV4 2 b.Data.length ++ b.Score : Str).length = 39 := by simp [ae7, ak5, hsc]
  rw [List.drop_take, e2, List.drop_left' l7, show 39 + b.Data.length - 39 = b.Data.length by omega, List.take_left]
 rw [hcut, bG5 (by omega), oB, ← h.made]
 simp
theorem bN3 : aA7 [] = some (0, 0, [], false) := by
 unfold aA7
 rw [iP (by decide), oB, iP rfl]
theorem bW1 : at8 [] = some ((aa4.mk [] 0 []), false) := by
 unfold at8
 rw [bN3, oB, iP (by rfl)]
def InvB (l : List aa4) (i : Nat) (m : ap6 Str) : Prop := ∀ k, 0 ≤ aq8 m k ∧ aq8 m k ≤ i ∧ ((∀ j, (h : j < l.length) → j < i → l[j].Score ≠ k) → aq8 m k = 0)
theorem InvB.next {l : List aa4} {i : Nat} {m : ap6 Str} (hi : i < l.length) (h : InvB l i m) (v : Int) (hv : v = aq8 m l[i].Score + 1) : InvB l (i + 1) (a55 m l[i].Score v) := fun k => by
 subst hv
 rw [aS7]
 have := h k
 split
 ·rename_i e
  subst e
  exact ⟨by omega, by omega, fun hh => absurd rfl (hh i hi (by omega))⟩
 ·exact ⟨this.1, by omega, fun hh => this.2.2 fun j a b => hh j a (by omega)⟩
theorem InvB.nil (l : List aa4) : InvB l 0 (([], 0) : ap6 Str) := fun k => ⟨Int.le_refl _, Int.le_refl _, fun _ => rfl⟩
theorem GoodB.apart {l : List aa4} (h : GoodB l) {i : Nat} (hi : i < l.length) : ∀ j, (hj : j < l.length) → j < i → l[j].Score ≠ l[i].Score := by
 intro j hj hji he
 have := List.pairwise_iff_getElem.1 (List.nodup_iff_pairwise_ne.1 h.1) j i (by simpa using hj) (by simpa using hi) hji
 simp only [List.getElem_map] at this
 exact this he
theorem cr3 {l : List aa4} (h : GoodB l) (hl : l.length ≤ 400) : aL9 (aM6 l) 400 = some (⟨400, l⟩, ((aM6 l).length : Int), 0) := by
 have hll := aV1 h.okB
 unfold aL9
 rw [cl9, oB]
 refine ah3 l.length (fun (q : Int × List aa4 × ap6 Str) _ => q) (fun s => aw0 (aM6 l) ⟨400, []⟩ s.1 s.2.1 s.2.2) (fun _ _ => (⟨400, l⟩, ((aM6 l).length : Int), 0))
  (fun i q => q.1 = ((aM6 (l.take i)).length : Int) ∧ q.2.1 = l.take i ∧ InvB l i q.2.2) (s0 := (0, [], ([], 0))) ⟨by simp [aM6], rfl, InvB.nil l⟩ ?_ ?_
 ·rintro ⟨q1, q2, m⟩ i hi ⟨h1, h2, h3⟩
  simp only at h1 h2 h3
  subst h1; subst h2
  left
  have ok := h.okB l[i] (getElem_mem hi)
  have hd := ok.data
  have htl := aV1 (l := l.take i) fun b hb => h.okB b (List.mem_of_mem_take hb)
  have hti : (l.take i).length = i := by simp; omega
  rw [hti] at htl
  have hcov : (aM6 (l.take i)).length ≤ (aM6 l).length := by
   have : aM6 l = aM6 (l.take i) ++ aM6 (l.drop i) := by
    unfold aM6
    rw [← List.flatMap_append, List.take_append_drop]
   rw [this, length_append]; omega
  have hz := (h3 l[i].Score).2.2 (fun j a b => h.apart hi j a b)
  refine ⟨(((aM6 (l.take (i + 1))).length : Int), l.take (i + 1), a55 m l[i].Score 1), ?_, rfl, rfl, rfl, h3.next hi _ (by rw [hz]; rfl)⟩
  unfold aw0
  simp only
  have hdl := aV1 (l := l.drop (i + 1)) fun b hb => h.okB b (List.mem_of_mem_drop hb)
  rw [aT8 hcov, oB, b81, List.drop_eq_getElem_cons hi, show aM6 (l[i] :: l.drop (i + 1)) = ba8 l[i] ++ aM6 (l.drop (i + 1)) by unfold aM6; rw [List.flatMap_cons], b82 ok (by have := List.length_drop (i := i + 1) (l := l); omega), oB, iN (by simp)]
  simp only
  rw [iP (by rw [dT]; exact hz), iN (by rw [dT, hti]; omega), ag0 (by simp; omega) (by simp; omega), oB]
  unfold aB8
  simp only
  rw [hz, bi2 hi, length_append, a35 ok, List.take_succ_eq_append_getElem hi, ac9 (n := 39 + (List.length l[i].Data : Int)) (by omega) (by omega), ac9 (by omega) (by omega)]
  rw [show ((aM6 (l.take i)).length : Int) + (39 + (l[i].Data.length : Int)) = (((aM6 (l.take i)).length + (39 + l[i].Data.length) : Nat) : Int) by omega]
  rfl
 ·rintro ⟨q1, q2, m⟩ ⟨h1, h2, h3⟩
  simp only at h1 h2 h3
  rw [take_length] at h1 h2
  subst h1; subst h2
  unfold aw0 aK3 aB7
  simp only
  rw [aT8 (le_refl _), oB, List.drop_length, bW1, oB, iP (by rfl), oB, bN3, oB, iN (by simp)]
  rfl
theorem bH2 {l : List aa4} (h : GoodB l) (hl : l.length ≤ 400) : aI1 ⟨400, l⟩ = some true := by
 unfold aI1
 simp only
 rw [iN (by simp only [or_eq_true, dT]; omega)]
 refine ah3 l.length (fun (m : ap6 Str) i => (i, m)) (fun s => au4 ⟨400, l⟩ s.1 s.2) (fun _ _ => true) (fun i m => InvB l i m) (s0 := ([], 0)) (InvB.nil l) ?_ ?_
 ·intro m i hi inv
  left
  have ok := h.okB l[i] (getElem_mem hi)
  have hz := (inv l[i].Score).2.2 (fun j a b => h.apart hi j a b)
  refine ⟨a55 m l[i].Score 1, ?_, rfl, inv.next hi _ (by rw [hz]; rfl)⟩
  have hk := ok.kind
  have hd := ok.data
  unfold au4 ax0
  simp only
  rw [iP (dlt hi), aj4 hi, oB, oB, hz, ok.score]
  rw [iN (by simp [hk.1, hk.2]; omega), ah6 (by omega)]
  rfl
 ·intro m _
  unfold au4
  simp only
  rw [iN (by simp)]
theorem bl0 {s : aa0} (hl : s.Blocks.length ≤ 400) : at9 s s = some true := by
 unfold at9
 rw [iN (by simp)]
 refine ah3 s.Blocks.length (fun (_ : Unit) i => i) (fun q => am9 s s q) (fun _ _ => true) (fun _ _ => True) (s0 := ()) trivial ?_ ?_
 ·intro _ i hi _
  left
  refine ⟨(), ?_, rfl, trivial⟩
  unfold am9
  rw [iP (dlt hi), aj4 hi, oB, oB, iN (by simp), ah6 (by omega)]
 ·intro _ _
  unfold am9
  rw [iN (by simp)]
theorem cr4 {t : aa3} (hl : t.Nodes.length ≤ 1000) : aU4 t t = some true := by
 unfold aU4
 rw [iN (by simp)]
 refine ah3 t.Nodes.length (fun (_ : Unit) i => i) (fun s => ay9 t t s) (fun _ _ => true) (fun _ _ => True) (s0 := ()) trivial ?_ ?_
 ·intro _ i hi _
  left
  refine ⟨(), ?_, rfl, trivial⟩
  unfold ay9
  rw [iP (dlt hi), aj4 hi, oB, oB, iN (by simp), ah6 (by omega)]
 ·intro _ _
  unfold ay9
  rw [iN (by simp)]
open Classical in
theorem bA4 {t : aa3} (w : aY7 t) : ∃ b, aO2 t = some b ∧ (b = true → t.Nodes.length ≤ 12 ∧ ∀ n ∈ t.Nodes, n.Mz.length ≤ 200 ∧ n.Data.length ≤ 3000) := by
 have hm : t.Nodes.length ≤ 140737488351232 := w.2.1
 refine ⟨_, ah3 t.Nodes.length (fun (_ : Unit) i => i) (fun s => ar0 t s) (fun i _ => decide ((∀ j, i ≤ j → j < t.Nodes.length → (nd t.Nodes j).Mz.length ≤ 200 ∧ (nd t.Nodes j).Data.length ≤ 3000) ∧ t.Nodes.length ≤ 12)) (fun _ _ => True) (s0 := ()) trivial ?_ ?_, ?_⟩
 ·intro _ i hi _
  unfold ar0
  rw [iP (dlt hi), aD6 hi, oB, oB]
  by_cases h1 : 3000 < (nd t.Nodes i).Data.length
  ·right
   rw [iP (by rw [dT]; omega), oB, iP rfl]
   congr 2
   symm
   rw [decide_eq_false_iff_not]
   rintro ⟨h, _⟩
   have := (h i (le_refl _) hi).2
   omega
  ·rw [iN (by rw [dT]; omega), oB]
   by_cases h2 : 200 < (nd t.Nodes i).Mz.length
   ·right
    rw [iP (by rw [dT]; omega)]
    congr 2
    symm
    rw [decide_eq_false_iff_not]
    rintro ⟨h, _⟩
    have := (h i (le_refl _) hi).1
    omega
   ·left
    rw [iN (by rw [dT]; omega), ac9 (by omega) (by omega)]
    refine ⟨(), rfl, ?_, trivial⟩
    rw [decide_eq_decide]
    refine and_congr ?_ Iff.rfl
    constructor
    ·intro h j a b; exact h j (by omega) b
    ·intro h j a b
     by_cases hj : j = i
     ·subst hj; exact ⟨by omega, by omega⟩
     ·exact h j (by omega) b
 ·intro _ _
  unfold ar0
  rw [iN (by simp)]
  congr 2
  rw [decide_eq_decide]
  constructor
  ·intro h; exact ⟨fun j a b => by omega, by omega⟩
  ·intro h; omega
 ·intro h
  obtain ⟨h1, h2⟩ := of_decide_eq_true h
  refine ⟨h2, fun n hn => ?_⟩
  obtain ⟨j, hj, rfl⟩ := getElem_of_mem hn
  rw [a89 hj]
  exact h1 j (Nat.zero_le _) hj
theorem At_eq {f : ab6} {st : aa0} {now : Int} {sc : Str} : aP1 ⟨f, st, [⟨now, sc⟩]⟩ now = some (⟨now, sc⟩, true) := by
 unfold aP1
 refine ab5 ?_
 unfold aK4
 rw [show wrap .i64 ((List.length [(⟨now, sc⟩ : ak9)] : Int) - 1) = 0 from rfl, iP (by decide)]
 simp only
 rw [show ag1 [(⟨now, sc⟩ : ak9)] 0 = some ⟨now, sc⟩ from rfl, oB, iP (by simp), oB]
theorem cr5 {f : ab6} {st : aa0} {now : Int} (hs : Sm f.Tree) (hL : cx9 f.Tree st) : ay8 ⟨f, st, [⟨now, ae9 4 (aM5 f.Tree)⟩]⟩ now = some (f.Tree, 0) := by
 unfold ay8
 rw [At_eq, oB, iN (by simp)]
 simp only
 rw [bo7 hs hL, oB]
theorem bA5 {f : ab6} {st : aa0} {now : Int} (hs : Sm f.Tree) (hL : cx9 f.Tree st) (h0 : 0 ≤ now) (h1 : now ≤ 1099511627776) (hr : az1 f = some true) (hst : st = ⟨400, st.Blocks⟩) : aB9 ⟨f, st, [⟨now, ae9 4 (aM5 f.Tree)⟩]⟩ = some true := by
 have hb : aI1 st = some true := by rw [hst]; exact bH2 hL.good hL.len
 unfold aB9
 simp only
 rw [hr, oB, iN (by decide), hb, oB, iN (by decide), oB, iN (by simp)]
 refine (ac0 (s' := (now, 1)) ?_).trans (ab5 ?_)
 ·unfold as6
  simp only
  rw [iP (by simp), show ag1 [(⟨now, ae9 4 (aM5 f.Tree)⟩ : ak9)] 0 = some ⟨now, ae9 4 (aM5 f.Tree)⟩ from rfl, oB, iN (by simp only [or_eq_true, dT]; omega)]
  rw [bo7 hs hL, oB, iN (by simp), aV0 hs.right, oB, oB, iN (by decide)]
  rfl
 ·unfold as6
  simp only
  rw [iN (by simp)]
theorem a65 (f : ab6) (now : Int) (w0 : aC0 f) (w1 : (Lit.int .i64 now).wf = true) : aJ3 f now = some true := by
 have awake : av3 = some true := rfl
 obtain ⟨⟨_, wu⟩, ⟨_, wq⟩, wt, _, _⟩ := w0
 obtain ⟨b, hb, hb2⟩ := bA4 wt
 unfold aJ3
 rw [hb, oB]
 cases b with
 | false => rw [iP (show (!false) = true from rfl), oB, iP rfl, awake]; rfl
 | true =>
  obtain ⟨hl, hnd⟩ := hb2 rfl
  rw [iN (by decide)]
  by_cases g1 : 70 < (List.length f.Users : Int)
  ·rw [iP (by simpa using g1), oB, iP rfl, awake]; rfl
  by_cases g2 : 70 < (List.length f.Quotas : Int)
  ·rw [iN (by simpa using g1), iP (by simpa using g2), oB, iP rfl, awake]; rfl
  by_cases g3 : 20 < (List.length f.Excl : Int)
  ·rw [iN (by simpa using g1), iN (by simpa using g2), iP (by simpa using g3), oB, iP rfl, awake]; rfl
  rw [iN (by simpa using g1), iN (by simpa using g2), iN (by simpa using g3)]
  have wum : ∀ u ∈ f.Users, u.Mz.length ≤ maxLen ∧ u.Members.length ≤ maxLen := fun u hu => by
   obtain ⟨a, _, c, _⟩ := wu u hu
   refine ⟨a, Nat.le_trans c ?_⟩
   unfold aW2 maxLen; omega
  obtain ⟨c, hc, hc2⟩ := bH0 (f := f) wum (fun q hq => (wq q hq).1) (fun n hn => by have := (hnd n hn).1; omega) (by omega) (by omega)
  rw [hc, oB, oB]
  cases c with
  | false => rw [iP (show (!false) = true from rfl), awake]; rfl
  | true =>
   obtain ⟨hu, hq, hr, hx⟩ := hc2 rfl
   have hs : Sm f.Tree := ⟨hr, hl, fun n hn => (hnd n hn).1, fun n hn => (hnd n hn).2⟩
   have few : Few f := ⟨by have := hu.len; omega, fun u h => by have := hu.few u h; omega, by omega, by omega, by omega⟩
   have hfr := bt2 hu (fun u h => (wum u h).2) hq hr hx (by omega)
   rw [iN (by decide), bW0 few, oB]
   obtain ⟨s, e, q1, q2⟩ := cr0 few hs now
   rw [q1, oB]
   rcases q2 with hne | ⟨rfl, n0, n1, st, hL, rfl⟩
   ·rw [iP (by simp [hne]), awake]; rfl
   ·have hst : st = ⟨400, st.Blocks⟩ := by
     have := hL.cap
     obtain ⟨a, b⟩ := st
     simp only at this
     rw [this]
    have hsame : at9 ⟨400, st.Blocks⟩ st = some true := by
     rw [← hst]; exact bl0 hL.len
    rw [iN (by simp)]
    simp only
    rw [cy1 hL.good.okB hL.len, oB, cr3 hL.good hL.len, oB]
    simp only
    rw [iN (by simp), iN (by simp), cr1 hL.good.okB hL.len, oB, iN (by simp), hsame, oB, oB, iN (by decide), ← hst, cr5 hs hL, oB, iP (by simp), cr4 (t := f.Tree) (by omega), oB, iP rfl, bA5 hs hL n0 n1 hfr hst, oB, iP rfl, awake]
    rfl
end Go.Proofs.YtchaaedlfibdoaaGreatDoor
