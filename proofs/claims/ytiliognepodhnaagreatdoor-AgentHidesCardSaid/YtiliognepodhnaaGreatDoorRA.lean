import Derived.Test.YtiliognepodhnaaGreatDoorPA
import Derived.Test.YtiliognepodhnaaGreatDoorVmR
import Derived.KernelRfl
namespace Go.Proofs.YtiliognepodhnaaGreatDoor
open Go.Vm
set_option autoImplicit false
set_option linter.unusedVariables false
set_option linter.unusedSimpArgs false
set_option maxRecDepth 100000
theorem wfI {n : Int} (h : (Lit.int .i64 n).wf = true) : -9223372036854775808 ≤ n ∧ n ≤ 9223372036854775807 := by
 have h2 : IntKind.i64.min ≤ n ∧ n ≤ IntKind.i64.max := by simpa [Lit.wf] using h
 exact h2
def wA (a : aa1) : Nat := min a.Name.length 10000 + min a.Value.length 10000
def cv3 (l : List aa1) : Nat := (l.map wA).sum
def aY4 (l : List aa1) : Bool := decide ((List.length l : Int) ≤ 40) && decide ((cv3 l : Int) ≤ 5000)
theorem bY4 {l : List aa1} (h : l.length ≤ aV0) : aA6 l = some (aY4 l) := by
 have ht : l.length ≤ 140737488351232 := h
 unfold aA6
 refine (af6 l.length (fun (n : Int) i => (n, i)) (fun s => av4 l s.1 s.2) (fun i n => decide ((List.length l : Int) ≤ 40) && decide (n + (cv3 (l.drop i) : Int) ≤ 5000)) (fun i n => 0 ≤ n ∧ n ≤ 20000 * (i : Int)) (s0 := 0) (by simp) ?_ ?_).trans (by simp [aY4])
 ·intro n i hi hn
  left
  have h1 : min (List.length l[i].Name : Int) 10000 + min (List.length l[i].Value : Int) 10000 = ((wA l[i] : Nat) : Int) := by unfold wA; omega
  have h2 : wA l[i] ≤ 20000 := by unfold wA; omega
  refine ⟨n + (wA l[i] : Int), ?_, ?_, by omega, by omega⟩
  ·simp only [av4, dlt hi, if_true, aa8 hi, Option.bind_some]
   rw [h1, ag8 (n := ((wA l[i] : Nat) : Int)) (by omega) (by omega), ag8 (by omega) (by omega), ag8 (by omega) (by omega)]
  ·have e : cv3 (l.drop i) = wA l[i] + cv3 (l.drop (i + 1)) := by rw [List.drop_eq_getElem_cons hi]; rfl
   rw [e, Int.natCast_add, ← Int.add_assoc]
 ·intro n hn
  simp [av4, cv3]
theorem bY5 : ∀ {l : List aa1} {a : aa1}, a ∈ l → wA a ≤ cv3 l
 | x :: r, a, h => by
  simp only [cv3, List.map_cons, List.sum_cons]
  rcases List.mem_cons.1 h with rfl | h
  ·omega
  ·have := bY5 h; unfold cv3 at this; omega
structure Sh (l : List aa1) : Prop where
 len : l.length ≤ 2000
 at_ : ∀ a ∈ l, a.Name.length ≤ 5000 ∧ a.Value.length ≤ 5000
theorem bY6 {l : List aa1} (h : aY4 l = true) : Sh l := by
 unfold aY4 at h
 simp only [Bool.and_eq_true, decide_eq_true_eq] at h
 refine ⟨by omega, fun a ha => ?_⟩
 have := bY5 ha
 unfold wA at this
 omega
theorem Sh.ok {l : List aa1} (h : Sh l) : okL l := ⟨by have := h.len; omega, fun a ha => h.at_ a ha⟩
theorem Sh.le {l : List aa1} (h : Sh l) : l.length ≤ 1000000 := by have := h.len; omega
def sumC (c : aa3) : Int := IntKind.wrap .i64 ((IntKind.wrap .i64 ((IntKind.wrap .i64 ((List.length c.Proto : Int) + (List.length c.Own : Int))) + (List.length c.Peer : Int))) + (List.length c.User : Int))
def smC (c : aa3) : Bool := aY4 c.Key && !decide ((1000 : Int) < sumC c)
def bK0 (a : aa2) : Bool := !((decide (1000 < (List.length a.Owner : Int))) || ((decide (2000 < (List.length a.Seed : Int))) || ((decide (70 < (List.length a.Keys : Int))) || (decide (40 < (List.length a.Convs : Int)))))) && (a.Keys.all aY4 && a.Convs.all smC)
theorem cp3 {a : aa2} (w : aE6 a) : aw8 a = some (bK0 a) := by
 obtain ⟨w1, w2, ⟨w3, w4⟩, w5, ⟨w6, w7⟩, w8⟩ := w
 unfold aw8 bK0
 cases hb : ((decide (1000 < (List.length a.Owner : Int))) || ((decide (2000 < (List.length a.Seed : Int))) || ((decide (70 < (List.length a.Keys : Int))) || (decide (40 < (List.length a.Convs : Int)))))) with
 | true => rfl
 | false =>
  simp only [Bool.or_eq_false_iff, decide_eq_false_iff_not] at hb
  obtain ⟨b1, b2, b3, b4⟩ := hb
  simp only [Bool.false_eq_true, if_false, Bool.not_false, Bool.true_and]
  have hC : aa9 (fun s => as7 a s) 0 = some (a.Convs.all smC) := by
   refine bk5 a.Convs smC _ (fun i hi => ?_) ?_
   ·have hw := w7 _ (List.getElem_mem hi)
    obtain ⟨c1, c2, c3, c4, c5, ⟨c6, c6'⟩, c7, c8, c9, c10⟩ := hw
    simp only [as7, dlt hi, if_true, aa8 hi, Option.bind_some, bY4 c6, smC]
    rw [ab1 (by omega)]
    change (if (!aY4 (a.Convs[i]).Key || decide (1000 < sumC a.Convs[i])) = true then _ else _) = _
    by_cases q1 : aY4 (a.Convs[i]).Key = true
    ·by_cases q2 : (1000 : Int) < sumC a.Convs[i]
     ·simp only [q1, q2, decide_true]; rfl
     ·simp only [q1, q2, decide_false]; rfl
    ·rw [Bool.not_eq_true] at q1
     simp only [q1, Bool.not_false, Bool.true_or, if_true, Bool.false_and, Bool.false_eq_true, if_false]
   ·simp [as7]
  refine (bp6 a.Keys aY4 false (a.Convs.all smC) _ (fun i hi => ?_) ?_).trans ?_
  ·simp only [ay8, dlt hi, if_true, aa8 hi, Option.bind_some, bY4 (w4 _ (List.getElem_mem hi)).1]
   rw [ab1 (by omega)]
   cases aY4 a.Keys[i] <;> rfl
  ·simp [ay8, hC]
  ·cases a.Keys.all aY4 <;> rfl
structure ShC (c : aa3) : Prop where
 key : Sh c.Key
structure Lim (a : aa2) : Prop where
 owner : a.Owner.length ≤ 1000
 seed : a.Seed.length ≤ 2000
 keys : a.Keys.length ≤ 70
 key : ∀ k ∈ a.Keys, Sh k
 convs : a.Convs.length ≤ 40
 conv : ∀ c ∈ a.Convs, ShC c
theorem cd3 {a : aa2} (h : bK0 a = true) : Lim a := by
 unfold bK0 at h
 simp only [Bool.and_eq_true, Bool.not_eq_true', Bool.or_eq_false_iff, decide_eq_false_iff_not, List.all_eq_true] at h
 obtain ⟨⟨b1, b2, b3, b4⟩, h1, h2⟩ := h
 refine ⟨by omega, by omega, by omega, fun k hk => bY6 (h1 k hk), by omega, fun c hc => ?_⟩
 have := h2 c hc
 unfold smC at this
 simp only [Bool.and_eq_true, Bool.not_eq_true', decide_eq_false_iff_not] at this
 exact ⟨bY6 this.1⟩
theorem bY7 {α : Type} {l : List α} {i : Nat} (h : i < l.length) : l.set i l[i] = l := by simp
theorem cd4 {l : List (List aa1)} (h : l.length ≤ 1000000) : ab2 l = some l := by
 unfold ab2
 rw [ak3 (by simp; omega) (by simp; omega)]; simp
theorem b49 {l : List aa3} (h : l.length ≤ 1000000) : ab7 l = some l := by
 unfold ab7
 rw [ak3 (by simp; omega) (by simp; omega)]; simp
theorem ao1 {a : aa2} (h : Lim a) : af5 a = some a := by
 have h1 := h.keys
 have h2 := h.convs
 unfold af5
 rw [cd4 (by omega), Option.bind_some]
 refine (af6 a.Keys.length (fun (v : List (List aa1)) i => (i, v)) (fun s => av8 a a.Keys s.1 s.2) (fun _ _ => a) (fun _ v => v = a.Keys) (s0 := a.Keys) rfl ?_ ?_)
 ·rintro v i hi rfl
  left
  refine ⟨a.Keys, ?_, rfl, rfl⟩
  simp only [av8, dlt hi, if_true, aa8 hi, Option.bind_some, aG8 (h.key _ (List.getElem_mem hi)).le, Int.toNat_natCast, bY7 hi]
  rw [ab1 (by omega)]
 ·rintro v rfl
  have : aa9 (fun s => ao6 a a.Keys a.Convs s.1 s.2) (0, a.Convs) = some a := by
   refine (af6 a.Convs.length (fun (v : List aa3) i => (i, v)) (fun s => ao6 a a.Keys a.Convs s.1 s.2) (fun _ _ => a) (fun _ v => v = a.Convs) (s0 := a.Convs) rfl ?_ ?_)
   ·rintro v i hi rfl
    left
    refine ⟨a.Convs, ?_, rfl, rfl⟩
    simp only [ao6, dlt hi, if_true, aa8 hi, Option.bind_some, aG8 (h.conv _ (List.getElem_mem hi)).key.le, Int.toNat_natCast]
    rw [ab1 (by omega), show ({a.Convs[i] with Key := (a.Convs[i]).Key} : aa3) = a.Convs[i] from rfl, bY7 hi]
   ·rintro v rfl
    simp [ao6]
  simp only [av8, dge, Bool.false_eq_true, if_false, aI6, b49 (show a.Convs.length ≤ 1000000 by omega), Option.bind_some, this, Option.map_some]
theorem bK1 {l : List aa1} (h : l.length ≤ 1000000) : ar2 l l = some true := by
 unfold ar2
 simp only [decide_true, Bool.not_true, Bool.false_eq_true, if_false]
 refine (bk5 l (fun _ => true) _ (fun i hi => ?_) ?_).trans (by simp)
 ·simp only [aq2, dlt hi, if_true, aa8 hi, Option.bind_some, decide_true, Bool.and_self, Bool.not_true, Bool.false_eq_true, if_false]
  rw [ab1 (by omega)]
 ·simp [aq2]
theorem bE2 {c : aa3} (h : c.Key.length ≤ 1000000) : ar3 c c = some true := by
 unfold ar3
 simp [bK1 h]
theorem bv6 {a : aa2} (h1 : a.Keys.length ≤ 1000000) (h2 : ∀ k ∈ a.Keys, k.length ≤ 1000000) (h3 : a.Convs.length ≤ 1000000) (h4 : ∀ c ∈ a.Convs, c.Key.length ≤ 1000000) : af9 a a = some true := by
 have hC : aa9 (fun s => ak6 a a s) 0 = some true := by
  refine (bk5 a.Convs (fun _ => true) _ (fun i hi => ?_) ?_).trans (by simp)
  ·simp only [ak6, dlt hi, if_true, aa8 hi, Option.bind_some, bE2 (h4 _ (List.getElem_mem hi)), Bool.not_true, Bool.false_eq_true, if_false]
   rw [ab1 (by omega)]
  ·simp [ak6]
 unfold af9
 simp only [decide_true, Bool.not_true, Bool.or_self, Bool.false_eq_true, if_false]
 refine (bp6 a.Keys (fun _ => true) false true _ (fun i hi => ?_) ?_).trans (by simp)
 ·simp only [aq8, dlt hi, if_true, aa8 hi, Option.bind_some, bK1 (h2 _ (List.getElem_mem hi)), Bool.not_true, Bool.false_eq_true, if_false]
  rw [ab1 (by omega)]
 ·simp [aq8, hC]
theorem Lim.same {a : aa2} (h : Lim a) : af9 a a = some true :=
 bv6 (by have := h.keys; omega) (fun k hk => (h.key k hk).le) (by have := h.convs; omega) (fun c hc => (h.conv c hc).key.le)
instance : DecidableEq aa1 := fun x y => decidable_of_iff (x.Name = y.Name ∧ x.Value = y.Value ∧ x.Query = y.Query) (by cases x; cases y; simp)
theorem cd5 {x y : aa1} : (!(decide (x.Name = y.Name) && (decide (x.Value = y.Value) && (decide (x.Query = y.Query) && true)))) = !decide (x = y) := by
 congr 1
 rw [Bool.eq_iff_iff]
 cases x; cases y; simp
theorem cd6 {a b : List aa1} (ha : a.length ≤ 1000000) : ar2 a b = some (decide (a = b)) := by
 unfold ar2
 by_cases hl : a.length = b.length
 ·simp only [hl, decide_true, Bool.not_true, Bool.false_eq_true, if_false]
  refine (af6 a.length (fun (_ : Unit) i => i) (fun s => aq2 a b s) (fun i _ => decide (a.drop i = b.drop i)) (fun _ _ => True) (s0 := ()) trivial ?_ ?_).trans (by simp)
  ·intro _ i hi _
   have hj : i < b.length := by omega
   simp only [aq2, dlt hi, if_true, aa8 hi, aa8 hj, Option.bind_some, cd5]
   by_cases h : a[i] = b[i]
   ·left
    refine ⟨(), ?_, ?_, trivial⟩
    ·simp only [h, decide_true, Bool.not_true, Bool.false_eq_true, if_false]
     rw [ab1 (by omega)]
    ·rw [List.drop_eq_getElem_cons hi, List.drop_eq_getElem_cons hj, h, decide_eq_decide]
     exact ⟨fun e => (List.cons.inj e).2, fun e => by rw [e]⟩
   ·right
    rw [List.drop_eq_getElem_cons hi, List.drop_eq_getElem_cons hj]
    have hn : ¬ (a[i] :: List.drop (i + 1) a = b[i] :: List.drop (i + 1) b) := fun e => h (List.cons.inj e).1
    simp only [h, hn, decide_false, Bool.not_false, if_true]
  ·intro _ _
   simp [aq2, hl]
 ·have h1 : ¬ ((List.length a : Int) = (List.length b : Int)) := by omega
  have h2 : ¬ (a = b) := fun h => hl (by rw [h])
  simp [h1, h2]
theorem cp4 {a b : List aa1} (ha : a.length ≤ 1000000) : ag9 a b = some (decide (a = b)) := by
 unfold ag9
 by_cases hl : a.length = b.length
 ·simp only [hl, decide_true, Bool.not_true, Bool.false_eq_true, if_false]
  refine (af6 a.length (fun (_ : Unit) i => i) (fun s => ae3 a b s) (fun i _ => decide (a.drop i = b.drop i)) (fun _ _ => True) (s0 := ()) trivial ?_ ?_).trans (by simp)
  ·intro _ i hi _
   have hj : i < b.length := by omega
   simp only [ae3, dlt hi, if_true, aa8 hi, aa8 hj, Option.bind_some, cd5]
   by_cases h : a[i] = b[i]
   ·left
    refine ⟨(), ?_, ?_, trivial⟩
    ·simp only [h, decide_true, Bool.not_true, Bool.false_eq_true, if_false]
     rw [ab1 (by omega)]
    ·rw [List.drop_eq_getElem_cons hi, List.drop_eq_getElem_cons hj, h, decide_eq_decide]
     exact ⟨fun e => (List.cons.inj e).2, fun e => by rw [e]⟩
   ·right
    rw [List.drop_eq_getElem_cons hi, List.drop_eq_getElem_cons hj]
    have hn : ¬ (a[i] :: List.drop (i + 1) a = b[i] :: List.drop (i + 1) b) := fun e => h (List.cons.inj e).1
    simp only [h, hn, decide_false, Bool.not_false, if_true]
  ·intro _ _
   simp [ae3, hl]
 ·have h1 : ¬ ((List.length a : Int) = (List.length b : Int)) := by omega
  have h2 : ¬ (a = b) := fun h => hl (by rw [h])
  simp [h1, h2]
def pub (l : List aa1) : List aa1 := l.filter fun a => !ai7 a.Name
theorem bR0 {l : List aa1} : (pub l).length ≤ l.length := List.length_filter_le _ _
theorem cv4 {l : List aa1} (h : Sh l) : Sh (pub l) := ⟨Nat.le_trans bR0 h.len, fun a ha => h.at_ a (List.mem_filter.1 ha).1⟩
theorem bY8 {a b : List aa1} (ha : a.length ≤ 1000000) (hb : b.length ≤ 1000000) : aI7 a b = some (decide (pub a = pub b)) := by
 unfold aI7
 rw [br5 ha, Option.bind_some, br5 hb, Option.bind_some]
 have := @cp4 (pub a) (pub b) (Nat.le_trans bR0 ha)
 unfold pub at this
 rw [this]; rfl
theorem cp5 {l : List (List aa1)} {p : List aa1} (hl : l.length ≤ 1000000) (h : ∀ k ∈ l, k.length ≤ 1000000) : aB0 l p = some (ixF (fun k => decide (pub k = p)) l 0) := by
 unfold aB0
 refine bD2 l _ _ (fun i hi => ?_) ?_
 ·have hk := h _ (List.getElem_mem hi)
  have := @cd6 (pub l[i]) p (Nat.le_trans bR0 hk)
  unfold pub at this
  simp only [aC9, dlt hi, if_true, aa8 hi, Option.bind_some, bi5 hk, this]
  rw [ab1 (by omega)]
  by_cases q : pub l[i] = p
  ·have q' := q; unfold pub at q'; simp [q, q']
  ·have q' := q; unfold pub at q'; simp [q, q']
 ·simp [aC9]
theorem cd7 {α : Type} (p : α → Bool) : ∀ l : List α, (l.all fun a => !p a) = !(l.any p)
 | [] => rfl
 | a :: r => by simp only [List.all_cons, List.any_cons, cd7 p r, Bool.not_or]
def aY5 : Str := [117, 115, 101, 114]
def bK2 : Str := [33, 115, 101, 99, 114, 101, 116]
def aJ8 (n : Str) (l : List aa1) : Str := (am1 n l).1
theorem br7 {n : Str} : ∀ {l : List aa1}, (am1 n l).2 = false → (am1 n l).1 = []
 | [], _ => rfl
 | a :: r, h => by
  by_cases q : bj1 n a = true
  ·rw [bJ9 q] at h; cases h
  ·rw [bz4 q] at h ⊢; exact br7 h
def bY9 (l : List aa1) : Bool := decide (a43 l = 0) && (!(l.any fun a => a.Query) && (decide (1 ≤ (List.length (aJ8 aY5 l) : Int)) && (decide ((List.length (aJ8 aY5 l) : Int) ≤ 32) && (decide (1 ≤ (List.length (aJ8 bK2 l) : Int)) && decide ((List.length (aJ8 bK2 l) : Int) ≤ 64)))))
theorem cp6 {l : List aa1} (h : Sh l) : aA9 l = some (bY9 l) := by
 have hl := h.le
 unfold aA9 bY9
 rw [br1 h.ok, Option.bind_some]
 by_cases hc : a43 l = 0
 ·simp only [hc, decide_true, Bool.not_true, Bool.false_eq_true, if_false, Bool.true_and]
  have hA : az0 l = some (decide (1 ≤ (List.length (aJ8 aY5 l) : Int)) && (decide ((List.length (aJ8 aY5 l) : Int) ≤ 32) && (decide (1 ≤ (List.length (aJ8 bK2 l) : Int)) && decide ((List.length (aJ8 bK2 l) : Int) ≤ 64)))) := by
   unfold az0 aA8
   simp only [bf2 hl, Option.bind_some]
   rfl
  refine (bp6 l (fun a => !a.Query) false (decide (1 ≤ (List.length (aJ8 aY5 l) : Int)) && (decide ((List.length (aJ8 aY5 l) : Int) ≤ 32) && (decide (1 ≤ (List.length (aJ8 bK2 l) : Int)) && decide ((List.length (aJ8 bK2 l) : Int) ≤ 64)))) _ (fun i hi => ?_) ?_).trans ?_
  ·simp only [aC8, dlt hi, if_true, aa8 hi, Option.bind_some]
   rw [ab1 (by omega)]
   cases l[i].Query <;> rfl
  ·simp [aC8, hA]
  ·rw [cd7 (fun (a : aa1) => a.Query) l]
   cases (l.any fun a => a.Query) <;> rfl
 ·simp [hc]
theorem cv5 {l : List aa1} (h : Sh l) : aV8 l = some (bY9 l) := by
 have hl := h.le
 unfold aV8 bY9
 rw [bk8 h.ok, Option.bind_some]
 by_cases hc : a43 l = 0
 ·have hq : ac2 l = some (l.any fun a => a.Query) := by
   unfold ac2
   have : ad8 l = some (bc8 (fun a => a.Query) l) := by
    unfold ad8
    refine aR8 hl (fun i hi => ?_) ?_
    ·simp only [ac1, dlt hi, if_true, aa8 hi, Option.bind_some, a63]
    ·simp [ac1]
   rw [this, Option.bind_some, bD7]
  simp only [hc, decide_true, Bool.not_true, Bool.false_eq_true, if_false, hq, Option.bind_some, Bool.true_and]
  cases hb : l.any fun a => a.Query with
  | true => rfl
  | false =>
   simp only [Bool.false_eq_true, if_false, bf1 hl, Option.bind_some, Bool.not_false, Bool.true_and]
   congr 1
   have aux : ∀ (n : Str) (K : Int), ((am1 n l).2 && ((!decide ((am1 n l).1 = [])) && decide ((List.length (am1 n l).1 : Int) ≤ K))) = (decide (1 ≤ (List.length (aJ8 n l) : Int)) && decide ((List.length (aJ8 n l) : Int) ≤ K)) := by
    intro n K
    unfold aJ8
    cases hf : (am1 n l).2 with
    | false => rw [br7 hf]; rfl
    | true =>
     rw [Bool.true_and]
     congr 1
     cases (am1 n l).1 with
     | nil => rfl
     | cons c r => simp; omega
   have h1 := aux aY5 32
   have h2 := aux bK2 64
   unfold aY5 at h1
   unfold bK2 at h2
   show _ = (decide (1 ≤ (List.length (aJ8 [117, 115, 101, 114] l) : Int)) && (decide ((List.length (aJ8 [117, 115, 101, 114] l) : Int) ≤ 32) && (decide (1 ≤ (List.length (aJ8 [33, 115, 101, 99, 114, 101, 116] l) : Int)) && decide ((List.length (aJ8 [33, 115, 101, 99, 114, 101, 116] l) : Int) ≤ 64))))
   rw [← Bool.and_assoc (decide (1 ≤ (List.length (aJ8 [117, 115, 101, 114] l) : Int))), ← h1, ← h2]
   generalize (am1 [117, 115, 101, 114] l) = U
   generalize (am1 [33, 115, 101, 99, 114, 101, 116] l) = V
   cases U.2 <;> cases V.2 <;> simp [Bool.and_assoc]
 ·simp [hc]
def cv6 (s : Str) : Str := [UInt8.ofNat (s.length % 256), UInt8.ofNat (s.length / 256)] ++ s
theorem bc0 (s : Str) : (cv6 s).length = s.length + 2 := by simp [cv6]
theorem bE3 (z : Int) : IntKind.wrap .u8 z = z % 256 := by simp [IntKind.wrap, IntKind.bits, IntKind.signed]
theorem cI9 {n : Nat} (h : n ≤ 65535) : aW0 (n : Int) 2 = some ([UInt8.ofNat (n % 256), UInt8.ofNat (n / 256)], 0) := by
 have w16 : IntKind.wrap .i64 (8 * 2) = 16 := by decide
 have s16 : bo2 .i64 (n : Int) 16 = some 0 := by
  unfold bo2
  rw [if_neg (by omega)]
  have : min (Int.toNat 16) (IntKind.bits .i64) = 16 := by decide
  rw [this]
  congr 1
  rw [Int.fdiv_eq_ediv_of_nonneg _ (by decide)]
  have : ((2 : Int) ^ 16) = 65536 := by decide
  rw [this]; omega
 have hm : mkC 1 (0 : Int) 2 2 = some [0, 0] := by decide
 have s0 : bo2 .i64 (n : Int) 0 = some (n : Int) := by
  unfold bo2
  rw [if_neg (by omega)]
  have : min (Int.toNat 0) (IntKind.bits .i64) = 0 := by decide
  rw [this]
  congr 1
  simp
 have s8 : bo2 .i64 (n : Int) 8 = some ((n / 256 : Nat) : Int) := by
  unfold bo2
  rw [if_neg (by omega)]
  have : min (Int.toNat 8) (IntKind.bits .i64) = 8 := by decide
  rw [this]
  congr 1
  rw [Int.fdiv_eq_ediv_of_nonneg _ (by decide)]
  have : ((2 : Int) ^ 8) = 256 := by decide
  rw [this]; omega
 have w0 : IntKind.wrap .i64 (8 * 0) = 0 := by decide
 have w8 : IntKind.wrap .i64 (8 * 1) = 8 := by decide
 have b1 : am6 (n : Int) [0, 0] 0 [0, 0] = some (.cont (1, [((n : Int) % 256), 0])) := by
  have q0 : IntKind.wrap .i64 0 = 0 := by decide
  have q1 : IntKind.wrap .i64 1 = 1 := by decide
  simp [am6, q0, q1, s0, ae1, bE3]
 have b2 : am6 (n : Int) [0, 0] 1 [((n : Int) % 256), 0] = some (.cont (2, [((n : Int) % 256), (((n / 256 : Nat) : Int) % 256)])) := by
  have q0 : IntKind.wrap .i64 8 = 8 := by decide
  have q1 : IntKind.wrap .i64 2 = 2 := by decide
  simp [am6, q0, q1, s8, ae1, bE3]
 have b3 : am6 (n : Int) [0, 0] 2 [((n : Int) % 256), (((n / 256 : Nat) : Int) % 256)] = some (.done ([UInt8.ofNat (n % 256), UInt8.ofNat (n / 256)], 0)) := by
  have e1 : Int.toNat ((n : Int) % 256) = n % 256 := by omega
  have e2 : Int.toNat (((n / 256 : Nat) : Int) % 256) = n / 256 := by omega
  simp only [am6, bC8, List.map_cons, List.map_nil, e1, e2]
  simp
 unfold aW0
 have hn : ¬ ((n : Int) < 0) := by omega
 simp only [hn, decide_false, Bool.false_eq_true, if_false, show decide ((2 : Int) < 1) = false from by decide, show decide ((8 : Int) < 2) = false from by decide, show decide ((2 : Int) < 8) = true from by decide, Bool.or_self, if_true, w16, s16, Option.bind_some, show decide ((0 : Int) < 0) = false from by decide, hm]
 rw [ai6 (s' := (1, [((n : Int) % 256), 0])) b1, ai6 (s' := (2, [((n : Int) % 256), (((n / 256 : Nat) : Int) % 256)])) b2]
 exact aA5 b3
theorem aP1 {s : Str} (h : s.length ≤ 65535) : ap6 s = some (cv6 s) := by
 unfold ap6 aQ8
 have h1 : ¬ ((65535 : Int) < (List.length s : Int)) := by omega
 simp only [h1, decide_false, Bool.false_eq_true, if_false, cI9 h, Option.bind_some]
 have : an9 [UInt8.ofNat (List.length s % 256), UInt8.ofNat (List.length s / 256)] s = some (cv6 s) := by
  unfold an9; rw [if_pos (by simp; omega)]; rfl
 rw [this]; rfl
def an4 : Str := [99, 104, 97, 108]
def aM6 : Str := [109, 117, 116, 117, 97, 108]
def av1 : Str := [112, 108, 97, 105, 110]
def aK4 (p : Str) : Int := if p = an4 then 3 else if p = aM6 then 3 else if p = av1 then 2 else 0
def br8 (p : Str) : Int := if p = an4 then 2 else 1
def aL7 (p : Str) (role n : Int) : Bool := decide ((decide (Int.tmod n 2 = 0)) = decide (role = br8 p))
def phS (c : aa3) : Int := if c.Step = aK4 c.Proto then 3 else if aL7 c.Proto c.Role c.Step = true then 1 else 2
theorem br9 (p : Str) : ah1 p = some (aK4 p) := by
 unfold ah1 au8 aK4 an4 aM6 av1
 by_cases h1 : p = [99, 104, 97, 108]
 ·simp [h1]
 ·by_cases h2 : p = [109, 117, 116, 117, 97, 108]
  ·simp [h2]
  ·by_cases h3 : p = [112, 108, 97, 105, 110]
   ·simp [h3]
   ·simp [h1, h2, h3]
theorem cp7 (p : Str) : aQ5 p = some (br8 p) := by
 unfold aQ5 br8 an4
 by_cases h1 : p = [99, 104, 97, 108] <;> simp [h1]
theorem bZ0 (p : Str) (role n : Int) : aN9 p role n = some (aL7 p role n) := by
 unfold aN9 aG4 aL7 br8 an4
 by_cases h1 : p = [99, 104, 97, 108] <;> simp [h1]
theorem bR1 (c : aa3) : aI4 c = some (phS c) := by
 unfold aI4 phS
 rw [br9, Option.bind_some]
 by_cases h : c.Step = aK4 c.Proto
 ·simp [h]
 ·simp only [h, decide_false, Bool.false_eq_true, if_false, cp7, Option.bind_some]
  unfold aL7
  cases decide (decide (Int.tmod c.Step 2 = 0) = decide (c.Role = br8 c.Proto)) <;> rfl
def ah5 (p : Str) : Bool := decide (p = an4) || (decide (p = aM6) || decide (p = av1))
theorem bs0 {p : Str} (h : ah5 p = true) : aJ1 p = some (aK4 p) := by
 unfold ah5 at h
 simp only [Bool.or_eq_true, decide_eq_true_eq] at h
 rcases h with rfl | rfl | rfl <;> rfl
theorem cp8 {c : aa3} (h : ah5 c.Proto = true) : aO0 c = some (phS c) := by
 unfold aO0 phS
 rw [bs0 h, Option.bind_some]
 by_cases h2 : c.Step = aK4 c.Proto
 ·simp [h2]
 ·simp only [h2, decide_false, Bool.false_eq_true, if_false, bZ0, Option.bind_some]
  cases aL7 c.Proto c.Role c.Step <;> rfl
theorem bK3 (p : Str) : decide (aK4 p = 0) = !ah5 p := by
 unfold aK4 ah5
 by_cases h1 : p = an4
 ·simp [h1]
 ·by_cases h2 : p = aM6
  ·simp [h2]
  ·by_cases h3 : p = av1
   ·subst h3; decide
   ·simp [h1, h2, h3]
theorem bc1 (p : Str) : af8 [[99, 104, 97, 108], [109, 117, 116, 117, 97, 108], [112, 108, 97, 105, 110]] p = some (ah5 p) := by
 unfold af8 am0
 have : aa9 (fun s => af7 [[99, 104, 97, 108], [109, 117, 116, 117, 97, 108], [112, 108, 97, 105, 110]] p s) 0 = some (ixF (fun x => decide (p = x)) [an4, aM6, av1] 0) := by
  refine bD2 [an4, aM6, av1] _ _ (fun i hi => ?_) ?_
  ·have hi' : i < [([99, 104, 97, 108] : Str), [109, 117, 116, 117, 97, 108], [112, 108, 97, 105, 110]].length := hi
   have hi3 : i < 3 := hi
   simp only [af7, dlt hi', if_true, aa8 hi', Option.bind_some]
   rw [ab1 (by omega)]
   show (if decide (p = [an4, aM6, av1][i]) = true then _ else _) = _
   cases decide (p = [an4, aM6, av1][i]) <;> rfl
  ·simp [af7]
 rw [this, Option.bind_some]
 unfold ah5
 by_cases h1 : p = an4
 ·simp [ixF, h1]
 ·by_cases h2 : p = aM6
  ·have : ¬ (aM6 = an4) := by decide
   simp [ixF, h2, this]
  ·by_cases h3 : p = av1
   ·have e1 : ¬ (av1 = an4) := by decide
    have e2 : ¬ (av1 = aM6) := by decide
    simp [ixF, h3, e1, e2]
   ·simp [ixF, h1, h2, h3]
variable {c : aa3}
def usr (c : aa3) : Str := aJ8 aY5 c.Key
def sec (c : aa3) : Str := aJ8 bK2 c.Key
def bf4 (l : List aa1) : Bool := (decide (1 ≤ (List.length (aJ8 aY5 l) : Int)) && (decide ((List.length (aJ8 aY5 l) : Int) ≤ 32) && (decide (1 ≤ (List.length (aJ8 bK2 l) : Int)) && decide ((List.length (aJ8 bK2 l) : Int) ≤ 64))))
theorem bc2 {t : aa4} {n : Str} (h : t.Conv.Key.length ≤ 1000000) : ad5 t n = some (aJ8 n t.Conv.Key) := by
 unfold ad5 aJ8
 rw [bf1 h]; rfl
theorem bK4 {l : List aa1} (h : l.length ≤ 1000000) : ap5 l = some (aJ8 aY5 l) := by
 unfold ap5 aJ8 aY5
 rw [bf2 h]; rfl
theorem bR2 {l : List aa1} (h : l.length ≤ 1000000) : av7 l = some (aJ8 bK2 l) := by
 unfold av7 aJ8 bK2
 rw [bf2 h]; rfl
theorem bs1 {l : List aa1} (hl : l.length ≤ 1000000) : aH3 l = some (bf4 l) := by
 unfold aH3
 simp only [bf1 hl, Option.bind_some]
 congr 1
 have aux : ∀ (n : Str) (K : Int), ((am1 n l).2 && (decide (1 ≤ (List.length (am1 n l).1 : Int)) && decide ((List.length (am1 n l).1 : Int) ≤ K))) = (decide (1 ≤ (List.length (aJ8 n l) : Int)) && decide ((List.length (aJ8 n l) : Int) ≤ K)) := by
  intro n K
  unfold aJ8
  cases hf : (am1 n l).2 with
  | false => rw [br7 hf]; rfl
  | true => rw [Bool.true_and]
 have h1 := aux aY5 32
 have h2 := aux bK2 64
 unfold aY5 at h1
 unfold bK2 at h2
 show _ = (decide (1 ≤ (List.length (aJ8 [117, 115, 101, 114] l) : Int)) && (decide ((List.length (aJ8 [117, 115, 101, 114] l) : Int) ≤ 32) && (decide (1 ≤ (List.length (aJ8 [33, 115, 101, 99, 114, 101, 116] l) : Int)) && decide ((List.length (aJ8 [33, 115, 101, 99, 114, 101, 116] l) : Int) ≤ 64))))
 rw [← Bool.and_assoc (decide (1 ≤ (List.length (aJ8 [117, 115, 101, 114] l) : Int))), ← h1, ← h2]
 generalize (am1 [117, 115, 101, 114] l) = U
 generalize (am1 [33, 115, 101, 99, 114, 101, 116] l) = V
 cases U.2 <;> cases V.2 <;> simp [Bool.and_assoc]
def bv7 (l : List aa1) : Bool := decide (a43 l = 0) && bf4 l
theorem bR3 {l : List aa1} (h : Sh l) : ∃ e, aj9 l = some e ∧ decide (e = 0) = bv7 l ∧ (e = 0 ∨ e = a43 l ∧ a43 l ≠ 0 ∨ e = 52 ∧ a43 l = 0) := by
 unfold aj9 bv7
 rw [br1 h.ok, Option.bind_some]
 by_cases hc : a43 l = 0
 ·simp only [hc, decide_true, Bool.not_true, Bool.false_eq_true, if_false, bK4 h.le, bR2 h.le, Option.bind_some, Bool.true_and]
  have e : ((decide ((List.length (aJ8 aY5 l) : Int) < 1)) || ((decide (32 < (List.length (aJ8 aY5 l) : Int))) || ((decide ((List.length (aJ8 bK2 l) : Int) < 1)) || (decide (64 < (List.length (aJ8 bK2 l) : Int)))))) = !bf4 l := by
   unfold bf4
   rw [Bool.eq_iff_iff]
   simp only [Bool.or_eq_true, decide_eq_true_eq, Bool.not_eq_true', Bool.and_eq_false_iff, decide_eq_false_iff_not]
   omega
  rw [e]
  cases bf4 l with
  | true => exact ⟨0, rfl, rfl, .inl rfl⟩
  | false => exact ⟨52, rfl, rfl, .inr (.inr ⟨rfl, trivial⟩)⟩
 ·refine ⟨a43 l, by simp [hc], by simp [hc], .inr (.inl ⟨rfl, hc⟩)⟩
def bv8 (c : aa3) : aa3 := {c with Phase := phS c, User := if phS c = 3 then usr c else []}
theorem a16 (hp : ah5 c.Proto = true) (hk : c.Key.length ≤ 1000000) : am7 c = some (bv8 c) := by
 unfold am7 bv8
 rw [aG8 hk, Option.bind_some]
 have h1 : aO0 {c with Key := c.Key} = some (phS c) := cp8 hp
 rw [h1, Option.bind_some]
 by_cases h : phS c = 3
 ·have hv : ad5 (aa4.mk {c with Phase := phS c, Key := c.Key, User := []}) [117, 115, 101, 114] = some (usr c) := bc2 hk
  simp only [h, decide_true, if_true] at hv ⊢
  rw [hv]; rfl
 ·simp [h]
def bz6 (c : aa3) (n : Int) : Int := if c.Proto = an4 ∧ n = 0 then 0 else if c.Proto = aM6 ∧ n = 1 then 0 else if c.Proto = aM6 ∧ n = 0 then ((usr c).length : Int) + 2 else -1
theorem bf5 {n : Int} (hk : c.Key.length ≤ 1000000) (hu : (usr c).length ≤ 65535) : ax5 c n = some (bz6 c n) := by
 have hv : ad5 (aa4.mk c) [117, 115, 101, 114] = some (usr c) := bc2 hk
 have hK : ∀ (n : Int) (b : Bool), au1 c n b = some (if b = true then 0 else if c.Proto = aM6 ∧ n = 0 then ((usr c).length : Int) + 2 else -1) := by
  intro n b
  unfold au1
  cases b with
  | true => rfl
  | false =>
   by_cases h : c.Proto = aM6 ∧ n = 0
   ·have h' := h.1; unfold aM6 at h'
    simp only [Bool.false_eq_true, if_false, h', h.2, decide_true, Bool.and_self, if_true, hv, Option.bind_some, aP1 hu, bc0]
    simp [aM6]
   ·have : (decide (c.Proto = [109, 117, 116, 117, 97, 108]) && decide (n = 0)) = false := by
     rw [Bool.and_eq_false_iff, decide_eq_false_iff_not, decide_eq_false_iff_not]
     rcases Classical.not_and_iff_not_or_not.1 h with h | h
     ·exact .inl h
     ·exact .inr h
    simp only [this, Bool.false_eq_true, if_false, h]
 unfold ax5 bz6
 by_cases h1 : c.Proto = an4 ∧ n = 0
 ·have h' := h1.1; unfold an4 at h'
  simp only [h', h1.2, decide_true, Bool.and_self, if_true, hK]
  simp [an4]
 ·have : (decide (c.Proto = [99, 104, 97, 108]) && decide (n = 0)) = false := by
   rw [Bool.and_eq_false_iff, decide_eq_false_iff_not, decide_eq_false_iff_not]
   rcases Classical.not_and_iff_not_or_not.1 h1 with h | h
   ·exact .inl h
   ·exact .inr h
  simp only [this, Bool.false_eq_true, if_false, h1, hK]
  congr 1
  by_cases h2 : c.Proto = aM6 ∧ n = 1
  ·have h' := h2.1; unfold aM6 at h'
   simp only [h', h2.2, decide_true, Bool.and_self, if_true]
   simp [aM6]
  ·have : (decide (c.Proto = [109, 117, 116, 117, 97, 108]) && decide (n = 1)) = false := by
    rw [Bool.and_eq_false_iff, decide_eq_false_iff_not, decide_eq_false_iff_not]
    rcases Classical.not_and_iff_not_or_not.1 h2 with h | h
    ·exact .inl h
    ·exact .inr h
   simp only [this, Bool.false_eq_true, if_false, h2]
def kb (c : aa3) (n : Int) : Bool := decide (0 ≤ bz6 c n) && !aL7 c.Proto c.Role n
theorem bz7 {n : Nat} (hn : n ≤ 3) (hk : c.Key.length ≤ 1000000) (hu : (usr c).length ≤ 65535) : az5 c n = some (if (n : Int) < c.Step then (if kb c n = true then .done true else .cont ((n : Int) + 1)) else .done false) := by
 unfold az5
 by_cases h : (n : Int) < c.Step
 ·simp only [h, decide_true, if_true, bf5 hk hu, Option.bind_some, bZ0]
  unfold kb
  rw [ab1 (by omega)]
  by_cases q : 0 ≤ bz6 c n
  ·simp only [q, decide_true, if_true, Option.bind_some, Bool.true_and]
   cases aL7 c.Proto c.Role n <;> rfl
  ·simp [q]
 ·simp [h]
def bi6 (c : aa3) : Bool := (decide (0 < c.Step) && kb c 0) || ((decide (1 < c.Step) && kb c 1) || (decide (2 < c.Step) && kb c 2))
theorem cp9 (h0 : 0 ≤ c.Step) (h3 : c.Step ≤ 3) (hk : c.Key.length ≤ 1000000) (hu : (usr c).length ≤ 65535) : aO3 c = some (bi6 c) := by
 unfold aO3
 refine (af6 3 (fun (_ : Unit) i => i) (fun s => az5 c s) (fun i _ => match i with
   | 0 => bi6 c
   | 1 => (decide (1 < c.Step) && kb c 1) || (decide (2 < c.Step) && kb c 2)
   | 2 => decide (2 < c.Step) && kb c 2
   | _ => false) (fun i _ => (i : Int) ≤ 3) (s0 := ()) (by omega) ?_ ?_)
 ·intro _ i hi _
  rw [bz7 (by omega) hk hu]
  have hc : i = 0 ∨ i = 1 ∨ i = 2 := by omega
  by_cases hs : (i : Int) < c.Step
  ·simp only [hs, if_true]
   rcases hc with rfl | rfl | rfl
   ·have hs' : (0 : Int) < c.Step := hs
    have e : kb c ((0 : Nat) : Int) = kb c 0 := rfl
    cases hb : kb c 0 with
    | true =>
     right
     first | rw [e, hb] | skip
     simp [bi6, hs', hb]
    | false =>
     left
     first | rw [e, hb] | skip
     exact ⟨(), rfl, by simp [bi6, hs', hb], by omega⟩
   ·have hs' : (1 : Int) < c.Step := hs
    have e : kb c ((1 : Nat) : Int) = kb c 1 := rfl
    cases hb : kb c 1 with
    | true =>
     right
     first | rw [e, hb] | skip
     simp [hs', hb]
    | false =>
     left
     first | rw [e, hb] | skip
     exact ⟨(), rfl, by simp [hs', hb], by omega⟩
   ·have hs' : (2 : Int) < c.Step := hs
    have e : kb c ((2 : Nat) : Int) = kb c 2 := rfl
    cases hb : kb c 2 with
    | true =>
     right
     first | rw [e, hb] | skip
     simp [hs', hb]
    | false =>
     left
     first | rw [e, hb] | skip
     exact ⟨(), rfl, by simp [hs', hb], by omega⟩
  ·right
   simp only [hs, if_false]
   rcases hc with rfl | rfl | rfl
   ·have a1 : ¬ (0 : Int) < c.Step := hs
    have a2 : ¬ (1 : Int) < c.Step := by omega
    have a3 : ¬ (2 : Int) < c.Step := by omega
    simp [bi6, a1, a2, a3]
   ·have a2 : ¬ (1 : Int) < c.Step := hs
    have a3 : ¬ (2 : Int) < c.Step := by omega
    simp [a2, a3]
   ·have a3 : ¬ (2 : Int) < c.Step := hs
    simp [a3]
 ·intro _ _
  rw [bz7 (n := 3) (by omega) hk hu]
  have : ¬ ((3 : Nat) : Int) < c.Step := by omega
  simp only [this, if_false]
def as1 (c : aa3) : Bool := if c.Proto = an4 then (decide (c.Role = 1) && decide (0 < c.Step)) else if c.Proto = aM6 ∧ c.Role = 2 then decide (0 < c.Step) else (decide (c.Proto = aM6) && decide (1 < c.Step))
theorem bR4 (c : aa3) : at2 c = some (as1 c) := by
 unfold at2 as1 an4 aM6
 by_cases h1 : c.Proto = [99, 104, 97, 108]
 ·simp [h1]
 ·by_cases h2 : c.Proto = [109, 117, 116, 117, 97, 108] ∧ c.Role = 2
  ·simp [h2.1, h2.2]
  ·have : (decide (c.Proto = [109, 117, 116, 117, 97, 108]) && decide (c.Role = 2)) = false := by
    rw [Bool.and_eq_false_iff, decide_eq_false_iff_not, decide_eq_false_iff_not]
    rcases Classical.not_and_iff_not_or_not.1 h2 with h | h
    ·exact .inl h
    ·exact .inr h
   simp only [h1, decide_false, Bool.false_eq_true, if_false, this, h2]
theorem bs3 (hp : ah5 c.Proto = true) (hr : c.Role = 1 ∨ c.Role = 2) : bi6 c = as1 c := by
 unfold ah5 at hp
 simp only [Bool.or_eq_true, decide_eq_true_eq] at hp
 have n0 : ¬ (an4 = aM6) := by decide
 have n1 : ¬ (aM6 = an4) := by decide
 have n2 : ¬ (av1 = an4) := by decide
 have n3 : ¬ (av1 = aM6) := by decide
 have hu : (0 : Int) ≤ ((usr c).length : Int) + 2 := by omega
 have d : Int.tmod 0 2 = 0 ∧ Int.tmod 1 2 = 1 ∧ Int.tmod 2 2 = 0 := by decide
 rcases hp with h | h | h <;> rcases hr with r | r <;> simp [bi6, as1, kb, bz6, aL7, br8, h, r, n0, n1, n2, n3, hu, d]
variable {c : aa3} {a : aa2}
def bi7 (c : aa3) : Bool := !decide (c.Id < 0) && (!decide (1048575 < c.Id) && (ah5 c.Proto && ((decide (c.Role = 1) || decide (c.Role = 2)) && (bv7 c.Key && (decide ((List.length c.Own : Int) = 32) && (!decide (c.Step < 0) && !decide (aK4 c.Proto < c.Step)))))))
def bc3 (c : aa3) : Bool := decide (c.Phase = 4) && decide (phS c = 2)
def stB (c : aa3) : Bool := (bc3 c || decide (c.Phase = phS c)) && (decide (c.User = if phS c = 3 then usr c else []) && decide (c.Err = if bc3 c = true then 28 else 0))
def aY6 (c : aa3) : Bool := if as1 c = true then decide ((List.length c.Peer : Int) = 32) else decide (c.Peer = [])
def ag4 (c : aa3) : Bool := bi7 c && (stB c && aY6 c)
theorem bE4 (p : Str) : aK4 p ≤ 3 := by
 unfold aK4
 split
 ·omega
 ·split
  ·omega
  ·split <;> omega
theorem bZ1 {c : aa3} (h : bv7 c.Key = true) : (usr c).length ≤ 32 ∧ 1 ≤ (usr c).length ∧ (sec c).length ≤ 64 ∧ 1 ≤ (sec c).length := by
 unfold bv7 bf4 at h
 simp only [Bool.and_eq_true, decide_eq_true_eq] at h
 unfold usr sec
 omega
theorem bK5 (hk : Sh c.Key) : aH4 c = some (ag4 c) := by
 have hl := hk.le
 unfold aH4 ag4
 by_cases h1 : c.Id < 0
 ·simp [h1, bi7]
 by_cases h2 : 1048575 < c.Id
 ·simp [h1, h2, bi7]
 by_cases h3 : ah5 c.Proto = true
 case neg =>
  rw [Bool.not_eq_true] at h3
  simp [h1, h2, h3, bi7, aq3, bc1]
 by_cases h4 : c.Role = 1 ∨ c.Role = 2
 case neg =>
  have r1 : ¬ c.Role = 1 := fun h => h4 (.inl h)
  have r2 : ¬ c.Role = 2 := fun h => h4 (.inr h)
  simp [h1, h2, h3, r1, r2, bi7, aq3, bc1]
 have e4 : (if (!decide (c.Role = 1)) = true then some (!decide (c.Role = 2)) else some false) = some false := by
  rcases h4 with h | h <;> simp [h]
 simp only [h1, h2, decide_false, Bool.false_eq_true, if_false, aq3, Option.bind_some, bc1, h3, Bool.not_true, e4, bk8 hk.ok]
 by_cases h5 : bv7 c.Key = true
 case neg =>
  rw [Bool.not_eq_true] at h5
  have : (if (!decide (a43 c.Key = 0)) = true then some true else (aH3 c.Key).bind fun x11 => if (!x11) = true then some true else if (!decide ((List.length c.Own : Int) = 32)) = true then some true else if decide (c.Step < 0) = true then some true else (aJ1 c.Proto).bind fun x15 => some (decide (x15 < c.Step))) = some true := by
   unfold bv7 at h5
   by_cases hc : a43 c.Key = 0
   ·simp only [hc, decide_true, Bool.true_and] at h5
    simp [hc, bs1 hl, h5]
   ·simp [hc]
  simp only [this, Option.bind_some, if_true]
  simp [bi7, h5]
 have h5' := h5
 unfold bv7 at h5'
 simp only [Bool.and_eq_true, decide_eq_true_eq] at h5'
 simp only [h5'.1, decide_true, Bool.not_true, Bool.false_eq_true, if_false, bs1 hl, h5'.2, Option.bind_some]
 by_cases h6 : (List.length c.Own : Int) = 32
 case neg => simp [h6, bi7]
 by_cases h7 : c.Step < 0
 ·simp [h6, h7, bi7]
 by_cases h8 : aK4 c.Proto < c.Step
 ·simp [h6, h7, h8, bi7, bs0 h3]
 simp only [h6, h7, h8, decide_true, decide_false, Bool.not_true, Bool.false_eq_true, if_false, bs0 h3, Option.bind_some, a16 h3 hl]
 have hpre : bi7 c = true := by
  have e4' : (decide (c.Role = 1) || decide (c.Role = 2)) = true := by simpa using h4
  simp [bi7, h1, h2, h3, e4', h5, h6, h7, h8]
 have hm := bE4 c.Proto
 obtain ⟨u1, _⟩ := bZ1 h5
 rw [hpre, Bool.true_and]
 have eK : aO3 c = some (as1 c) := by rw [cp9 (by omega) (by omega) hl (by omega), bs3 h3 h4]
 have eP : (bv8 c).Phase = phS c := rfl
 have eU : (bv8 c).User = if phS c = 3 then usr c else [] := rfl
 rw [eP, eU, eK]
 have eF : (decide (c.Phase = 4) && decide (phS c = 2)) = bc3 c := rfl
 rw [eF]
 have key : (if (!bc3 c) = true then if (!decide (c.Phase = phS c)) = true then some true else if (!decide (c.User = if phS c = 3 then usr c else [])) = true then some true else if (!decide (bc3 c = decide (c.Err = 28))) = true then some true else some (!decide (c.Err = 0)) else if (!decide (c.User = if phS c = 3 then usr c else [])) = true then some true else if (!decide (bc3 c = decide (c.Err = 28))) = true then some true else some false) = some (!stB c) := by
  unfold stB
  generalize (if phS c = 3 then usr c else []) = X
  cases hf : bc3 c with
  | true =>
   by_cases q : c.User = X
   ·by_cases e : c.Err = 28
    ·simp [q, e]
    ·simp [q, e]
   ·simp [q]
  | false =>
   by_cases p : c.Phase = phS c
   ·by_cases q : c.User = X
    ·by_cases e : c.Err = 28
     ·simp [p, q, e]
     ·by_cases z : c.Err = 0
      ·simp [p, q, z]
      ·simp [p, q, e, z]
    ·simp [p, q]
   ·simp [p]
 rw [key, Option.bind_some]
 unfold aY6
 cases stB c with
 | false => simp
 | true => simp only [Bool.not_true, Bool.false_eq_true, if_false, Option.bind_some, Bool.true_and]; cases as1 c <;> rfl
theorem bR5 (hk : Sh c.Key) : aw9 c = some (ag4 c) := by
 have hl := hk.le
 obtain ⟨e, he, hd, _⟩ := bR3 hk
 unfold aw9
 have hpre : (if decide (c.Id < 0) = true then some true else if decide (1048575 < c.Id) = true then some true else (ah1 c.Proto).bind fun x3 => if decide (x3 = 0) = true then some true else if (!decide (c.Role = 1)) = true then if (!decide (c.Role = 2)) = true then some true else if (!decide ((List.length c.Own : Int) = 32)) = true then some true else if decide (c.Step < 0) = true then some true else (ah1 c.Proto).bind fun x9 => if decide (x9 < c.Step) = true then some true else (aj9 c.Key).bind fun x11 => some (!decide (x11 = 0)) else if (!decide ((List.length c.Own : Int) = 32)) = true then some true else if decide (c.Step < 0) = true then some true else (ah1 c.Proto).bind fun x14 => if decide (x14 < c.Step) = true then some true else (aj9 c.Key).bind fun x16 => some (!decide (x16 = 0))) = some (!bi7 c) := by
  simp only [br9, Option.bind_some, bK3, he, hd]
  unfold bi7
  by_cases h1 : c.Id < 0
  ·simp [h1]
  by_cases h2 : 1048575 < c.Id
  ·simp [h1, h2]
  by_cases h3 : ah5 c.Proto = true
  case neg => rw [Bool.not_eq_true] at h3; simp [h1, h2, h3]
  by_cases h6 : (List.length c.Own : Int) = 32
  case neg =>
   by_cases r1 : c.Role = 1
   ·simp [h1, h2, h3, h6, r1]
   ·by_cases r2 : c.Role = 2
    ·simp [h1, h2, h3, h6, r1, r2]
    ·simp [h1, h2, h3, h6, r1, r2]
  by_cases h7 : c.Step < 0
  ·by_cases r1 : c.Role = 1
   ·simp [h1, h2, h3, h6, h7, r1]
   ·by_cases r2 : c.Role = 2
    ·simp [h1, h2, h3, h6, h7, r1, r2]
    ·simp [h1, h2, h3, h6, h7, r1, r2]
  by_cases h8 : aK4 c.Proto < c.Step
  ·by_cases r1 : c.Role = 1
   ·simp [h1, h2, h3, h6, h7, h8, r1]
   ·by_cases r2 : c.Role = 2
    ·simp [h1, h2, h3, h6, h7, h8, r1, r2]
    ·simp [h1, h2, h3, h6, h7, h8, r1, r2]
  by_cases r1 : c.Role = 1
  ·simp [h1, h2, h3, h6, h7, h8, r1]
  ·by_cases r2 : c.Role = 2
   ·simp [h1, h2, h3, h6, h7, h8, r1, r2]
   ·simp [h1, h2, h3, h6, h7, h8, r1, r2]
 rw [hpre, Option.bind_some]
 unfold ag4
 cases bi7 c with
 | false => rfl
 | true =>
  simp only [Bool.not_true, Bool.false_eq_true, if_false, bR4, Option.bind_some, Bool.true_and]
  have hP : (if as1 c = true then if (!decide ((List.length c.Peer : Int) = 32)) = true then some true else if (!as1 c) = true then some (!decide (c.Peer = [])) else some false else if (!as1 c) = true then some (!decide (c.Peer = [])) else some false) = some (!aY6 c) := by
   unfold aY6
   cases as1 c with
   | true => by_cases q : (List.length c.Peer : Int) = 32 <;> simp [q]
   | false => simp
  rw [hP, Option.bind_some]
  cases aY6 c with
  | false => simp
  | true =>
   simp only [Bool.not_true, Bool.false_eq_true, if_false, bR1, Option.bind_some, Bool.and_true]
   have hK : ∀ p e : Int, at3 c p e = some (decide (c.Phase = p) && (decide (c.User = if p = 3 then usr c else []) && decide (c.Err = e))) := by
    intro p e
    unfold at3
    by_cases h : p = 3
    ·simp only [h, decide_true, if_true, bK4 hl, Option.bind_some]; rfl
    ·simp only [h, decide_false, Bool.false_eq_true, if_false]; rfl
   rw [hK, hK]
   unfold stB bc3
   by_cases p : phS c = 2
   ·by_cases q : c.Phase = 4
    ·simp [p, q]
    ·simp [p, q]
   ·simp [p]
def ap1 (c : aa3) : Bool := (decide (c.Proto = [])) && ((decide (c.Role = 0)) && ((decide (c.Phase = 0)) && ((decide (c.Step = 0)) && ((decide (c.Key = [])) && ((decide (c.Own = [])) && ((decide (c.Peer = [])) && ((decide (c.User = [])) && (decide (c.Err = 0)))))))))
theorem bE5 (c : aa3) : au0 c = some (ap1 c) := by
 unfold au0 ap1
 have : decide ((List.length c.Key : Int) = 0) = decide (c.Key = []) := by
  rw [decide_eq_decide]
  constructor
  ·intro h; exact List.eq_nil_of_length_eq_zero (by omega)
  ·intro h; rw [h]; rfl
 rw [this]
theorem bR6 (h : c.Key.length ≤ 1000000) : at1 c = some (ap1 c) := by
 unfold at1 ar3 ap1
 simp only [cd6 h, Option.bind_some, decide_true, if_true]
 by_cases h1 : c.Proto = []
 case neg => simp [h1]
 by_cases h2 : c.Role = 0
 case neg => simp [h1, h2]
 by_cases h3 : c.Phase = 0
 case neg => simp [h1, h2, h3]
 by_cases h4 : c.Step = 0
 case neg => simp [h1, h2, h3, h4]
 by_cases h5 : c.Key = []
 case neg => simp [h1, h2, h3, h4, h5]
 by_cases h6 : c.Own = []
 case neg => simp [h1, h2, h3, h4, h5, h6]
 by_cases h7 : c.Peer = []
 case neg => simp [h1, h2, h3, h4, h5, h6, h7]
 by_cases h8 : c.User = []
 case neg => simp [h1, h2, h3, h4, h5, h6, h7, h8]
 simp [h1, h2, h3, h4, h5, h6, h7, h8]
def bR7 (l : List (List aa1)) (i : Nat) (k : List aa1) : Bool := bY9 k && !((l.take i).any fun o => decide (pub o = pub k))
theorem cd8 {l : List (List aa1)} {k : List aa1} (hl : l.length ≤ 1000000) (h : ∀ o ∈ l, o.length ≤ 1000000) (hk : k.length ≤ 1000000) : ad4 l k = some (l.any fun o => decide (pub o = pub k)) := by
 unfold ad4
 have : ae7 l k = some (bc8 (fun o => decide (pub o = pub k)) l) := by
  unfold ae7
  refine aR8 hl (fun i hi => ?_) ?_
  ·simp only [ad3, dlt hi, if_true, aa8 hi, Option.bind_some, aW2, bY8 (h _ (List.getElem_mem hi)) hk]
  ·simp [ad3]
 rw [this, Option.bind_some, bD7]
theorem cA3 (h : Lim a) : aO2 a = some (bu3 (bR7 a.Keys) 0 a.Keys && decide ((List.length a.Keys : Int) ≤ 64)) := by
 have h1 := h.keys
 unfold aO2
 refine (a96 a.Keys (bR7 a.Keys) false (decide ((List.length a.Keys : Int) ≤ 64)) _ (fun i hi => ?_) ?_).trans ?_
 ·have hk := h.key _ (List.getElem_mem hi)
  have hc : cut a.Keys 0 (i : Int) = some (a.Keys.take i) := aN6 (by omega)
  simp only [aD4, dlt hi, if_true, aa8 hi, Option.bind_some, cv5 hk, hc, cd8 (show (a.Keys.take i).length ≤ 1000000 by simp; omega) (fun o ho => (h.key o (List.mem_of_mem_take ho)).le) hk.le]
  rw [ab1 (by omega)]
  unfold bR7
  cases bY9 a.Keys[i] <;> cases ((a.Keys.take i).any fun o => decide (pub o = pub a.Keys[i])) <;> rfl
 ·simp [aD4]
 ·cases bu3 (bR7 a.Keys) 0 a.Keys <;> rfl
theorem cd9 {l : List (List aa1)} {i : Nat} (hi : i < l.length) : decide (ixF (fun k => decide (pub k = pub l[i])) l 0 = (i : Int)) = !((l.take i).any fun o => decide (pub o = pub l[i])) := by
 rw [Bool.eq_iff_iff]
 simp only [decide_eq_true_eq, Bool.not_eq_true', List.any_eq_false]
 rcases aV3 (fun k => decide (pub k = pub l[i])) l 0 with ⟨h1, h2⟩ | ⟨x, k, y, h1, h2, h3, h4⟩
 ·have := h1 _ (List.getElem_mem hi)
  simp at this
 ·rw [h4]
  constructor
  ·intro e o ho
   have e' : x.length = i := by simp at e; omega
   have : l.take i = x := by rw [h1, ← e', List.take_left]
   rw [this] at ho
   simpa using h3 o ho
  ·intro e
   have hle : x.length ≤ i := by
    rcases Nat.lt_or_ge i x.length with q | q
    ·exfalso
     have hx : l[i] = x[i] := by
      have : l[i]? = x[i]? := by rw [h1, List.getElem?_append_left q]
      simpa [hi, q] using this
     have := h3 _ (List.getElem_mem q)
     rw [← hx] at this
     simp at this
    ·exact q
   rcases Nat.lt_or_ge x.length i with q | q
   ·exfalso
    have hm : k ∈ l.take i := by
     rw [h1, List.take_append]
     refine List.mem_append_right _ ?_
     rw [show i - x.length = (i - x.length - 1) + 1 by omega, List.take_succ_cons]
     exact List.mem_cons_self
    have := e k hm
    simp only [decide_eq_true_eq] at h2
    simp [h2] at this
   ·simp; omega
def aY7 (a : aa2) (i : Nat) (c : aa3) : Bool := !decide (c.Id < 1) && (!decide (a.Next ≤ c.Id) && ((match i with | 0 => true | k + 1 => match a.Convs[k]? with | some p => !decide (c.Id ≤ p.Id) | none => false) && (ap1 c || ag4 c)))
def bv9 (a : aa2) : Bool := !((decide (a.Owner = [])) || ((decide (32 < (List.length a.Owner : Int))) || ((decide (1024 < (List.length a.Seed : Int))) || ((decide (a.Next < 1)) || ((decide (1048560 < a.Next)) || ((decide (a.Count < 0)) || (decide (9007199254740991 < a.Count))))))))
def aT4 (a : aa2) : Bool := bv9 a && (!decide (32 < (List.length a.Convs : Int)) && (!decide (64 < (List.length a.Keys : Int)) && (bu3 (bR7 a.Keys) 0 a.Keys && bu3 (aY7 a) 0 a.Convs)))
theorem bK6 {β : Type} {i : Nat} (hi : i < a.Convs.length) (hl : a.Convs.length ≤ 1000000) (F : aa3 → Option Bool) (hF : F a.Convs[i] = some (ap1 a.Convs[i] || ag4 a.Convs[i])) (f g : aa3 → Option Bool)
  (hf : f a.Convs[i] = some (ap1 a.Convs[i])) (hg : g a.Convs[i] = some (ag4 a.Convs[i])) :
  (if (decide ((a.Convs[i]).Id < 1)) then some true else if (decide (a.Next ≤ (a.Convs[i]).Id)) then some true else if (decide (0 < (i : Int))) then (ae1 a.Convs (IntKind.wrap .i64 ((i : Int) - 1))).bind fun x30 => if (decide ((a.Convs[i]).Id ≤ x30.Id)) then some true else (f a.Convs[i]).bind fun x32 => if (!x32) then (g a.Convs[i]).bind fun x34 => some (!x34) else some false else (f a.Convs[i]).bind fun x35 => if (!x35) then (g a.Convs[i]).bind fun x37 => some (!x37) else some false) = some (!aY7 a i a.Convs[i]) := by
 unfold aY7
 have hfg : ((f a.Convs[i]).bind fun x32 => if (!x32) then (g a.Convs[i]).bind fun x34 => some (!x34) else some false) = some (!(ap1 a.Convs[i] || ag4 a.Convs[i])) := by
  rw [hf, hg, Option.bind_some]
  cases ap1 a.Convs[i] <;> simp
 simp only [hfg]
 by_cases h1 : (a.Convs[i]).Id < 1
 ·simp [h1]
 by_cases h2 : a.Next ≤ (a.Convs[i]).Id
 ·simp [h1, h2]
 simp only [h1, h2, decide_false, Bool.false_eq_true, if_false, Bool.not_false, Bool.true_and]
 cases i with
 | zero => simp
 | succ k =>
  have hk : k < a.Convs.length := by omega
  have hw : IntKind.wrap .i64 (((k + 1 : Nat) : Int) - 1) = (k : Int) := by rw [ag8 (by omega) (by omega)]; omega
  have hp : (0 : Int) < ((k + 1 : Nat) : Int) := by omega
  rw [hw, aa8 hk]
  simp only [hp, decide_true, if_true, Option.bind_some, List.getElem?_eq_getElem hk]
  by_cases h3 : (a.Convs[k + 1]).Id ≤ (a.Convs[k]).Id
  ·simp [h3]
  ·simp [h3]
theorem cq0 (h : Lim a) : au2 a = some (aT4 a) := by
 have h1 := h.keys
 have h2 := h.convs
 unfold au2 aT4
 have eb : ((decide (a.Owner = [])) || ((decide (32 < (List.length a.Owner : Int))) || ((decide (1024 < (List.length a.Seed : Int))) || ((decide (a.Next < 1)) || ((decide (1048560 < a.Next)) || ((decide (a.Count < 0)) || (decide (9007199254740991 < a.Count)))))))) = !bv9 a := by unfold bv9; rw [Bool.not_not]
 rw [eb]
 cases bv9 a with
 | false => rfl
 | true =>
  simp only [Bool.not_true, Bool.false_eq_true, if_false, Bool.true_and]
  by_cases q1 : (32 : Int) < (List.length a.Convs : Int)
  ·simp [q1]
  by_cases q2 : (64 : Int) < (List.length a.Keys : Int)
  ·simp [q1, q2]
  have q2' : decide ((List.length a.Keys : Int) ≤ 64) = true := by simp; omega
  simp only [q1, q2, decide_false, Bool.false_eq_true, if_false, cA3 h, q2', Option.bind_some, Bool.and_true, Bool.not_false, Bool.true_and]
  cases bu3 (bR7 a.Keys) 0 a.Keys with
  | false => rfl
  | true =>
   simp only [Bool.not_true, Bool.false_eq_true, if_false, Bool.true_and]
   refine (a96 a.Convs (aY7 a) false true _ (fun i hi => ?_) ?_).trans ?_
   ·have hs := (h.conv _ (List.getElem_mem hi)).key
    simp only [az6, dlt hi, if_true, aa8 hi, Option.bind_some]
    rw [bK6 (β := Unit) hi (by omega) (fun _ => some (ap1 a.Convs[i] || ag4 a.Convs[i])) rfl au0 aH4 (bE5 _) (bK5 hs), Option.bind_some, ab1 (by omega)]
    cases aY7 a i a.Convs[i] <;> rfl
   ·simp [az6]
   ·cases bu3 (aY7 a) 0 a.Convs <;> rfl
theorem bs4 (h : Lim a) : at6 a = some (aT4 a) := by
 have h1 := h.keys
 have h2 := h.convs
 have hC : aa9 (fun s => at4 a s) 0 = some (bu3 (aY7 a) 0 a.Convs) := by
  refine (a96 a.Convs (aY7 a) false true _ (fun i hi => ?_) ?_).trans ?_
  ·have hs := (h.conv _ (List.getElem_mem hi)).key
   simp only [at4, dlt hi, if_true, aa8 hi, Option.bind_some]
   rw [bK6 (β := Unit) hi (by omega) (fun _ => some (ap1 a.Convs[i] || ag4 a.Convs[i])) rfl at1 aw9 (bR6 hs.le) (bR5 hs), Option.bind_some, ab1 (by omega)]
   cases aY7 a i a.Convs[i] <;> rfl
  ·simp [at4]
  ·cases bu3 (aY7 a) 0 a.Convs <;> rfl
 have hK : aa9 (fun s => at5 a s) 0 = some (bu3 (bR7 a.Keys) 0 a.Keys && bu3 (aY7 a) 0 a.Convs) := by
  refine (a96 a.Keys (bR7 a.Keys) false (bu3 (aY7 a) 0 a.Convs) _ (fun i hi => ?_) ?_).trans ?_
  ·have hk := h.key _ (List.getElem_mem hi)
   have hp := cd9 hi
   have := @cp5 a.Keys (pub a.Keys[i]) (by omega) (fun k hk => (h.key k hk).le)
   unfold pub at this
   simp only [at5, dlt hi, if_true, aa8 hi, Option.bind_some, cp6 hk, bi5 hk.le, this]
   rw [ab1 (by omega)]
   unfold pub at hp
   rw [hp]
   unfold bR7 pub
   cases bY9 a.Keys[i] <;> cases ((a.Keys.take i).any fun o => decide ((o.filter fun a => !ai7 a.Name) = (a.Keys[i]).filter fun a => !ai7 a.Name)) <;> rfl
  ·simp [at5, hC]
  ·cases bu3 (bR7 a.Keys) 0 a.Keys <;> rfl
 unfold at6 aT4 bv9
 rw [hK]
 unfold aV4
 by_cases q1 : a.Owner = []
 ·simp [q1]
 by_cases q2 : (32 : Int) < (List.length a.Owner : Int)
 ·simp [q1, q2]
 by_cases q3 : (1024 : Int) < (List.length a.Seed : Int)
 ·simp [q1, q2, q3]
 by_cases q4 : (64 : Int) < (List.length a.Keys : Int)
 ·simp [q1, q2, q3, q4]
 by_cases q5 : (32 : Int) < (List.length a.Convs : Int)
 ·simp [q1, q2, q3, q4, q5]
 simp only [q1, q2, q3, q4, q5, decide_false, Bool.or_self, Bool.false_eq_true, if_false, Option.bind_some, decide_true, Bool.not_true, Bool.or_false, Bool.false_or, Bool.not_false, Bool.true_and]
 cases ((decide (a.Next < 1)) || ((decide (1048560 < a.Next)) || ((decide (a.Count < 0)) || (decide (9007199254740991 < a.Count))))) <;> rfl
structure Val (a : aa2) : Prop where
 lim : Lim a
 ok : aT4 a = true
theorem Val.base (v : Val a) : a.Owner ≠ [] ∧ a.Owner.length ≤ 32 ∧ a.Seed.length ≤ 1024 ∧ 1 ≤ a.Next ∧ a.Next ≤ 1048560 ∧ 0 ≤ a.Count ∧ a.Count ≤ 9007199254740991 ∧ a.Convs.length ≤ 32 ∧ a.Keys.length ≤ 64 := by
 have h := v.ok
 unfold aT4 bv9 at h
 simp only [Bool.and_eq_true, Bool.not_eq_true', Bool.or_eq_false_iff, decide_eq_false_iff_not] at h
 obtain ⟨⟨h1, h2, h3, h4, h5, h6, h7⟩, h8, h9, _⟩ := h
 exact ⟨h1, by omega, by omega, by omega, by omega, by omega, by omega, by omega, by omega⟩
theorem Val.convAt (v : Val a) {i : Nat} (hi : i < a.Convs.length) : 1 ≤ (a.Convs[i]).Id ∧ (a.Convs[i]).Id < a.Next ∧ (ap1 a.Convs[i] = true ∨ ag4 a.Convs[i] = true) := by
 have h := v.ok
 unfold aT4 at h
 simp only [Bool.and_eq_true] at h
 have := a95.1 h.2.2.2.2 i hi
 unfold aY7 at this
 simp only [Bool.and_eq_true, Bool.not_eq_true', decide_eq_false_iff_not, Bool.or_eq_true] at this
 exact ⟨by omega, by omega, this.2.2.2⟩
theorem Val.conv (v : Val a) {c : aa3} (hc : c ∈ a.Convs) : 1 ≤ c.Id ∧ c.Id < 1048560 := by
 obtain ⟨i, hi, rfl⟩ := List.getElem_of_mem hc
 have := v.convAt hi
 have := v.base
 omega
theorem Val.key (v : Val a) {k : List aa1} (hk : k ∈ a.Keys) : bY9 k = true := by
 obtain ⟨i, hi, rfl⟩ := List.getElem_of_mem hk
 have h := v.ok
 unfold aT4 at h
 simp only [Bool.and_eq_true] at h
 have := a95.1 h.2.2.2.1 i hi
 unfold bR7 at this
 simp only [Bool.and_eq_true] at this
 exact this.1
def aK5 (a : aa2) (id : Int) : Int := ixF (fun c => decide (c.Id = id - 16)) a.Convs 0
theorem cA4 {c : aa3} {id : Int} (w : -9223372036854775808 ≤ id ∧ id ≤ 9223372036854775807) (h : 1 ≤ c.Id ∧ c.Id < 1048560) : decide (c.Id = IntKind.wrap .i64 (id - 16)) = decide (c.Id = id - 16) := by
 by_cases q : -9223372036854775792 ≤ id
 ·rw [ag8 (by omega) (by omega)]
 ·have : IntKind.wrap .i64 (id - 16) = id - 16 + 18446744073709551616 := by
   have e : IntKind.wrap .i64 (id - 16) = if 9223372036854775808 ≤ (id - 16) % 18446744073709551616 then (id - 16) % 18446744073709551616 - 18446744073709551616 else (id - 16) % 18446744073709551616 := by simp [IntKind.wrap, IntKind.bits, IntKind.signed]
   rw [e]
   split <;> omega
  rw [this, decide_eq_decide]
  omega
theorem bs5 (v : Val a) {id : Int} (w : -9223372036854775808 ≤ id ∧ id ≤ 9223372036854775807) : ax3 a id = some (aK5 a id) := by
 have hb := v.base
 unfold ax3 ag7
 have : aa9 (fun s => ab4 a.Convs id s) 0 = some (aK5 a id) := by
  refine bD2 a.Convs _ _ (fun i hi => ?_) ?_
  ·simp only [ab4, dlt hi, if_true, aa8 hi, Option.bind_some, aV9, cA4 w (v.conv (List.getElem_mem hi))]
   rw [ab1 (by omega)]
   cases decide ((a.Convs[i]).Id = id - 16) <;> rfl
  ·simp [ab4]
 rw [this]; rfl
def aj0 (a : aa2) (id : Int) : Bool := (decide (1 ≤ id) && decide (id ≤ 4)) || decide (0 ≤ aK5 a id)
theorem aP2 (v : Val a) {id : Int} (w : -9223372036854775808 ≤ id ∧ id ≤ 9223372036854775807) : am5 a id = some (aj0 a id) := by
 unfold am5 aj0
 rw [bs5 v w]
 cases decide (1 ≤ id) <;> cases decide (id ≤ 4) <;> simp
theorem aC4 (v : Val a) (id : Int) : aK5 a id = -1 ∨ ∃ i, ∃ h : i < a.Convs.length, aK5 a id = (i : Int) ∧ (a.Convs[i]).Id = id - 16 ∧ 17 ≤ id ∧ id < 1048576 := by
 rcases aV3 (fun c => decide (c.Id = id - 16)) a.Convs 0 with ⟨h1, h2⟩ | ⟨x, k, y, h1, h2, h3, h4⟩
 ·exact .inl h2
 ·refine .inr ⟨x.length, by rw [h1]; simp, by unfold aK5; rw [h4]; simp, ?_⟩
  have hk : a.Convs[x.length]? = some k := by rw [h1]; simp
  have hi : x.length < a.Convs.length := by rw [h1]; simp
  have e : a.Convs[x.length] = k := by
   rw [List.getElem?_eq_getElem hi] at hk
   exact Option.some.inj hk
  have hid := of_decide_eq_true h2
  have := v.conv (c := k) (by rw [h1]; simp)
  rw [e]
  omega
def bF4 (p : List aa1) : List (List aa1) → List aa1 × Bool
 | [] => ([], false)
 | k :: r => if p.all (bb9 k) = true then (k, true) else bF4 p r
theorem cJ0 (h : Lim a) {p : List aa1} (hp : p.length ≤ 1000000) : aO1 a p = some (bF4 p a.Keys) := by
 have h1 := h.keys
 unfold aO1
 refine (af6 a.Keys.length (fun (_ : Unit) i => i) (fun s => aE1 a p s) (fun i _ => bF4 p (a.Keys.drop i)) (fun _ _ => True) (s0 := ()) trivial ?_ ?_)
 ·intro _ i hi _
  have hk := (h.key _ (List.getElem_mem hi)).le
  simp only [aE1, dlt hi, if_true, aa8 hi, Option.bind_some, bf3 hk hp, aG8 hk]
  rw [List.drop_eq_getElem_cons hi]
  cases q : p.all (bb9 a.Keys[i]) with
  | true => right; simp [bF4, q]
  | false => left; exact ⟨(), by rw [ab1 (by omega)]; simp, by simp [bF4, q], trivial⟩
 ·intro _ _
  simp [aE1, bF4]
theorem bE6 {p : List aa1} : ∀ {l : List (List aa1)}, (bF4 p l).2 = true → (bF4 p l).1 ∈ l
 | k :: r, h => by
  unfold bF4 at h ⊢
  split
  ·simp
  ·rename_i q
   rw [if_neg q] at h
   exact List.mem_cons_of_mem _ (bE6 h)
variable {c : aa3} {a : aa2} {id : Int}
def ce0 (id : Int) : Str := if id = 1 then [47] else if id = 2 then [99, 116, 108] else if id = 3 then [112, 114, 111, 116, 111] else if id = 4 then [114, 112, 99] else Go.Lib.itoa (id - 16)
def cA5 (id : Int) : Int := if id = 1 then 2147484013 else if id = 3 then 292 else 384
def bz8 (id : Int) : Prop := 1 ≤ id ∧ id ≤ 4 ∨ 17 ≤ id ∧ id < 1048576
theorem ce1 (h : bz8 id) : aO8 id = some (ce0 id, cA5 id) := by
 unfold aO8 ce0 cA5
 by_cases h1 : id = 1
 ·simp [h1]
 by_cases h2 : id = 2
 ·simp [h1, h2]
 by_cases h3 : id = 3
 ·simp [h1, h2, h3]
 by_cases h4 : id = 4
 ·simp [h1, h2, h3, h4]
 have hr : 17 ≤ id ∧ id < 1048576 := by unfold bz8 at h; omega
 simp only [h1, h2, h3, h4, decide_false, Bool.false_eq_true, if_false]
 rw [ag8 (by omega) (by omega), br6 (by omega) (by omega)]; rfl
theorem bR8 (v : Val a) (h : aj0 a id = true) : bz8 id := by
 unfold aj0 at h
 simp only [Bool.or_eq_true, Bool.and_eq_true, decide_eq_true_eq] at h
 rcases h with h | h
 ·exact .inl h
 ·rcases aC4 v id with h1 | ⟨i, hi, _, _, h2⟩
  ·omega
  ·exact .inr h2
def cG8 (a : aa2) (id : Int) : ac7 := ⟨6, 0, ⟨if id = 1 then 128 else 0, 0, id⟩, cA5 id, 0, 0, 0, ce0 id, a.Owner, a.Owner, []⟩
def dir0 : ac7 := ⟨0, 0, ⟨0, 0, 0⟩, 0, 0, 0, 0, [], [], [], []⟩
def b50 (a : aa2) (id : Int) : ac7 × Int := if aj0 a id = true then (cG8 a id, 0) else (dir0, 8)
theorem bR9 (v : Val a) (w : -9223372036854775808 ≤ id ∧ id ≤ 9223372036854775807) : ax6 a id = some (b50 a id) := by
 unfold ax6 b50
 rw [aP2 v w, Option.bind_some]
 cases he : aj0 a id with
 | false => rfl
 | true =>
  simp only [Bool.not_true, Bool.false_eq_true, if_false, ce1 (bR8 v he), Option.bind_some, if_true]
  unfold cG8
  by_cases h : id = 1 <;> simp [h]
def aN0 (a : aa2) : List Int := [2, 3, 4] ++ a.Convs.map fun c => 16 + c.Id
theorem bE7 (v : Val a) : ∀ k ∈ aN0 a, bz8 k ∧ aj0 a k = true := by
 intro k hk
 unfold aN0 at hk
 rcases List.mem_append.1 hk with hk | hk
 ·have : k = 2 ∨ k = 3 ∨ k = 4 := by simpa using hk
  rcases this with rfl | rfl | rfl <;> exact ⟨.inl (by omega), by simp [aj0]⟩
 ·obtain ⟨c, hc, rfl⟩ := List.mem_map.1 hk
  have := v.conv hc
  refine ⟨.inr (by omega), ?_⟩
  unfold aj0
  have : 0 ≤ aK5 a (16 + c.Id) := by
   unfold aK5
   rcases aV3 (fun x : aa3 => decide (x.Id = 16 + c.Id - 16)) a.Convs 0 with ⟨h1, h2⟩ | ⟨x, k, y, h1, h2, h3, h4⟩
   ·have := h1 c hc
    simp at this
    omega
   ·rw [h4]; omega
  simp [this]
theorem bS0 (v : Val a) : (aN0 a).length = a.Convs.length + 3 := by simp [aN0]
theorem cv7 (v : Val a) : aY0 a = some (aN0 a) := by
 have hb := v.base
 unfold aY0
 refine (af6 a.Convs.length (fun (s : List Int) i => (i, s)) (fun s => aE4 a s.1 s.2) (fun i s => s ++ (a.Convs.drop i).map fun c => 16 + c.Id) (fun i s => s.length = i + 3) (s0 := [2, 3, 4]) rfl ?_ ?_).trans rfl
 ·intro s i hi hs
  left
  have hc := v.conv (List.getElem_mem hi)
  refine ⟨s ++ [16 + (a.Convs[i]).Id], ?_, ?_, by simp; omega⟩
  ·simp only [aE4, dlt hi, if_true, aa8 hi, Option.bind_some]
   rw [ag8 (n := 16 + (a.Convs[i]).Id) (by omega) (by omega), ak3 (by simp; omega) (by simp; omega), ab1 (by omega)]; rfl
  ·rw [List.drop_eq_getElem_cons hi, List.map_cons, List.append_assoc]; rfl
 ·intro s hs
  simp [aE4]
def bz9 (want : Str) : List Int → Int × Int
 | [] => (0, 8)
 | k :: r => if ce0 k = want then (k, 0) else bz9 want r
def aY8 (a : aa2) (id : Int) : Int := if aj0 a id = true then (if id = 1 then 0 else 9) else 8
theorem bK7 (v : Val a) (w : -9223372036854775808 ≤ id ∧ id ≤ 9223372036854775807) : aE3 a id = some (aY8 a id) := by
 unfold aE3 aY8
 rw [aP2 v w, Option.bind_some]
 cases aj0 a id with
 | false => rfl
 | true => by_cases h : id = 1 <;> simp [h]
def cq1 (a : aa2) (id : Int) (want : Str) : Int × Int := if aY8 a id = 0 then (if want = [46, 46] then (1, 0) else bz9 want (aN0 a)) else (0, aY8 a id)
theorem ce2 (v : Val a) (w : -9223372036854775808 ≤ id ∧ id ≤ 9223372036854775807) (want : Str) : aC1 a id want = some (cq1 a id want) := by
 have hb := v.base
 have hL := bS0 v
 unfold aC1 cq1
 rw [bK7 v w, Option.bind_some]
 by_cases h0 : aY8 a id = 0
 ·by_cases hd : want = [46, 46]
  ·simp [h0, hd]
  ·simp only [h0, hd, decide_true, decide_false, Bool.not_true, Bool.false_eq_true, if_false, if_true, cv7 v, Option.bind_some]
   refine (af6 (aN0 a).length (fun (_ : Unit) i => i) (fun s => aw4 want (aN0 a) s) (fun i _ => bz9 want ((aN0 a).drop i)) (fun _ _ => True) (s0 := ()) trivial ?_ ?_)
   ·intro _ i hi _
    have hk := (bE7 v _ (List.getElem_mem hi)).1
    simp only [aw4, dlt hi, if_true, aa8 hi, Option.bind_some, ce1 hk]
    rw [List.drop_eq_getElem_cons hi]
    by_cases q : ce0 (aN0 a)[i] = want
    ·right; simp [bz9, q]
    ·left; exact ⟨(), by rw [ab1 (by omega)]; simp [q], by simp [bz9, q], trivial⟩
   ·intro _ _
    simp [aw4, bz9]
 ·simp [h0]
theorem cA6 (h : bz8 id) : -9223372036854775808 ≤ id ∧ id ≤ 9223372036854775807 := by unfold bz8 at h; omega
theorem cq2 (v : Val a) {k : Int} (hk : k ∈ aN0 a) : b50 a k = (cG8 a k, 0) := by
 unfold b50
 rw [if_pos (bE7 v k hk).2]
def b51 (a : aa2) (id : Int) : List ac7 × Int := if aY8 a id = 0 then ((aN0 a).map (cG8 a), 0) else ([], aY8 a id)
theorem ce3 (v : Val a) (w : -9223372036854775808 ≤ id ∧ id ≤ 9223372036854775807) : aC2 a id = some (b51 a id) := by
 have hb := v.base
 have hL := bS0 v
 unfold aC2 b51
 rw [bK7 v w, Option.bind_some]
 by_cases h0 : aY8 a id = 0
 ·simp only [h0, decide_true, Bool.not_true, Bool.false_eq_true, if_false, if_true, cv7 v, Option.bind_some]
  refine co6 (aN0 a) (cG8 a) (fun s i => (i, s)) (fun s => aw5 a (aN0 a) s.1 s.2) ((aN0 a).map (cG8 a), 0) (fun s i hi hs => ?_) ?_
  ·have hm := List.getElem_mem hi
   have hf := cA6 (bE7 v _ hm).1
   simp only [aw5, dlt hi, if_true, aa8 hi, Option.bind_some, bR9 v hf, cq2 v hm]
   rw [ak3 (by simp; omega) (by simp; omega), ab1 (by omega)]; rfl
  ·simp [aw5]
 ·simp [h0]
theorem ce4 {l : List ac7} (h : l.length ≤ 1000000) : aP0 l l = some true := by
 unfold aP0
 simp only [decide_true, Bool.not_true, Bool.false_eq_true, if_false]
 refine (bk5 l (fun _ => true) _ (fun i hi => ?_) ?_).trans (by simp)
 ·simp only [aG7, dlt hi, if_true, aa8 hi, Option.bind_some, decide_true, Bool.and_self, Bool.not_true, Bool.false_eq_true, if_false]
  rw [ab1 (by omega)]
 ·simp [aG7]
theorem cq3 (v : Val a) : (b51 a id).1.length ≤ 1000000 := by
 have := v.base
 have := bS0 v
 unfold b51
 split
 ·simp; omega
 ·simp
def bw0 (k : List aa1) : Str := [107, 101, 121, 32] ++ (if a43 (pub k) = 0 then a44 (pub k) else []) ++ [10]
def bf6 (a : aa2) (id : Int) : Str := if id = 2 then (a.Keys.map bw0).flatten else if id = 3 then an4 ++ [10] ++ (aM6 ++ [10]) ++ (av1 ++ [10]) else []
theorem bK8 {k : List aa1} (h : Sh k) : (bw0 k).length ≤ 31000000 := by
 have hp := cv4 h
 have h1 : (a44 (pub k)).length ≤ 2000 * 15004 + 10 := by
  unfold a44
  have := bY1 (K := 15003) (sep := [32]) (l := (pub k).map bz3) (fun x hx => by
   obtain ⟨y, hy, rfl⟩ := List.mem_map.1 hx
   exact bY0 (hp.ok.2 y hy))
  have h2 := hp.len
  simp only [List.length_map] at this
  have h3 : (pub k).length * (15003 + List.length ([32] : Str)) ≤ 2000 * 15004 := Nat.mul_le_mul h2 (by simp)
  omega
 unfold bw0
 split <;> simp <;> omega
theorem bZ2 : ∀ {l : List (List aa1)}, (∀ k ∈ l, Sh k) → (l.map bw0).flatten.length ≤ l.length * 31000000
 | [], _ => by simp
 | k :: r, h => by
  have h1 := bK8 (h k (by simp))
  have h2 := bZ2 (l := r) fun x hx => h x (by simp [hx])
  simp only [List.map_cons, List.flatten_cons, List.length_append, List.length_cons]
  omega
theorem ce5 (v : Val a) : (bf6 a id).length ≤ 2300000000 := by
 have hb := v.base
 unfold bf6
 split
 ·have := bZ2 (l := a.Keys) v.lim.key
  omega
 ·split
  ·decide
  ·simp
theorem bS1 (v : Val a) : aD0 a id = some (bf6 a id) := by
 have hb := v.base
 unfold aD0 bf6
 by_cases h2 : id = 2
 ·simp only [h2, decide_true, if_true]
  refine (af6 a.Keys.length (fun (s : Str) i => (i, s)) (fun s => am8 a s.1 s.2) (fun i s => s ++ ((a.Keys.drop i).map bw0).flatten) (fun i s => s.length ≤ i * 31000000) (s0 := []) (by simp) ?_ ?_).trans rfl
  ·intro s i hi hs
   left
   have hk := v.lim.key _ (List.getElem_mem hi)
   have hl := bK8 hk
   have hp := cp1 (cv4 hk).ok
   unfold pub at hp
   refine ⟨s ++ bw0 a.Keys[i], ?_, ?_, ?_⟩
   ·simp only [am8, dlt hi, if_true, aa8 hi, Option.bind_some, br5 hk.le, hp]
    have e : (if a43 (List.filter (fun a => !ai7 a.Name) a.Keys[i]) = 0 then (a44 (List.filter (fun a => !ai7 a.Name) a.Keys[i]), (0 : Int)) else ([], a43 (List.filter (fun a => !ai7 a.Name) a.Keys[i]))).1 = (if a43 (pub a.Keys[i]) = 0 then a44 (pub a.Keys[i]) else []) := by
     unfold pub; split <;> rfl
    rw [e]
    unfold bw0 at hl ⊢
    generalize (if a43 (pub a.Keys[i]) = 0 then a44 (pub a.Keys[i]) else []) = X at hl ⊢
    have hX : X.length ≤ 31000000 := by simp at hl; omega
    have c1 : an9 [107, 101, 121, 32] X = some ([107, 101, 121, 32] ++ X) := by unfold an9; rw [if_pos (by simp; omega)]
    have c2 : an9 ([107, 101, 121, 32] ++ X) [10] = some ([107, 101, 121, 32] ++ X ++ [10]) := by unfold an9; rw [if_pos (by simp; omega)]
    have c3 : bAdd s ([107, 101, 121, 32] ++ X ++ [10]) = some (s ++ ([107, 101, 121, 32] ++ X ++ [10])) := by unfold bAdd; rw [if_pos (by simp; omega)]
    rw [c1, Option.bind_some, c2, Option.bind_some, c3, Option.bind_some, ab1 (by omega)]
   ·rw [List.drop_eq_getElem_cons hi, List.map_cons, List.flatten_cons, List.append_assoc]
   ·simp only [List.length_append]; omega
  ·intro s hs
   simp [am8, ao8]
 ·by_cases h3 : id = 3
  ·subst h3
   have n2 : ¬ (3 : Int) = 2 := by decide
   simp only [n2, decide_true, decide_false, if_true, Bool.false_eq_true, if_false, aq3, Option.bind_some]
   have b1 : aj2 [[99, 104, 97, 108], [109, 117, 116, 117, 97, 108], [112, 108, 97, 105, 110]] 0 [] = some (.cont (1, an4 ++ [10])) := by kernel_rfl
   have b2 : aj2 [[99, 104, 97, 108], [109, 117, 116, 117, 97, 108], [112, 108, 97, 105, 110]] 1 (an4 ++ [10]) = some (.cont (2, an4 ++ [10] ++ (aM6 ++ [10]))) := by kernel_rfl
   have b3 : aj2 [[99, 104, 97, 108], [109, 117, 116, 117, 97, 108], [112, 108, 97, 105, 110]] 2 (an4 ++ [10] ++ (aM6 ++ [10])) = some (.cont (3, an4 ++ [10] ++ (aM6 ++ [10]) ++ (av1 ++ [10]))) := by kernel_rfl
   have b4 : aj2 [[99, 104, 97, 108], [109, 117, 116, 117, 97, 108], [112, 108, 97, 105, 110]] 3 (an4 ++ [10] ++ (aM6 ++ [10]) ++ (av1 ++ [10])) = some (.done (an4 ++ [10] ++ (aM6 ++ [10]) ++ (av1 ++ [10]))) := by kernel_rfl
   rw [ai6 (s' := (1, an4 ++ [10])) b1, ai6 (s' := (2, an4 ++ [10] ++ (aM6 ++ [10]))) b2, ai6 (s' := (3, an4 ++ [10] ++ (aM6 ++ [10]) ++ (av1 ++ [10]))) b3, aA5 b4]
  ·simp only [h2, h3, decide_false, Bool.false_eq_true, if_false]; rfl
theorem ah9 {x y : Str} (h : x.length + y.length ≤ 9223372036854775807) : an9 x y = some (x ++ y) := by unfold an9; rw [if_pos h]
def cq4 (s : Str) (off cnt : Int) : Str := (s.drop (min off.toNat s.length)).take cnt.toNat
theorem cA7 {s : Str} {off cnt : Int} (h0 : 0 ≤ off) (h1 : 0 ≤ cnt) (hs : s.length ≤ 10000000000) :
  ((cut s (min off (List.length s : Int)) (List.length s : Int)).bind fun x => cut x 0 (min (min cnt 65536) (List.length x : Int))) = some (cq4 s off (min cnt 65536)) := by
 have e1 : min off (List.length s : Int) = ((min off.toNat s.length : Nat) : Int) := by omega
 rw [e1, ay7 (by omega), Option.bind_some]
 generalize hk : min off.toNat s.length = k
 have e2 : min (min cnt 65536) (List.length (s.drop k) : Int) = ((min (min cnt 65536).toNat (s.drop k).length : Nat) : Int) := by omega
 rw [e2, aN6 (by omega)]
 unfold cq4
 rw [hk]
 congr 1
 rcases Nat.le_total (min cnt 65536).toNat (s.drop k).length with q | q
 ·rw [Nat.min_eq_left q]
 ·rw [Nat.min_eq_right q, List.take_of_length_le (Nat.le_refl _), List.take_of_length_le q]
def bK9 (a : aa2) (id off cnt : Int) : aa2 × Str × Int :=
 if aj0 a id = true then (if id = 1 then (a, [], 10) else if off < 0 ∨ cnt < 0 then (a, [], 1) else (a, cq4 (bf6 a id) off (min cnt 65536), 0)) else (a, [], 8)
theorem cq5 (v : Val a) (w : -9223372036854775808 ≤ id ∧ id ≤ 9223372036854775807) (hc : aK5 a id = -1) (off cnt : Int) : ai0 a id off cnt = some (bK9 a id off cnt) := by
 unfold ai0 bK9
 rw [ao1 v.lim, Option.bind_some, aP2 v w, Option.bind_some]
 cases he : aj0 a id with
 | false => rfl
 | true =>
  by_cases h1 : id = 1
  ·simp [h1]
  ·by_cases h2 : off < 0 ∨ cnt < 0
   ·have : (decide (off < 0) || decide (cnt < 0)) = true := by simpa using h2
    simp [h1, h2, this]
   ·have h2' : (decide (off < 0) || decide (cnt < 0)) = false := by
     rw [Bool.or_eq_false_iff, decide_eq_false_iff_not, decide_eq_false_iff_not]; omega
    have hl := ce5 (id := id) v
    have hp := cA7 (s := bf6 a id) (off := off) (cnt := cnt) (by omega) (by omega) (by omega)
    have hn : ¬ (0 : Int) ≤ -1 := by omega
    simp only [h1, h2, h2', decide_false, Bool.not_true, Bool.false_eq_true, if_false, if_true, bs5 v w, hc, hn, Option.bind_some, bS1 v]
    cases hcut : cut (bf6 a id) (min off (List.length (bf6 a id) : Int)) (List.length (bf6 a id) : Int) with
    | none => rw [hcut] at hp; cases hp
    | some x =>
     rw [hcut, Option.bind_some] at hp
     rw [Option.bind_some, hp]; rfl
theorem cq6 (v : Val a) (h : id ≤ 16) : aK5 a id = -1 := by
 rcases aC4 v id with q | ⟨i, hi, _, _, q, _⟩
 ·exact q
 ·omega
end Go.Proofs.YtiliognepodhnaaGreatDoor
