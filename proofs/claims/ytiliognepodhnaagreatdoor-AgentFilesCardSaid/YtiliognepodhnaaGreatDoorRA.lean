import Derived.Test.YtiliognepodhnaaGreatDoorPA
import Derived.Test.YtiliognepodhnaaGreatDoorVmR
import Derived.KernelRfl
namespace Go.Proofs.YtiliognepodhnaaGreatDoor
open Go.Vm
set_option autoImplicit false
set_option linter.unusedVariables false
set_option linter.unusedSimpArgs false
set_option maxRecDepth 100000
theorem wfI {n : Int} (h : (Lit.int .i64 n).wf = true) : -9223372036854775808 ≤ n ∧ n ≤ 9223372036854775807 := by
 have h2 : IntKind.i64.min ≤ n ∧ n ≤ IntKind.i64.max := by simpa [Lit.wf] using h
 exact h2
def wA (a : aa1) : Nat := min a.Name.length 10000 + min a.Value.length 10000
def cv9 (l : List aa1) : Nat := (l.map wA).sum
def aV1 (l : List aa1) : Bool := decide ((List.length l : Int) ≤ 40) && decide ((cv9 l : Int) ≤ 5000)
theorem bE8 {l : List aa1} (h : l.length ≤ aW7) : aA8 l = some (aV1 l) := by
 have ht : l.length ≤ 140737488351232 := h
 unfold aA8
 refine (af2 l.length (fun (n : Int) i => (n, i)) (fun s => av6 l s.1 s.2) (fun i n => decide ((List.length l : Int) ≤ 40) && decide (n + (cv9 (l.drop i) : Int) ≤ 5000)) (fun i n => 0 ≤ n ∧ n ≤ 20000 * (i : Int)) (s0 := 0) (by simp) ?_ ?_).trans (by simp [aV1])
 ·intro n i hi hn
  left
  have h1 : min (List.length l[i].Name : Int) 10000 + min (List.length l[i].Value : Int) 10000 = ((wA l[i] : Nat) : Int) := by unfold wA; omega
  have h2 : wA l[i] ≤ 20000 := by unfold wA; omega
  refine ⟨n + (wA l[i] : Int), ?_, ?_, by omega, by omega⟩
  ·simp only [av6, dlt hi, if_true, aa7 hi, Option.bind_some]
   rw [h1, af5 (n := ((wA l[i] : Nat) : Int)) (by omega) (by omega), af5 (by omega) (by omega), af5 (by omega) (by omega)]
  ·have e : cv9 (l.drop i) = wA l[i] + cv9 (l.drop (i + 1)) := by rw [List.drop_eq_getElem_cons hi]; rfl
   rw [e, Int.natCast_add, ← Int.add_assoc]
 ·intro n hn
  simp [av6, cv9]
theorem bZ1 : ∀ {l : List aa1} {a : aa1}, a ∈ l → wA a ≤ cv9 l
 | x :: r, a, h => by
  simp only [cv9, List.map_cons, List.sum_cons]
  rcases List.mem_cons.1 h with rfl | h
  ·omega
  ·have := bZ1 h; unfold cv9 at this; omega
structure Sh (l : List aa1) : Prop where
 len : l.length ≤ 2000
 at_ : ∀ a ∈ l, a.Name.length ≤ 5000 ∧ a.Value.length ≤ 5000
theorem bE9 {l : List aa1} (h : aV1 l = true) : Sh l := by
 unfold aV1 at h
 simp only [Bool.and_eq_true, decide_eq_true_eq] at h
 refine ⟨by omega, fun a ha => ?_⟩
 have := bZ1 ha
 unfold wA at this
 omega
theorem Sh.ok {l : List aa1} (h : Sh l) : okL l := ⟨by have := h.len; omega, fun a ha => h.at_ a ha⟩
theorem Sh.le {l : List aa1} (h : Sh l) : l.length ≤ 1000000 := by have := h.len; omega
def sumC (c : aa3) : Int := IntKind.wrap .i64 ((IntKind.wrap .i64 ((IntKind.wrap .i64 ((List.length c.Proto : Int) + (List.length c.Own : Int))) + (List.length c.Peer : Int))) + (List.length c.User : Int))
def smC (c : aa3) : Bool := aV1 c.Key && !decide ((1000 : Int) < sumC c)
def bK7 (a : aa2) : Bool := !((decide (1000 < (List.length a.Owner : Int))) || ((decide (2000 < (List.length a.Seed : Int))) || ((decide (70 < (List.length a.Keys : Int))) || (decide (40 < (List.length a.Convs : Int)))))) && (a.Keys.all aV1 && a.Convs.all smC)
theorem cp9 {a : aa2} (w : aF2 a) : ax0 a = some (bK7 a) := by
 obtain ⟨w1, w2, ⟨w3, w4⟩, w5, ⟨w6, w7⟩, w8⟩ := w
 unfold ax0 bK7
 cases hb : ((decide (1000 < (List.length a.Owner : Int))) || ((decide (2000 < (List.length a.Seed : Int))) || ((decide (70 < (List.length a.Keys : Int))) || (decide (40 < (List.length a.Convs : Int)))))) with
 | true => rfl
 | false =>
  simp only [Bool.or_eq_false_iff, decide_eq_false_iff_not] at hb
  obtain ⟨b1, b2, b3, b4⟩ := hb
  simp only [Bool.false_eq_true, if_false, Bool.not_false, Bool.true_and]
  have hC : aa9 (fun s => as9 a s) 0 = some (a.Convs.all smC) := by
   refine bl5 a.Convs smC _ (fun i hi => ?_) ?_
   ·have hw := w7 _ (List.getElem_mem hi)
    obtain ⟨c1, c2, c3, c4, c5, ⟨c6, c6'⟩, c7, c8, c9, c10⟩ := hw
    simp only [as9, dlt hi, if_true, aa7 hi, Option.bind_some, bE8 c6, smC]
    rw [ab0 (by omega)]
    change (if (!aV1 (a.Convs[i]).Key || decide (1000 < sumC a.Convs[i])) = true then _ else _) = _
    by_cases q1 : aV1 (a.Convs[i]).Key = true
    ·by_cases q2 : (1000 : Int) < sumC a.Convs[i]
     ·simp only [q1, q2, decide_true]; rfl
     ·simp only [q1, q2, decide_false]; rfl
    ·rw [Bool.not_eq_true] at q1
     simp only [q1, Bool.not_false, Bool.true_or, if_true, Bool.false_and, Bool.false_eq_true, if_false]
   ·simp [as9]
  refine (bq7 a.Keys aV1 false (a.Convs.all smC) _ (fun i hi => ?_) ?_).trans ?_
  ·simp only [az1, dlt hi, if_true, aa7 hi, Option.bind_some, bE8 (w4 _ (List.getElem_mem hi)).1]
   rw [ab0 (by omega)]
   cases aV1 a.Keys[i] <;> rfl
  ·simp [az1, hC]
  ·cases a.Keys.all aV1 <;> rfl
structure ShC (c : aa3) : Prop where
 key : Sh c.Key
structure Lim (a : aa2) : Prop where
 owner : a.Owner.length ≤ 1000
 seed : a.Seed.length ≤ 2000
 keys : a.Keys.length ≤ 70
 key : ∀ k ∈ a.Keys, Sh k
 convs : a.Convs.length ≤ 40
 conv : ∀ c ∈ a.Convs, ShC c
theorem ce2 {a : aa2} (h : bK7 a = true) : Lim a := by
 unfold bK7 at h
 simp only [Bool.and_eq_true, Bool.not_eq_true', Bool.or_eq_false_iff, decide_eq_false_iff_not, List.all_eq_true] at h
 obtain ⟨⟨b1, b2, b3, b4⟩, h1, h2⟩ := h
 refine ⟨by omega, by omega, by omega, fun k hk => bE9 (h1 k hk), by omega, fun c hc => ?_⟩
 have := h2 c hc
 unfold smC at this
 simp only [Bool.and_eq_true, Bool.not_eq_true', decide_eq_false_iff_not] at this
 exact ⟨bE9 this.1⟩
theorem bZ2 {α : Type} {l : List α} {i : Nat} (h : i < l.length) : l.set i l[i] = l := by simp
theorem ce3 {l : List (List aa1)} (h : l.length ≤ 1000000) : ab2 l = some l := by
 unfold ab2
 rw [aj0 (by simp; omega) (by simp; omega)]; simp
theorem b51 {l : List aa3} (h : l.length ≤ 1000000) : ab7 l = some l := by
 unfold ab7
 rw [aj0 (by simp; omega) (by simp; omega)]; simp
theorem an9 {a : aa2} (h : Lim a) : af8 a = some a := by
 have h1 := h.keys
 have h2 := h.convs
 unfold af8
 rw [ce3 (by omega), Option.bind_some]
 refine (af2 a.Keys.length (fun (v : List (List aa1)) i => (i, v)) (fun s => aw0 a a.Keys s.1 s.2) (fun _ _ => a) (fun _ v => v = a.Keys) (s0 := a.Keys) rfl ?_ ?_)
 ·rintro v i hi rfl
  left
  refine ⟨a.Keys, ?_, rfl, rfl⟩
  simp only [aw0, dlt hi, if_true, aa7 hi, Option.bind_some, aH9 (h.key _ (List.getElem_mem hi)).le, Int.toNat_natCast, bZ2 hi]
  rw [ab0 (by omega)]
 ·rintro v rfl
  have : aa9 (fun s => ao3 a a.Keys a.Convs s.1 s.2) (0, a.Convs) = some a := by
   refine (af2 a.Convs.length (fun (v : List aa3) i => (i, v)) (fun s => ao3 a a.Keys a.Convs s.1 s.2) (fun _ _ => a) (fun _ v => v = a.Convs) (s0 := a.Convs) rfl ?_ ?_)
   ·rintro v i hi rfl
    left
    refine ⟨a.Convs, ?_, rfl, rfl⟩
    simp only [ao3, dlt hi, if_true, aa7 hi, Option.bind_some, aH9 (h.conv _ (List.getElem_mem hi)).key.le, Int.toNat_natCast]
    rw [ab0 (by omega), show ({a.Convs[i] with Key := (a.Convs[i]).Key} : aa3) = a.Convs[i] from rfl, bZ2 hi]
   ·rintro v rfl
    simp [ao3]
  simp only [aw0, dge, Bool.false_eq_true, if_false, aJ9, b51 (show a.Convs.length ≤ 1000000 by omega), Option.bind_some, this, Option.map_some]
theorem bs8 {l : List aa1} (h : l.length ≤ 1000000) : ar1 l l = some true := by
 unfold ar1
 simp only [decide_true, Bool.not_true, Bool.false_eq_true, if_false]
 refine (bl5 l (fun _ => true) _ (fun i hi => ?_) ?_).trans (by simp)
 ·simp only [aq1, dlt hi, if_true, aa7 hi, Option.bind_some, decide_true, Bool.and_self, Bool.not_true, Bool.false_eq_true, if_false]
  rw [ab0 (by omega)]
 ·simp [aq1]
theorem bF0 {c : aa3} (h : c.Key.length ≤ 1000000) : ar2 c c = some true := by
 unfold ar2
 simp [bs8 h]
theorem aD9 {a : aa2} (h1 : a.Keys.length ≤ 1000000) (h2 : ∀ k ∈ a.Keys, k.length ≤ 1000000) (h3 : a.Convs.length ≤ 1000000) (h4 : ∀ c ∈ a.Convs, c.Key.length ≤ 1000000) : af4 a a = some true := by
 have hC : aa9 (fun s => ak3 a a s) 0 = some true := by
  refine (bl5 a.Convs (fun _ => true) _ (fun i hi => ?_) ?_).trans (by simp)
  ·simp only [ak3, dlt hi, if_true, aa7 hi, Option.bind_some, bF0 (h4 _ (List.getElem_mem hi)), Bool.not_true, Bool.false_eq_true, if_false]
   rw [ab0 (by omega)]
  ·simp [ak3]
 unfold af4
 simp only [decide_true, Bool.not_true, Bool.or_self, Bool.false_eq_true, if_false]
 refine (bq7 a.Keys (fun _ => true) false true _ (fun i hi => ?_) ?_).trans (by simp)
 ·simp only [aq7, dlt hi, if_true, aa7 hi, Option.bind_some, bs8 (h2 _ (List.getElem_mem hi)), Bool.not_true, Bool.false_eq_true, if_false]
  rw [ab0 (by omega)]
 ·simp [aq7, hC]
theorem Lim.same {a : aa2} (h : Lim a) : af4 a a = some true :=
 aD9 (by have := h.keys; omega) (fun k hk => (h.key k hk).le) (by have := h.convs; omega) (fun c hc => (h.conv c hc).key.le)
instance : DecidableEq aa1 := fun x y => decidable_of_iff (x.Name = y.Name ∧ x.Value = y.Value ∧ x.Query = y.Query) (by cases x; cases y; simp)
theorem ce4 {x y : aa1} : (!(decide (x.Name = y.Name) && (decide (x.Value = y.Value) && (decide (x.Query = y.Query) && true)))) = !decide (x = y) := by
 congr 1
 rw [Bool.eq_iff_iff]
 cases x; cases y; simp
theorem ce5 {a b : List aa1} (ha : a.length ≤ 1000000) : ar1 a b = some (decide (a = b)) := by
 unfold ar1
 by_cases hl : a.length = b.length
 ·simp only [hl, decide_true, Bool.not_true, Bool.false_eq_true, if_false]
  refine (af2 a.length (fun (_ : Unit) i => i) (fun s => aq1 a b s) (fun i _ => decide (a.drop i = b.drop i)) (fun _ _ => True) (s0 := ()) trivial ?_ ?_).trans (by simp)
  ·intro _ i hi _
   have hj : i < b.length := by omega
   simp only [aq1, dlt hi, if_true, aa7 hi, aa7 hj, Option.bind_some, ce4]
   by_cases h : a[i] = b[i]
   ·left
    refine ⟨(), ?_, ?_, trivial⟩
    ·simp only [h, decide_true, Bool.not_true, Bool.false_eq_true, if_false]
     rw [ab0 (by omega)]
    ·rw [List.drop_eq_getElem_cons hi, List.drop_eq_getElem_cons hj, h, decide_eq_decide]
     exact ⟨fun e => (List.cons.inj e).2, fun e => by rw [e]⟩
   ·right
    rw [List.drop_eq_getElem_cons hi, List.drop_eq_getElem_cons hj]
    have hn : ¬ (a[i] :: List.drop (i + 1) a = b[i] :: List.drop (i + 1) b) := fun e => h (List.cons.inj e).1
    simp only [h, hn, decide_false, Bool.not_false, if_true]
  ·intro _ _
   simp [aq1, hl]
 ·have h1 : ¬ ((List.length a : Int) = (List.length b : Int)) := by omega
  have h2 : ¬ (a = b) := fun h => hl (by rw [h])
  simp [h1, h2]
theorem cq0 {a b : List aa1} (ha : a.length ≤ 1000000) : ag9 a b = some (decide (a = b)) := by
 unfold ag9
 by_cases hl : a.length = b.length
 ·simp only [hl, decide_true, Bool.not_true, Bool.false_eq_true, if_false]
  refine (af2 a.length (fun (_ : Unit) i => i) (fun s => ae3 a b s) (fun i _ => decide (a.drop i = b.drop i)) (fun _ _ => True) (s0 := ()) trivial ?_ ?_).trans (by simp)
  ·intro _ i hi _
   have hj : i < b.length := by omega
   simp only [ae3, dlt hi, if_true, aa7 hi, aa7 hj, Option.bind_some, ce4]
   by_cases h : a[i] = b[i]
   ·left
    refine ⟨(), ?_, ?_, trivial⟩
    ·simp only [h, decide_true, Bool.not_true, Bool.false_eq_true, if_false]
     rw [ab0 (by omega)]
    ·rw [List.drop_eq_getElem_cons hi, List.drop_eq_getElem_cons hj, h, decide_eq_decide]
     exact ⟨fun e => (List.cons.inj e).2, fun e => by rw [e]⟩
   ·right
    rw [List.drop_eq_getElem_cons hi, List.drop_eq_getElem_cons hj]
    have hn : ¬ (a[i] :: List.drop (i + 1) a = b[i] :: List.drop (i + 1) b) := fun e => h (List.cons.inj e).1
    simp only [h, hn, decide_false, Bool.not_false, if_true]
  ·intro _ _
   simp [ae3, hl]
 ·have h1 : ¬ ((List.length a : Int) = (List.length b : Int)) := by omega
  have h2 : ¬ (a = b) := fun h => hl (by rw [h])
  simp [h1, h2]
def pub (l : List aa1) : List aa1 := l.filter fun a => !an2 a.Name
theorem bR5 {l : List aa1} : (pub l).length ≤ l.length := List.length_filter_le _ _
theorem cw0 {l : List aa1} (h : Sh l) : Sh (pub l) := ⟨Nat.le_trans bR5 h.len, fun a ha => h.at_ a (List.mem_filter.1 ha).1⟩
theorem bZ3 {a b : List aa1} (ha : a.length ≤ 1000000) (hb : b.length ≤ 1000000) : aK0 a b = some (decide (pub a = pub b)) := by
 unfold aK0
 rw [bs6 ha, Option.bind_some, bs6 hb, Option.bind_some]
 have := @cq0 (pub a) (pub b) (Nat.le_trans bR5 ha)
 unfold pub at this
 rw [this]; rfl
theorem cq1 {l : List (List aa1)} {p : List aa1} (hl : l.length ≤ 1000000) (h : ∀ k ∈ l, k.length ≤ 1000000) : aB2 l p = some (ixF (fun k => decide (pub k = p)) l 0) := by
 unfold aB2
 refine bq6 l _ _ (fun i hi => ?_) ?_
 ·have hk := h _ (List.getElem_mem hi)
  have := @ce5 (pub l[i]) p (Nat.le_trans bR5 hk)
  unfold pub at this
  simp only [aD2, dlt hi, if_true, aa7 hi, Option.bind_some, bj5 hk, this]
  rw [ab0 (by omega)]
  by_cases q : pub l[i] = p
  ·have q' := q; unfold pub at q'; simp [q, q']
  ·have q' := q; unfold pub at q'; simp [q, q']
 ·simp [aD2]
theorem ce6 {α : Type} (p : α → Bool) : ∀ l : List α, (l.all fun a => !p a) = !(l.any p)
 | [] => rfl
 | a :: r => by simp only [List.all_cons, List.any_cons, ce6 p r, Bool.not_or]
def aZ9 : Str := [117, 115, 101, 114]
def bK8 : Str := [33, 115, 101, 99, 114, 101, 116]
def aL1 (n : Str) (l : List aa1) : Str := (ak4 n l).1
theorem bs9 {n : Str} : ∀ {l : List aa1}, (ak4 n l).2 = false → (ak4 n l).1 = []
 | [], _ => rfl
 | a :: r, h => by
  by_cases q : bk1 n a = true
  ·rw [bK6 q] at h; cases h
  ·rw [bA1 q] at h ⊢; exact bs9 h
def b52 (l : List aa1) : Bool := decide (a87 l = 0) && (!(l.any fun a => a.Query) && (decide (1 ≤ (List.length (aL1 aZ9 l) : Int)) && (decide ((List.length (aL1 aZ9 l) : Int) ≤ 32) && (decide (1 ≤ (List.length (aL1 bK8 l) : Int)) && decide ((List.length (aL1 bK8 l) : Int) ≤ 64)))))
theorem cq2 {l : List aa1} (h : Sh l) : aB1 l = some (b52 l) := by
 have hl := h.le
 unfold aB1 b52
 rw [bs1 h.ok, Option.bind_some]
 by_cases hc : a87 l = 0
 ·simp only [hc, decide_true, Bool.not_true, Bool.false_eq_true, if_false, Bool.true_and]
  have hA : az3 l = some (decide (1 ≤ (List.length (aL1 aZ9 l) : Int)) && (decide ((List.length (aL1 aZ9 l) : Int) ≤ 32) && (decide (1 ≤ (List.length (aL1 bK8 l) : Int)) && decide ((List.length (aL1 bK8 l) : Int) ≤ 64)))) := by
   unfold az3 aB0
   simp only [a34 hl, Option.bind_some]
   rfl
  refine (bq7 l (fun a => !a.Query) false (decide (1 ≤ (List.length (aL1 aZ9 l) : Int)) && (decide ((List.length (aL1 aZ9 l) : Int) ≤ 32) && (decide (1 ≤ (List.length (aL1 bK8 l) : Int)) && decide ((List.length (aL1 bK8 l) : Int) ≤ 64)))) _ (fun i hi => ?_) ?_).trans ?_
  ·simp only [aD1, dlt hi, if_true, aa7 hi, Option.bind_some]
   rw [ab0 (by omega)]
   cases l[i].Query <;> rfl
  ·simp [aD1, hA]
  ·rw [ce6 (fun (a : aa1) => a.Query) l]
   cases (l.any fun a => a.Query) <;> rfl
 ·simp [hc]
theorem cw1 {l : List aa1} (h : Sh l) : aX4 l = some (b52 l) := by
 have hl := h.le
 unfold aX4 b52
 rw [bl8 h.ok, Option.bind_some]
 by_cases hc : a87 l = 0
 ·have hq : ac3 l = some (l.any fun a => a.Query) := by
   unfold ac3
   have : ad8 l = some (be1 (fun a => a.Query) l) := by
    unfold ad8
    refine aT5 hl (fun i hi => ?_) ?_
    ·simp only [ac2, dlt hi, if_true, aa7 hi, Option.bind_some, a80]
    ·simp [ac2]
   rw [this, Option.bind_some, bE1]
  simp only [hc, decide_true, Bool.not_true, Bool.false_eq_true, if_false, hq, Option.bind_some, Bool.true_and]
  cases hb : l.any fun a => a.Query with
  | true => rfl
  | false =>
   simp only [Bool.false_eq_true, if_false, bg3 hl, Option.bind_some, Bool.not_false, Bool.true_and]
   congr 1
   have aux : ∀ (n : Str) (K : Int), ((ak4 n l).2 && ((!decide ((ak4 n l).1 = [])) && decide ((List.length (ak4 n l).1 : Int) ≤ K))) = (decide (1 ≤ (List.length (aL1 n l) : Int)) && decide ((List.length (aL1 n l) : Int) ≤ K)) := by
    intro n K
    unfold aL1
    cases hf : (ak4 n l).2 with
    | false => rw [bs9 hf]; rfl
    | true =>
     rw [Bool.true_and]
     congr 1
     cases (ak4 n l).1 with
     | nil => rfl
     | cons c r => simp; omega
   have h1 := aux aZ9 32
   have h2 := aux bK8 64
   unfold aZ9 at h1
   unfold bK8 at h2
   show _ = (decide (1 ≤ (List.length (aL1 [117, 115, 101, 114] l) : Int)) && (decide ((List.length (aL1 [117, 115, 101, 114] l) : Int) ≤ 32) && (decide (1 ≤ (List.length (aL1 [33, 115, 101, 99, 114, 101, 116] l) : Int)) && decide ((List.length (aL1 [33, 115, 101, 99, 114, 101, 116] l) : Int) ≤ 64))))
   rw [← Bool.and_assoc (decide (1 ≤ (List.length (aL1 [117, 115, 101, 114] l) : Int))), ← h1, ← h2]
   generalize (ak4 [117, 115, 101, 114] l) = U
   generalize (ak4 [33, 115, 101, 99, 114, 101, 116] l) = V
   cases U.2 <;> cases V.2 <;> simp [Bool.and_assoc]
 ·simp [hc]
def cw2 (s : Str) : Str := [UInt8.ofNat (s.length % 256), UInt8.ofNat (s.length / 256)] ++ s
theorem bd1 (s : Str) : (cw2 s).length = s.length + 2 := by simp [cw2]
theorem bF1 (z : Int) : IntKind.wrap .u8 z = z % 256 := by simp [IntKind.wrap, IntKind.bits, IntKind.signed]
theorem cJ5 {n : Nat} (h : n ≤ 65535) : aX6 (n : Int) 2 = some ([UInt8.ofNat (n % 256), UInt8.ofNat (n / 256)], 0) := by
 have w16 : IntKind.wrap .i64 (8 * 2) = 16 := by decide
 have s16 : bp2 .i64 (n : Int) 16 = some 0 := by
  unfold bp2
  rw [if_neg (by omega)]
  have : min (Int.toNat 16) (IntKind.bits .i64) = 16 := by decide
  rw [this]
  congr 1
  rw [Int.fdiv_eq_ediv_of_nonneg _ (by decide)]
  have : ((2 : Int) ^ 16) = 65536 := by decide
  rw [this]; omega
 have hm : mkC 1 (0 : Int) 2 2 = some [0, 0] := by decide
 have s0 : bp2 .i64 (n : Int) 0 = some (n : Int) := by
  unfold bp2
  rw [if_neg (by omega)]
  have : min (Int.toNat 0) (IntKind.bits .i64) = 0 := by decide
  rw [this]
  congr 1
  simp
 have s8 : bp2 .i64 (n : Int) 8 = some ((n / 256 : Nat) : Int) := by
  unfold bp2
  rw [if_neg (by omega)]
  have : min (Int.toNat 8) (IntKind.bits .i64) = 8 := by decide
  rw [this]
  congr 1
  rw [Int.fdiv_eq_ediv_of_nonneg _ (by decide)]
  have : ((2 : Int) ^ 8) = 256 := by decide
  rw [this]; omega
 have w0 : IntKind.wrap .i64 (8 * 0) = 0 := by decide
 have w8 : IntKind.wrap .i64 (8 * 1) = 8 := by decide
 have b1 : am3 (n : Int) [0, 0] 0 [0, 0] = some (.cont (1, [((n : Int) % 256), 0])) := by
  have q0 : IntKind.wrap .i64 0 = 0 := by decide
  have q1 : IntKind.wrap .i64 1 = 1 := by decide
  simp [am3, q0, q1, s0, ae1, bF1]
 have b2 : am3 (n : Int) [0, 0] 1 [((n : Int) % 256), 0] = some (.cont (2, [((n : Int) % 256), (((n / 256 : Nat) : Int) % 256)])) := by
  have q0 : IntKind.wrap .i64 8 = 8 := by decide
  have q1 : IntKind.wrap .i64 2 = 2 := by decide
  simp [am3, q0, q1, s8, ae1, bF1]
 have b3 : am3 (n : Int) [0, 0] 2 [((n : Int) % 256), (((n / 256 : Nat) : Int) % 256)] = some (.done ([UInt8.ofNat (n % 256), UInt8.ofNat (n / 256)], 0)) := by
  have e1 : Int.toNat ((n : Int) % 256) = n % 256 := by omega
  have e2 : Int.toNat (((n / 256 : Nat) : Int) % 256) = n / 256 := by omega
  simp only [am3, bD3, List.map_cons, List.map_nil, e1, e2]
  simp
 unfold aX6
 have hn : ¬ ((n : Int) < 0) := by omega
 simp only [hn, decide_false, Bool.false_eq_true, if_false, show decide ((2 : Int) < 1) = false from by decide, show decide ((8 : Int) < 2) = false from by decide, show decide ((2 : Int) < 8) = true from by decide, Bool.or_self, if_true, w16, s16, Option.bind_some, show decide ((0 : Int) < 0) = false from by decide, hm]
 rw [ah0 (s' := (1, [((n : Int) % 256), 0])) b1, ah0 (s' := (2, [((n : Int) % 256), (((n / 256 : Nat) : Int) % 256)])) b2]
 exact ax3 b3
theorem aR0 {s : Str} (h : s.length ≤ 65535) : ap5 s = some (cw2 s) := by
 unfold ap5 aS7
 have h1 : ¬ ((65535 : Int) < (List.length s : Int)) := by omega
 simp only [h1, decide_false, Bool.false_eq_true, if_false, cJ5 h, Option.bind_some]
 have : an8 [UInt8.ofNat (List.length s % 256), UInt8.ofNat (List.length s / 256)] s = some (cw2 s) := by
  unfold an8; rw [if_pos (by simp; omega)]; rfl
 rw [this]; rfl
def an3 : Str := [99, 104, 97, 108]
def aO2 : Str := [109, 117, 116, 117, 97, 108]
def av3 : Str := [112, 108, 97, 105, 110]
def aL9 (p : Str) : Int := if p = an3 then 3 else if p = aO2 then 3 else if p = av3 then 2 else 0
def bt0 (p : Str) : Int := if p = an3 then 2 else 1
def aN3 (p : Str) (role n : Int) : Bool := decide ((decide (Int.tmod n 2 = 0)) = decide (role = bt0 p))
def phS (c : aa3) : Int := if c.Step = aL9 c.Proto then 3 else if aN3 c.Proto c.Role c.Step = true then 1 else 2
theorem bt1 (p : Str) : ah3 p = some (aL9 p) := by
 unfold ah3 au8 aL9 an3 aO2 av3
 by_cases h1 : p = [99, 104, 97, 108]
 ·simp [h1]
 ·by_cases h2 : p = [109, 117, 116, 117, 97, 108]
  ·simp [h2]
  ·by_cases h3 : p = [112, 108, 97, 105, 110]
   ·simp [h3]
   ·simp [h1, h2, h3]
theorem cq3 (p : Str) : aS4 p = some (bt0 p) := by
 unfold aS4 bt0 an3
 by_cases h1 : p = [99, 104, 97, 108] <;> simp [h1]
theorem bZ4 (p : Str) (role n : Int) : aP6 p role n = some (aN3 p role n) := by
 unfold aP6 aH3 aN3 bt0 an3
 by_cases h1 : p = [99, 104, 97, 108] <;> simp [h1]
theorem bR6 (c : aa3) : aJ7 c = some (phS c) := by
 unfold aJ7 phS
 rw [bt1, Option.bind_some]
 by_cases h : c.Step = aL9 c.Proto
 ·simp [h]
 ·simp only [h, decide_false, Bool.false_eq_true, if_false, cq3, Option.bind_some]
  unfold aN3
  cases decide (decide (Int.tmod c.Step 2 = 0) = decide (c.Role = bt0 c.Proto)) <;> rfl
def ah7 (p : Str) : Bool := decide (p = an3) || (decide (p = aO2) || decide (p = av3))
theorem bt2 {p : Str} (h : ah7 p = true) : aK4 p = some (aL9 p) := by
 unfold ah7 at h
 simp only [Bool.or_eq_true, decide_eq_true_eq] at h
 rcases h with rfl | rfl | rfl <;> rfl
theorem cq4 {c : aa3} (h : ah7 c.Proto = true) : aP7 c = some (phS c) := by
 unfold aP7 phS
 rw [bt2 h, Option.bind_some]
 by_cases h2 : c.Step = aL9 c.Proto
 ·simp [h2]
 ·simp only [h2, decide_false, Bool.false_eq_true, if_false, bZ4, Option.bind_some]
  cases aN3 c.Proto c.Role c.Step <;> rfl
theorem bK9 (p : Str) : decide (aL9 p = 0) = !ah7 p := by
 unfold aL9 ah7
 by_cases h1 : p = an3
 ·simp [h1]
 ·by_cases h2 : p = aO2
  ·simp [h2]
  ·by_cases h3 : p = av3
   ·subst h3; decide
   ·simp [h1, h2, h3]
theorem bd2 (p : Str) : ag0 [[99, 104, 97, 108], [109, 117, 116, 117, 97, 108], [112, 108, 97, 105, 110]] p = some (ah7 p) := by
 unfold ag0 ak9
 have : aa9 (fun s => af9 [[99, 104, 97, 108], [109, 117, 116, 117, 97, 108], [112, 108, 97, 105, 110]] p s) 0 = some (ixF (fun x => decide (p = x)) [an3, aO2, av3] 0) := by
  refine bq6 [an3, aO2, av3] _ _ (fun i hi => ?_) ?_
  ·have hi' : i < [([99, 104, 97, 108] : Str), [109, 117, 116, 117, 97, 108], [112, 108, 97, 105, 110]].length := hi
   have hi3 : i < 3 := hi
   simp only [af9, dlt hi', if_true, aa7 hi', Option.bind_some]
   rw [ab0 (by omega)]
   show (if decide (p = [an3, aO2, av3][i]) = true then _ else _) = _
   cases decide (p = [an3, aO2, av3][i]) <;> rfl
  ·simp [af9]
 rw [this, Option.bind_some]
 unfold ah7
 by_cases h1 : p = an3
 ·simp [ixF, h1]
 ·by_cases h2 : p = aO2
  ·have : ¬ (aO2 = an3) := by decide
   simp [ixF, h2, this]
  ·by_cases h3 : p = av3
   ·have e1 : ¬ (av3 = an3) := by decide
    have e2 : ¬ (av3 = aO2) := by decide
    simp [ixF, h3, e1, e2]
   ·simp [ixF, h1, h2, h3]
variable {c : aa3}
def usr (c : aa3) : Str := aL1 aZ9 c.Key
def sec (c : aa3) : Str := aL1 bK8 c.Key
def bg6 (l : List aa1) : Bool := (decide (1 ≤ (List.length (aL1 aZ9 l) : Int)) && (decide ((List.length (aL1 aZ9 l) : Int) ≤ 32) && (decide (1 ≤ (List.length (aL1 bK8 l) : Int)) && decide ((List.length (aL1 bK8 l) : Int) ≤ 64))))
theorem bd3 {t : aa4} {n : Str} (h : t.Conv.Key.length ≤ 1000000) : ad5 t n = some (aL1 n t.Conv.Key) := by
 unfold ad5 aL1
 rw [bg3 h]; rfl
theorem bL0 {l : List aa1} (h : l.length ≤ 1000000) : ap4 l = some (aL1 aZ9 l) := by
 unfold ap4 aL1 aZ9
 rw [a34 h]; rfl
theorem bR7 {l : List aa1} (h : l.length ≤ 1000000) : av9 l = some (aL1 bK8 l) := by
 unfold av9 aL1 bK8
 rw [a34 h]; rfl
theorem bt3 {l : List aa1} (hl : l.length ≤ 1000000) : aI4 l = some (bg6 l) := by
 unfold aI4
 simp only [bg3 hl, Option.bind_some]
 congr 1
 have aux : ∀ (n : Str) (K : Int), ((ak4 n l).2 && (decide (1 ≤ (List.length (ak4 n l).1 : Int)) && decide ((List.length (ak4 n l).1 : Int) ≤ K))) = (decide (1 ≤ (List.length (aL1 n l) : Int)) && decide ((List.length (aL1 n l) : Int) ≤ K)) := by
  intro n K
  unfold aL1
  cases hf : (ak4 n l).2 with
  | false => rw [bs9 hf]; rfl
  | true => rw [Bool.true_and]
 have h1 := aux aZ9 32
 have h2 := aux bK8 64
 unfold aZ9 at h1
 unfold bK8 at h2
 show _ = (decide (1 ≤ (List.length (aL1 [117, 115, 101, 114] l) : Int)) && (decide ((List.length (aL1 [117, 115, 101, 114] l) : Int) ≤ 32) && (decide (1 ≤ (List.length (aL1 [33, 115, 101, 99, 114, 101, 116] l) : Int)) && decide ((List.length (aL1 [33, 115, 101, 99, 114, 101, 116] l) : Int) ≤ 64))))
 rw [← Bool.and_assoc (decide (1 ≤ (List.length (aL1 [117, 115, 101, 114] l) : Int))), ← h1, ← h2]
 generalize (ak4 [117, 115, 101, 114] l) = U
 generalize (ak4 [33, 115, 101, 99, 114, 101, 116] l) = V
 cases U.2 <;> cases V.2 <;> simp [Bool.and_assoc]
def bw6 (l : List aa1) : Bool := decide (a87 l = 0) && bg6 l
theorem bR8 {l : List aa1} (h : Sh l) : ∃ e, aj6 l = some e ∧ decide (e = 0) = bw6 l ∧ (e = 0 ∨ e = a87 l ∧ a87 l ≠ 0 ∨ e = 52 ∧ a87 l = 0) := by
 unfold aj6 bw6
 rw [bs1 h.ok, Option.bind_some]
 by_cases hc : a87 l = 0
 ·simp only [hc, decide_true, Bool.not_true, Bool.false_eq_true, if_false, bL0 h.le, bR7 h.le, Option.bind_some, Bool.true_and]
  have e : ((decide ((List.length (aL1 aZ9 l) : Int) < 1)) || ((decide (32 < (List.length (aL1 aZ9 l) : Int))) || ((decide ((List.length (aL1 bK8 l) : Int) < 1)) || (decide (64 < (List.length (aL1 bK8 l) : Int)))))) = !bg6 l := by
   unfold bg6
   rw [Bool.eq_iff_iff]
   simp only [Bool.or_eq_true, decide_eq_true_eq, Bool.not_eq_true', Bool.and_eq_false_iff, decide_eq_false_iff_not]
   omega
  rw [e]
  cases bg6 l with
  | true => exact ⟨0, rfl, rfl, .inl rfl⟩
  | false => exact ⟨52, rfl, rfl, .inr (.inr ⟨rfl, trivial⟩)⟩
 ·refine ⟨a87 l, by simp [hc], by simp [hc], .inr (.inl ⟨rfl, hc⟩)⟩
def bw7 (c : aa3) : aa3 := {c with Phase := phS c, User := if phS c = 3 then usr c else []}
theorem a35 (hp : ah7 c.Proto = true) (hk : c.Key.length ≤ 1000000) : am4 c = some (bw7 c) := by
 unfold am4 bw7
 rw [aH9 hk, Option.bind_some]
 have h1 : aP7 {c with Key := c.Key} = some (phS c) := cq4 hp
 rw [h1, Option.bind_some]
 by_cases h : phS c = 3
 ·have hv : ad5 (aa4.mk {c with Phase := phS c, Key := c.Key, User := []}) [117, 115, 101, 114] = some (usr c) := bd3 hk
  simp only [h, decide_true, if_true] at hv ⊢
  rw [hv]; rfl
 ·simp [h]
def bA3 (c : aa3) (n : Int) : Int := if c.Proto = an3 ∧ n = 0 then 0 else if c.Proto = aO2 ∧ n = 1 then 0 else if c.Proto = aO2 ∧ n = 0 then ((usr c).length : Int) + 2 else -1
theorem bg7 {n : Int} (hk : c.Key.length ≤ 1000000) (hu : (usr c).length ≤ 65535) : ax8 c n = some (bA3 c n) := by
 have hv : ad5 (aa4.mk c) [117, 115, 101, 114] = some (usr c) := bd3 hk
 have hK : ∀ (n : Int) (b : Bool), au2 c n b = some (if b = true then 0 else if c.Proto = aO2 ∧ n = 0 then ((usr c).length : Int) + 2 else -1) := by
  intro n b
  unfold au2
  cases b with
  | true => rfl
  | false =>
   by_cases h : c.Proto = aO2 ∧ n = 0
   ·have h' := h.1; unfold aO2 at h'
    simp only [Bool.false_eq_true, if_false, h', h.2, decide_true, Bool.and_self, if_true, hv, Option.bind_some, aR0 hu, bd1]
    simp [aO2]
   ·have : (decide (c.Proto = [109, 117, 116, 117, 97, 108]) && decide (n = 0)) = false := by
     rw [Bool.and_eq_false_iff, decide_eq_false_iff_not, decide_eq_false_iff_not]
     rcases Classical.not_and_iff_not_or_not.1 h with h | h
     ·exact .inl h
     ·exact .inr h
    simp only [this, Bool.false_eq_true, if_false, h]
 unfold ax8 bA3
 by_cases h1 : c.Proto = an3 ∧ n = 0
 ·have h' := h1.1; unfold an3 at h'
  simp only [h', h1.2, decide_true, Bool.and_self, if_true, hK]
  simp [an3]
 ·have : (decide (c.Proto = [99, 104, 97, 108]) && decide (n = 0)) = false := by
   rw [Bool.and_eq_false_iff, decide_eq_false_iff_not, decide_eq_false_iff_not]
   rcases Classical.not_and_iff_not_or_not.1 h1 with h | h
   ·exact .inl h
   ·exact .inr h
  simp only [this, Bool.false_eq_true, if_false, h1, hK]
  congr 1
  by_cases h2 : c.Proto = aO2 ∧ n = 1
  ·have h' := h2.1; unfold aO2 at h'
   simp only [h', h2.2, decide_true, Bool.and_self, if_true]
   simp [aO2]
  ·have : (decide (c.Proto = [109, 117, 116, 117, 97, 108]) && decide (n = 1)) = false := by
    rw [Bool.and_eq_false_iff, decide_eq_false_iff_not, decide_eq_false_iff_not]
    rcases Classical.not_and_iff_not_or_not.1 h2 with h | h
    ·exact .inl h
    ·exact .inr h
   simp only [this, Bool.false_eq_true, if_false, h2]
def kb (c : aa3) (n : Int) : Bool := decide (0 ≤ bA3 c n) && !aN3 c.Proto c.Role n
theorem bA4 {n : Nat} (hn : n ≤ 3) (hk : c.Key.length ≤ 1000000) (hu : (usr c).length ≤ 65535) : az8 c n = some (if (n : Int) < c.Step then (if kb c n = true then .done true else .cont ((n : Int) + 1)) else .done false) := by
 unfold az8
 by_cases h : (n : Int) < c.Step
 ·simp only [h, decide_true, if_true, bg7 hk hu, Option.bind_some, bZ4]
  unfold kb
  rw [ab0 (by omega)]
  by_cases q : 0 ≤ bA3 c n
  ·simp only [q, decide_true, if_true, Option.bind_some, Bool.true_and]
   cases aN3 c.Proto c.Role n <;> rfl
  ·simp [q]
 ·simp [h]
def bj6 (c : aa3) : Bool := (decide (0 < c.Step) && kb c 0) || ((decide (1 < c.Step) && kb c 1) || (decide (2 < c.Step) && kb c 2))
theorem cq5 (h0 : 0 ≤ c.Step) (h3 : c.Step ≤ 3) (hk : c.Key.length ≤ 1000000) (hu : (usr c).length ≤ 65535) : aQ0 c = some (bj6 c) := by
 unfold aQ0
 refine (af2 3 (fun (_ : Unit) i => i) (fun s => az8 c s) (fun i _ => match i with
   | 0 => bj6 c
   | 1 => (decide (1 < c.Step) && kb c 1) || (decide (2 < c.Step) && kb c 2)
   | 2 => decide (2 < c.Step) && kb c 2
   | _ => false) (fun i _ => (i : Int) ≤ 3) (s0 := ()) (by omega) ?_ ?_)
 ·intro _ i hi _
  rw [bA4 (by omega) hk hu]
  have hc : i = 0 ∨ i = 1 ∨ i = 2 := by omega
  by_cases hs : (i : Int) < c.Step
  ·simp only [hs, if_true]
   rcases hc with rfl | rfl | rfl
   ·have hs' : (0 : Int) < c.Step := hs
    have e : kb c ((0 : Nat) : Int) = kb c 0 := rfl
    cases hb : kb c 0 with
    | true =>
     right
     first | rw [e, hb] | skip
     simp [bj6, hs', hb]
    | false =>
     left
     first | rw [e, hb] | skip
     exact ⟨(), rfl, by simp [bj6, hs', hb], by omega⟩
   ·have hs' : (1 : Int) < c.Step := hs
    have e : kb c ((1 : Nat) : Int) = kb c 1 := rfl
    cases hb : kb c 1 with
    | true =>
     right
     first | rw [e, hb] | skip
     simp [hs', hb]
    | false =>
     left
     first | rw [e, hb] | skip
     exact ⟨(), rfl, by simp [hs', hb], by omega⟩
   ·have hs' : (2 : Int) < c.Step := hs
    have e : kb c ((2 : Nat) : Int) = kb c 2 := rfl
    cases hb : kb c 2 with
    | true =>
     right
     first | rw [e, hb] | skip
     simp [hs', hb]
    | false =>
     left
     first | rw [e, hb] | skip
     exact ⟨(), rfl, by simp [hs', hb], by omega⟩
  ·right
   simp only [hs, if_false]
   rcases hc with rfl | rfl | rfl
   ·have a1 : ¬ (0 : Int) < c.Step := hs
    have a2 : ¬ (1 : Int) < c.Step := by omega
    have a3 : ¬ (2 : Int) < c.Step := by omega
    simp [bj6, a1, a2, a3]
   ·have a2 : ¬ (1 : Int) < c.Step := hs
    have a3 : ¬ (2 : Int) < c.Step := by omega
    simp [a2, a3]
   ·have a3 : ¬ (2 : Int) < c.Step := hs
    simp [a3]
 ·intro _ _
  rw [bA4 (n := 3) (by omega) hk hu]
  have : ¬ ((3 : Nat) : Int) < c.Step := by omega
  simp only [this, if_false]
def as2 (c : aa3) : Bool := if c.Proto = an3 then (decide (c.Role = 1) && decide (0 < c.Step)) else if c.Proto = aO2 ∧ c.Role = 2 then decide (0 < c.Step) else (decide (c.Proto = aO2) && decide (1 < c.Step))
theorem bR9 (c : aa3) : at4 c = some (as2 c) := by
 unfold at4 as2 an3 aO2
 by_cases h1 : c.Proto = [99, 104, 97, 108]
 ·simp [h1]
 ·by_cases h2 : c.Proto = [109, 117, 116, 117, 97, 108] ∧ c.Role = 2
  ·simp [h2.1, h2.2]
  ·have : (decide (c.Proto = [109, 117, 116, 117, 97, 108]) && decide (c.Role = 2)) = false := by
    rw [Bool.and_eq_false_iff, decide_eq_false_iff_not, decide_eq_false_iff_not]
    rcases Classical.not_and_iff_not_or_not.1 h2 with h | h
    ·exact .inl h
    ·exact .inr h
   simp only [h1, decide_false, Bool.false_eq_true, if_false, this, h2]
theorem bt4 (hp : ah7 c.Proto = true) (hr : c.Role = 1 ∨ c.Role = 2) : bj6 c = as2 c := by
 unfold ah7 at hp
 simp only [Bool.or_eq_true, decide_eq_true_eq] at hp
 have n0 : ¬ (an3 = aO2) := by decide
 have n1 : ¬ (aO2 = an3) := by decide
 have n2 : ¬ (av3 = an3) := by decide
 have n3 : ¬ (av3 = aO2) := by decide
 have hu : (0 : Int) ≤ ((usr c).length : Int) + 2 := by omega
 have d : Int.tmod 0 2 = 0 ∧ Int.tmod 1 2 = 1 ∧ Int.tmod 2 2 = 0 := by decide
 rcases hp with h | h | h <;> rcases hr with r | r <;> simp [bj6, as2, kb, bA3, aN3, bt0, h, r, n0, n1, n2, n3, hu, d]
variable {c : aa3} {a : aa2}
def bj7 (c : aa3) : Bool := !decide (c.Id < 0) && (!decide (1048575 < c.Id) && (ah7 c.Proto && ((decide (c.Role = 1) || decide (c.Role = 2)) && (bw6 c.Key && (decide ((List.length c.Own : Int) = 32) && (!decide (c.Step < 0) && !decide (aL9 c.Proto < c.Step)))))))
def bd4 (c : aa3) : Bool := decide (c.Phase = 4) && decide (phS c = 2)
def stB (c : aa3) : Bool := (bd4 c || decide (c.Phase = phS c)) && (decide (c.User = if phS c = 3 then usr c else []) && decide (c.Err = if bd4 c = true then 28 else 0))
def a00 (c : aa3) : Bool := if as2 c = true then decide ((List.length c.Peer : Int) = 32) else decide (c.Peer = [])
def ag5 (c : aa3) : Bool := bj7 c && (stB c && a00 c)
theorem bF2 (p : Str) : aL9 p ≤ 3 := by
 unfold aL9
 split
 ·omega
 ·split
  ·omega
  ·split <;> omega
theorem bZ5 {c : aa3} (h : bw6 c.Key = true) : (usr c).length ≤ 32 ∧ 1 ≤ (usr c).length ∧ (sec c).length ≤ 64 ∧ 1 ≤ (sec c).length := by
 unfold bw6 bg6 at h
 simp only [Bool.and_eq_true, decide_eq_true_eq] at h
 unfold usr sec
 omega
theorem bL1 (hk : Sh c.Key) : aI5 c = some (ag5 c) := by
 have hl := hk.le
 unfold aI5 ag5
 by_cases h1 : c.Id < 0
 ·simp [h1, bj7]
 by_cases h2 : 1048575 < c.Id
 ·simp [h1, h2, bj7]
 by_cases h3 : ah7 c.Proto = true
 case neg =>
  rw [Bool.not_eq_true] at h3
  simp [h1, h2, h3, bj7, aq2, bd2]
 by_cases h4 : c.Role = 1 ∨ c.Role = 2
 case neg =>
  have r1 : ¬ c.Role = 1 := fun h => h4 (.inl h)
  have r2 : ¬ c.Role = 2 := fun h => h4 (.inr h)
  simp [h1, h2, h3, r1, r2, bj7, aq2, bd2]
 have e4 : (if (!decide (c.Role = 1)) = true then some (!decide (c.Role = 2)) else some false) = some false := by
  rcases h4 with h | h <;> simp [h]
 simp only [h1, h2, decide_false, Bool.false_eq_true, if_false, aq2, Option.bind_some, bd2, h3, Bool.not_true, e4, bl8 hk.ok]
 by_cases h5 : bw6 c.Key = true
 case neg =>
  rw [Bool.not_eq_true] at h5
  have : (if (!decide (a87 c.Key = 0)) = true then some true else (aI4 c.Key).bind fun x11 => if (!x11) = true then some true else if (!decide ((List.length c.Own : Int) = 32)) = true then some true else if decide (c.Step < 0) = true then some true else (aK4 c.Proto).bind fun x15 => some (decide (x15 < c.Step))) = some true := by
   unfold bw6 at h5
   by_cases hc : a87 c.Key = 0
   ·simp only [hc, decide_true, Bool.true_and] at h5
    simp [hc, bt3 hl, h5]
   ·simp [hc]
  simp only [this, Option.bind_some, if_true]
  simp [bj7, h5]
 have h5' := h5
 unfold bw6 at h5'
 simp only [Bool.and_eq_true, decide_eq_true_eq] at h5'
 simp only [h5'.1, decide_true, Bool.not_true, Bool.false_eq_true, if_false, bt3 hl, h5'.2, Option.bind_some]
 by_cases h6 : (List.length c.Own : Int) = 32
 case neg => simp [h6, bj7]
 by_cases h7 : c.Step < 0
 ·simp [h6, h7, bj7]
 by_cases h8 : aL9 c.Proto < c.Step
 ·simp [h6, h7, h8, bj7, bt2 h3]
 simp only [h6, h7, h8, decide_true, decide_false, Bool.not_true, Bool.false_eq_true, if_false, bt2 h3, Option.bind_some, a35 h3 hl]
 have hpre : bj7 c = true := by
  have e4' : (decide (c.Role = 1) || decide (c.Role = 2)) = true := by simpa using h4
  simp [bj7, h1, h2, h3, e4', h5, h6, h7, h8]
 have hm := bF2 c.Proto
 obtain ⟨u1, _⟩ := bZ5 h5
 rw [hpre, Bool.true_and]
 have eK : aQ0 c = some (as2 c) := by rw [cq5 (by omega) (by omega) hl (by omega), bt4 h3 h4]
 have eP : (bw7 c).Phase = phS c := rfl
 have eU : (bw7 c).User = if phS c = 3 then usr c else [] := rfl
 rw [eP, eU, eK]
 have eF : (decide (c.Phase = 4) && decide (phS c = 2)) = bd4 c := rfl
 rw [eF]
 have key : (if (!bd4 c) = true then if (!decide (c.Phase = phS c)) = true then some true else if (!decide (c.User = if phS c = 3 then usr c else [])) = true then some true else if (!decide (bd4 c = decide (c.Err = 28))) = true then some true else some (!decide (c.Err = 0)) else if (!decide (c.User = if phS c = 3 then usr c else [])) = true then some true else if (!decide (bd4 c = decide (c.Err = 28))) = true then some true else some false) = some (!stB c) := by
  unfold stB
  generalize (if phS c = 3 then usr c else []) = X
  cases hf : bd4 c with
  | true =>
   by_cases q : c.User = X
   ·by_cases e : c.Err = 28
    ·simp [q, e]
    ·simp [q, e]
   ·simp [q]
  | false =>
   by_cases p : c.Phase = phS c
   ·by_cases q : c.User = X
    ·by_cases e : c.Err = 28
     ·simp [p, q, e]
     ·by_cases z : c.Err = 0
      ·simp [p, q, z]
      ·simp [p, q, e, z]
    ·simp [p, q]
   ·simp [p]
 rw [key, Option.bind_some]
 unfold a00
 cases stB c with
 | false => simp
 | true => simp only [Bool.not_true, Bool.false_eq_true, if_false, Option.bind_some, Bool.true_and]; cases as2 c <;> rfl
theorem bS0 (hk : Sh c.Key) : ax1 c = some (ag5 c) := by
 have hl := hk.le
 obtain ⟨e, he, hd, _⟩ := bR8 hk
 unfold ax1
 have hpre : (if decide (c.Id < 0) = true then some true else if decide (1048575 < c.Id) = true then some true else (ah3 c.Proto).bind fun x3 => if decide (x3 = 0) = true then some true else if (!decide (c.Role = 1)) = true then if (!decide (c.Role = 2)) = true then some true else if (!decide ((List.length c.Own : Int) = 32)) = true then some true else if decide (c.Step < 0) = true then some true else (ah3 c.Proto).bind fun x9 => if decide (x9 < c.Step) = true then some true else (aj6 c.Key).bind fun x11 => some (!decide (x11 = 0)) else if (!decide ((List.length c.Own : Int) = 32)) = true then some true else if decide (c.Step < 0) = true then some true else (ah3 c.Proto).bind fun x14 => if decide (x14 < c.Step) = true then some true else (aj6 c.Key).bind fun x16 => some (!decide (x16 = 0))) = some (!bj7 c) := by
  simp only [bt1, Option.bind_some, bK9, he, hd]
  unfold bj7
  by_cases h1 : c.Id < 0
  ·simp [h1]
  by_cases h2 : 1048575 < c.Id
  ·simp [h1, h2]
  by_cases h3 : ah7 c.Proto = true
  case neg => rw [Bool.not_eq_true] at h3; simp [h1, h2, h3]
  by_cases h6 : (List.length c.Own : Int) = 32
  case neg =>
   by_cases r1 : c.Role = 1
   ·simp [h1, h2, h3, h6, r1]
   ·by_cases r2 : c.Role = 2
    ·simp [h1, h2, h3, h6, r1, r2]
    ·simp [h1, h2, h3, h6, r1, r2]
  by_cases h7 : c.Step < 0
  ·by_cases r1 : c.Role = 1
   ·simp [h1, h2, h3, h6, h7, r1]
   ·by_cases r2 : c.Role = 2
    ·simp [h1, h2, h3, h6, h7, r1, r2]
    ·simp [h1, h2, h3, h6, h7, r1, r2]
  by_cases h8 : aL9 c.Proto < c.Step
  ·by_cases r1 : c.Role = 1
   ·simp [h1, h2, h3, h6, h7, h8, r1]
   ·by_cases r2 : c.Role = 2
    ·simp [h1, h2, h3, h6, h7, h8, r1, r2]
    ·simp [h1, h2, h3, h6, h7, h8, r1, r2]
  by_cases r1 : c.Role = 1
  ·simp [h1, h2, h3, h6, h7, h8, r1]
  ·by_cases r2 : c.Role = 2
   ·simp [h1, h2, h3, h6, h7, h8, r1, r2]
   ·simp [h1, h2, h3, h6, h7, h8, r1, r2]
 rw [hpre, Option.bind_some]
 unfold ag5
 cases bj7 c with
 | false => rfl
 | true =>
  simp only [Bool.not_true, Bool.false_eq_true, if_false, bR9, Option.bind_some, Bool.true_and]
  have hP : (if as2 c = true then if (!decide ((List.length c.Peer : Int) = 32)) = true then some true else if (!as2 c) = true then some (!decide (c.Peer = [])) else some false else if (!as2 c) = true then some (!decide (c.Peer = [])) else some false) = some (!a00 c) := by
   unfold a00
   cases as2 c with
   | true => by_cases q : (List.length c.Peer : Int) = 32 <;> simp [q]
   | false => simp
  rw [hP, Option.bind_some]
  cases a00 c with
  | false => simp
  | true =>
   simp only [Bool.not_true, Bool.false_eq_true, if_false, bR6, Option.bind_some, Bool.and_true]
   have hK : ∀ p e : Int, at5 c p e = some (decide (c.Phase = p) && (decide (c.User = if p = 3 then usr c else []) && decide (c.Err = e))) := by
    intro p e
    unfold at5
    by_cases h : p = 3
    ·simp only [h, decide_true, if_true, bL0 hl, Option.bind_some]; rfl
    ·simp only [h, decide_false, Bool.false_eq_true, if_false]; rfl
   rw [hK, hK]
   unfold stB bd4
   by_cases p : phS c = 2
   ·by_cases q : c.Phase = 4
    ·simp [p, q]
    ·simp [p, q]
   ·simp [p]
def ap0 (c : aa3) : Bool := (decide (c.Proto = [])) && ((decide (c.Role = 0)) && ((decide (c.Phase = 0)) && ((decide (c.Step = 0)) && ((decide (c.Key = [])) && ((decide (c.Own = [])) && ((decide (c.Peer = [])) && ((decide (c.User = [])) && (decide (c.Err = 0)))))))))
theorem bF3 (c : aa3) : au1 c = some (ap0 c) := by
 unfold au1 ap0
 have : decide ((List.length c.Key : Int) = 0) = decide (c.Key = []) := by
  rw [decide_eq_decide]
  constructor
  ·intro h; exact List.eq_nil_of_length_eq_zero (by omega)
  ·intro h; rw [h]; rfl
 rw [this]
theorem bS1 (h : c.Key.length ≤ 1000000) : at3 c = some (ap0 c) := by
 unfold at3 ar2 ap0
 simp only [ce5 h, Option.bind_some, decide_true, if_true]
 by_cases h1 : c.Proto = []
 case neg => simp [h1]
 by_cases h2 : c.Role = 0
 case neg => simp [h1, h2]
 by_cases h3 : c.Phase = 0
 case neg => simp [h1, h2, h3]
 by_cases h4 : c.Step = 0
 case neg => simp [h1, h2, h3, h4]
 by_cases h5 : c.Key = []
 case neg => simp [h1, h2, h3, h4, h5]
 by_cases h6 : c.Own = []
 case neg => simp [h1, h2, h3, h4, h5, h6]
 by_cases h7 : c.Peer = []
 case neg => simp [h1, h2, h3, h4, h5, h6, h7]
 by_cases h8 : c.User = []
 case neg => simp [h1, h2, h3, h4, h5, h6, h7, h8]
 simp [h1, h2, h3, h4, h5, h6, h7, h8]
theorem cJ6 (o s : Str) : ak0 o s = aJ5 o s := rfl
def bS2 (l : List (List aa1)) (i : Nat) (k : List aa1) : Bool := b52 k && !((l.take i).any fun o => decide (pub o = pub k))
theorem ce7 {l : List (List aa1)} {k : List aa1} (hl : l.length ≤ 1000000) (h : ∀ o ∈ l, o.length ≤ 1000000) (hk : k.length ≤ 1000000) : ad4 l k = some (l.any fun o => decide (pub o = pub k)) := by
 unfold ad4
 have : ae7 l k = some (be1 (fun o => decide (pub o = pub k)) l) := by
  unfold ae7
  refine aT5 hl (fun i hi => ?_) ?_
  ·simp only [ad3, dlt hi, if_true, aa7 hi, Option.bind_some, aX8, bZ3 (h _ (List.getElem_mem hi)) hk]
  ·simp [ad3]
 rw [this, Option.bind_some, bE1]
theorem cB1 (h : Lim a) : aP9 a = some (bv4 (bS2 a.Keys) 0 a.Keys && decide ((List.length a.Keys : Int) ≤ 64)) := by
 have h1 := h.keys
 unfold aP9
 refine (bb2 a.Keys (bS2 a.Keys) false (decide ((List.length a.Keys : Int) ≤ 64)) _ (fun i hi => ?_) ?_).trans ?_
 ·have hk := h.key _ (List.getElem_mem hi)
  have hc : cut a.Keys 0 (i : Int) = some (a.Keys.take i) := aP3 (by omega)
  simp only [aD7, dlt hi, if_true, aa7 hi, Option.bind_some, cw1 hk, hc, ce7 (show (a.Keys.take i).length ≤ 1000000 by simp; omega) (fun o ho => (h.key o (List.mem_of_mem_take ho)).le) hk.le]
  rw [ab0 (by omega)]
  unfold bS2
  cases b52 a.Keys[i] <;> cases ((a.Keys.take i).any fun o => decide (pub o = pub a.Keys[i])) <;> rfl
 ·simp [aD7]
 ·cases bv4 (bS2 a.Keys) 0 a.Keys <;> rfl
theorem ce8 {l : List (List aa1)} {i : Nat} (hi : i < l.length) : decide (ixF (fun k => decide (pub k = pub l[i])) l 0 = (i : Int)) = !((l.take i).any fun o => decide (pub o = pub l[i])) := by
 rw [Bool.eq_iff_iff]
 simp only [decide_eq_true_eq, Bool.not_eq_true', List.any_eq_false]
 rcases aX0 (fun k => decide (pub k = pub l[i])) l 0 with ⟨h1, h2⟩ | ⟨x, k, y, h1, h2, h3, h4⟩
 ·have := h1 _ (List.getElem_mem hi)
  simp at this
 ·rw [h4]
  constructor
  ·intro e o ho
   have e' : x.length = i := by simp at e; omega
   have : l.take i = x := by rw [h1, ← e', List.take_left]
   rw [this] at ho
   simpa using h3 o ho
  ·intro e
   have hle : x.length ≤ i := by
    rcases Nat.lt_or_ge i x.length with q | q
    ·exfalso
     have hx : l[i] = x[i] := by
      have : l[i]? = x[i]? := by rw [h1, List.getElem?_append_left q]
      simpa [hi, q] using this
     have := h3 _ (List.getElem_mem q)
     rw [← hx] at this
     simp at this
    ·exact q
   rcases Nat.lt_or_ge x.length i with q | q
   ·exfalso
    have hm : k ∈ l.take i := by
     rw [h1, List.take_append]
     refine List.mem_append_right _ ?_
     rw [show i - x.length = (i - x.length - 1) + 1 by omega, List.take_succ_cons]
     exact List.mem_cons_self
    have := e k hm
    simp only [decide_eq_true_eq] at h2
    simp [h2] at this
   ·simp; omega
def a01 (a : aa2) (i : Nat) (c : aa3) : Bool := !decide (c.Id < 1) && (!decide (a.Next ≤ c.Id) && ((match i with | 0 => true | k + 1 => match a.Convs[k]? with | some p => !decide (c.Id ≤ p.Id) | none => false) && (ap0 c || ag5 c)))
def bw8 (a : aa2) : Bool := !((decide (a.Owner = [])) || ((decide (32 < (List.length a.Owner : Int))) || ((decide (1024 < (List.length a.Seed : Int))) || ((decide (a.Next < 1)) || ((decide (1048560 < a.Next)) || ((decide (a.Count < 0)) || (decide (9007199254740991 < a.Count))))))))
def a02 (a : aa2) : Bool := bw8 a && (!decide (32 < (List.length a.Convs : Int)) && (!decide (64 < (List.length a.Keys : Int)) && (bv4 (bS2 a.Keys) 0 a.Keys && bv4 (a01 a) 0 a.Convs)))
theorem bL2 {β : Type} {i : Nat} (hi : i < a.Convs.length) (hl : a.Convs.length ≤ 1000000) (F : aa3 → Option Bool) (hF : F a.Convs[i] = some (ap0 a.Convs[i] || ag5 a.Convs[i])) (f g : aa3 → Option Bool)
  (hf : f a.Convs[i] = some (ap0 a.Convs[i])) (hg : g a.Convs[i] = some (ag5 a.Convs[i])) :
  (if (decide ((a.Convs[i]).Id < 1)) then some true else if (decide (a.Next ≤ (a.Convs[i]).Id)) then some true else if (decide (0 < (i : Int))) then (ae1 a.Convs (IntKind.wrap .i64 ((i : Int) - 1))).bind fun x30 => if (decide ((a.Convs[i]).Id ≤ x30.Id)) then some true else (f a.Convs[i]).bind fun x32 => if (!x32) then (g a.Convs[i]).bind fun x34 => some (!x34) else some false else (f a.Convs[i]).bind fun x35 => if (!x35) then (g a.Convs[i]).bind fun x37 => some (!x37) else some false) = some (!a01 a i a.Convs[i]) := by
 unfold a01
 have hfg : ((f a.Convs[i]).bind fun x32 => if (!x32) then (g a.Convs[i]).bind fun x34 => some (!x34) else some false) = some (!(ap0 a.Convs[i] || ag5 a.Convs[i])) := by
  rw [hf, hg, Option.bind_some]
  cases ap0 a.Convs[i] <;> simp
 simp only [hfg]
 by_cases h1 : (a.Convs[i]).Id < 1
 ·simp [h1]
 by_cases h2 : a.Next ≤ (a.Convs[i]).Id
 ·simp [h1, h2]
 simp only [h1, h2, decide_false, Bool.false_eq_true, if_false, Bool.not_false, Bool.true_and]
 cases i with
 | zero => simp
 | succ k =>
  have hk : k < a.Convs.length := by omega
  have hw : IntKind.wrap .i64 (((k + 1 : Nat) : Int) - 1) = (k : Int) := by rw [af5 (by omega) (by omega)]; omega
  have hp : (0 : Int) < ((k + 1 : Nat) : Int) := by omega
  rw [hw, aa7 hk]
  simp only [hp, decide_true, if_true, Option.bind_some, List.getElem?_eq_getElem hk]
  by_cases h3 : (a.Convs[k + 1]).Id ≤ (a.Convs[k]).Id
  ·simp [h3]
  ·simp [h3]
theorem bZ6 (h : Lim a) : au3 a = some (a02 a) := by
 have h1 := h.keys
 have h2 := h.convs
 unfold au3 a02
 have eb : ((decide (a.Owner = [])) || ((decide (32 < (List.length a.Owner : Int))) || ((decide (1024 < (List.length a.Seed : Int))) || ((decide (a.Next < 1)) || ((decide (1048560 < a.Next)) || ((decide (a.Count < 0)) || (decide (9007199254740991 < a.Count)))))))) = !bw8 a := by unfold bw8; rw [Bool.not_not]
 rw [eb]
 cases bw8 a with
 | false => rfl
 | true =>
  simp only [Bool.not_true, Bool.false_eq_true, if_false, Bool.true_and]
  by_cases q1 : (32 : Int) < (List.length a.Convs : Int)
  ·simp [q1]
  by_cases q2 : (64 : Int) < (List.length a.Keys : Int)
  ·simp [q1, q2]
  have q2' : decide ((List.length a.Keys : Int) ≤ 64) = true := by simp; omega
  simp only [q1, q2, decide_false, Bool.false_eq_true, if_false, cB1 h, q2', Option.bind_some, Bool.and_true, Bool.not_false, Bool.true_and]
  cases bv4 (bS2 a.Keys) 0 a.Keys with
  | false => rfl
  | true =>
   simp only [Bool.not_true, Bool.false_eq_true, if_false, Bool.true_and]
   refine (bb2 a.Convs (a01 a) false true _ (fun i hi => ?_) ?_).trans ?_
   ·have hs := (h.conv _ (List.getElem_mem hi)).key
    simp only [az9, dlt hi, if_true, aa7 hi, Option.bind_some]
    rw [bL2 (β := Unit) hi (by omega) (fun _ => some (ap0 a.Convs[i] || ag5 a.Convs[i])) rfl au1 aI5 (bF3 _) (bL1 hs), Option.bind_some, ab0 (by omega)]
    cases a01 a i a.Convs[i] <;> rfl
   ·simp [az9]
   ·cases bv4 (a01 a) 0 a.Convs <;> rfl
theorem bS3 (h : Lim a) : at8 a = some (a02 a) := by
 have h1 := h.keys
 have h2 := h.convs
 have hC : aa9 (fun s => at6 a s) 0 = some (bv4 (a01 a) 0 a.Convs) := by
  refine (bb2 a.Convs (a01 a) false true _ (fun i hi => ?_) ?_).trans ?_
  ·have hs := (h.conv _ (List.getElem_mem hi)).key
   simp only [at6, dlt hi, if_true, aa7 hi, Option.bind_some]
   rw [bL2 (β := Unit) hi (by omega) (fun _ => some (ap0 a.Convs[i] || ag5 a.Convs[i])) rfl at3 ax1 (bS1 hs.le) (bS0 hs), Option.bind_some, ab0 (by omega)]
   cases a01 a i a.Convs[i] <;> rfl
  ·simp [at6]
  ·cases bv4 (a01 a) 0 a.Convs <;> rfl
 have hK : aa9 (fun s => at7 a s) 0 = some (bv4 (bS2 a.Keys) 0 a.Keys && bv4 (a01 a) 0 a.Convs) := by
  refine (bb2 a.Keys (bS2 a.Keys) false (bv4 (a01 a) 0 a.Convs) _ (fun i hi => ?_) ?_).trans ?_
  ·have hk := h.key _ (List.getElem_mem hi)
   have hp := ce8 hi
   have := @cq1 a.Keys (pub a.Keys[i]) (by omega) (fun k hk => (h.key k hk).le)
   unfold pub at this
   simp only [at7, dlt hi, if_true, aa7 hi, Option.bind_some, cq2 hk, bj5 hk.le, this]
   rw [ab0 (by omega)]
   unfold pub at hp
   rw [hp]
   unfold bS2 pub
   cases b52 a.Keys[i] <;> cases ((a.Keys.take i).any fun o => decide ((o.filter fun a => !an2 a.Name) = (a.Keys[i]).filter fun a => !an2 a.Name)) <;> rfl
  ·simp [at7, hC]
  ·cases bv4 (bS2 a.Keys) 0 a.Keys <;> rfl
 unfold at8 a02 bw8
 rw [hK]
 unfold aJ5
 by_cases q1 : a.Owner = []
 ·simp [q1]
 by_cases q2 : (32 : Int) < (List.length a.Owner : Int)
 ·simp [q1, q2]
 by_cases q3 : (1024 : Int) < (List.length a.Seed : Int)
 ·simp [q1, q2, q3]
 by_cases q4 : (64 : Int) < (List.length a.Keys : Int)
 ·simp [q1, q2, q3, q4]
 by_cases q5 : (32 : Int) < (List.length a.Convs : Int)
 ·simp [q1, q2, q3, q4, q5]
 simp only [q1, q2, q3, q4, q5, decide_false, Bool.or_self, Bool.false_eq_true, if_false, Option.bind_some, decide_true, Bool.not_true, Bool.or_false, Bool.false_or, Bool.not_false, Bool.true_and]
 cases ((decide (a.Next < 1)) || ((decide (1048560 < a.Next)) || ((decide (a.Count < 0)) || (decide (9007199254740991 < a.Count))))) <;> rfl
structure Val (a : aa2) : Prop where
 lim : Lim a
 ok : a02 a = true
theorem Val.base (v : Val a) : a.Owner ≠ [] ∧ a.Owner.length ≤ 32 ∧ a.Seed.length ≤ 1024 ∧ 1 ≤ a.Next ∧ a.Next ≤ 1048560 ∧ 0 ≤ a.Count ∧ a.Count ≤ 9007199254740991 ∧ a.Convs.length ≤ 32 ∧ a.Keys.length ≤ 64 := by
 have h := v.ok
 unfold a02 bw8 at h
 simp only [Bool.and_eq_true, Bool.not_eq_true', Bool.or_eq_false_iff, decide_eq_false_iff_not] at h
 obtain ⟨⟨h1, h2, h3, h4, h5, h6, h7⟩, h8, h9, _⟩ := h
 exact ⟨h1, by omega, by omega, by omega, by omega, by omega, by omega, by omega, by omega⟩
theorem Val.convAt (v : Val a) {i : Nat} (hi : i < a.Convs.length) : 1 ≤ (a.Convs[i]).Id ∧ (a.Convs[i]).Id < a.Next ∧ (ap0 a.Convs[i] = true ∨ ag5 a.Convs[i] = true) := by
 have h := v.ok
 unfold a02 at h
 simp only [Bool.and_eq_true] at h
 have := bb1.1 h.2.2.2.2 i hi
 unfold a01 at this
 simp only [Bool.and_eq_true, Bool.not_eq_true', decide_eq_false_iff_not, Bool.or_eq_true] at this
 exact ⟨by omega, by omega, this.2.2.2⟩
theorem Val.conv (v : Val a) {c : aa3} (hc : c ∈ a.Convs) : 1 ≤ c.Id ∧ c.Id < 1048560 := by
 obtain ⟨i, hi, rfl⟩ := List.getElem_of_mem hc
 have := v.convAt hi
 have := v.base
 omega
theorem Val.key (v : Val a) {k : List aa1} (hk : k ∈ a.Keys) : b52 k = true := by
 obtain ⟨i, hi, rfl⟩ := List.getElem_of_mem hk
 have h := v.ok
 unfold a02 at h
 simp only [Bool.and_eq_true] at h
 have := bb1.1 h.2.2.2.1 i hi
 unfold bS2 at this
 simp only [Bool.and_eq_true] at this
 exact this.1
def aM0 (a : aa2) (id : Int) : Int := ixF (fun c => decide (c.Id = id - 16)) a.Convs 0
theorem ce9 {c : aa3} {id : Int} (w : -9223372036854775808 ≤ id ∧ id ≤ 9223372036854775807) (h : 1 ≤ c.Id ∧ c.Id < 1048560) : decide (c.Id = IntKind.wrap .i64 (id - 16)) = decide (c.Id = id - 16) := by
 by_cases q : -9223372036854775792 ≤ id
 ·rw [af5 (by omega) (by omega)]
 ·have : IntKind.wrap .i64 (id - 16) = id - 16 + 18446744073709551616 := by
   have e : IntKind.wrap .i64 (id - 16) = if 9223372036854775808 ≤ (id - 16) % 18446744073709551616 then (id - 16) % 18446744073709551616 - 18446744073709551616 else (id - 16) % 18446744073709551616 := by simp [IntKind.wrap, IntKind.bits, IntKind.signed]
   rw [e]
   split <;> omega
  rw [this, decide_eq_decide]
  omega
theorem bt5 (v : Val a) {id : Int} (w : -9223372036854775808 ≤ id ∧ id ≤ 9223372036854775807) : ax6 a id = some (aM0 a id) := by
 have hb := v.base
 unfold ax6 ag8
 have : aa9 (fun s => ab4 a.Convs id s) 0 = some (aM0 a id) := by
  refine bq6 a.Convs _ _ (fun i hi => ?_) ?_
  ·simp only [ab4, dlt hi, if_true, aa7 hi, Option.bind_some, aX5, ce9 w (v.conv (List.getElem_mem hi))]
   rw [ab0 (by omega)]
   cases decide ((a.Convs[i]).Id = id - 16) <;> rfl
  ·simp [ab4]
 rw [this]; rfl
theorem b53 (v : Val a) {id : Int} (w : -9223372036854775808 ≤ id ∧ id ≤ 9223372036854775807) : ax9 a id = some (aM0 a id) := by
 have hb := v.base
 unfold ax9
 refine bq6 a.Convs _ _ (fun i hi => ?_) ?_
 ·have hc := v.conv (List.getElem_mem hi)
  simp only [aH5, dlt hi, if_true, aa7 hi, Option.bind_some, ce9 w hc]
  rw [ab0 (by omega)]
  by_cases q : 16 < id
  ·simp only [q, decide_true, if_true, Option.bind_some]
   cases decide ((a.Convs[i]).Id = id - 16) <;> rfl
  ·have : ¬ ((a.Convs[i]).Id = id - 16) := by omega
   simp [q, this]
 ·simp [aH5]
def ah8 (a : aa2) (id : Int) : Bool := (decide (1 ≤ id) && decide (id ≤ 4)) || decide (0 ≤ aM0 a id)
theorem aR1 (v : Val a) {id : Int} (w : -9223372036854775808 ≤ id ∧ id ≤ 9223372036854775807) : am2 a id = some (ah8 a id) := by
 unfold am2 ah8
 rw [bt5 v w]
 cases decide (1 ≤ id) <;> cases decide (id ≤ 4) <;> simp
theorem a03 (v : Val a) {id : Int} (w : -9223372036854775808 ≤ id ∧ id ≤ 9223372036854775807) : am6 a id = some (ah8 a id) := by
 unfold am6 ah8
 rw [b53 v w]
 cases decide (1 ≤ id) <;> cases decide (id ≤ 4) <;> simp
theorem aL2 (v : Val a) (id : Int) : aM0 a id = -1 ∨ ∃ i, ∃ h : i < a.Convs.length, aM0 a id = (i : Int) ∧ (a.Convs[i]).Id = id - 16 ∧ 17 ≤ id ∧ id < 1048576 := by
 rcases aX0 (fun c => decide (c.Id = id - 16)) a.Convs 0 with ⟨h1, h2⟩ | ⟨x, k, y, h1, h2, h3, h4⟩
 ·exact .inl h2
 ·refine .inr ⟨x.length, by rw [h1]; simp, by unfold aM0; rw [h4]; simp, ?_⟩
  have hk : a.Convs[x.length]? = some k := by rw [h1]; simp
  have hi : x.length < a.Convs.length := by rw [h1]; simp
  have e : a.Convs[x.length] = k := by
   rw [List.getElem?_eq_getElem hi] at hk
   exact Option.some.inj hk
  have hid := of_decide_eq_true h2
  have := v.conv (c := k) (by rw [h1]; simp)
  rw [e]
  omega
def be2 (p : List aa1) : List (List aa1) → List aa1 × Bool
 | [] => ([], false)
 | k :: r => if p.all (aQ9 k) = true then (k, true) else be2 p r
theorem cw3 (h : Lim a) {p : List aa1} (hp : p.length ≤ 1000000) : aP8 a p = some (be2 p a.Keys) := by
 have h1 := h.keys
 unfold aP8
 refine (af2 a.Keys.length (fun (_ : Unit) i => i) (fun s => aE5 a p s) (fun i _ => be2 p (a.Keys.drop i)) (fun _ _ => True) (s0 := ()) trivial ?_ ?_)
 ·intro _ i hi _
  have hk := (h.key _ (List.getElem_mem hi)).le
  simp only [aE5, dlt hi, if_true, aa7 hi, Option.bind_some, bg4 hk hp, aH9 hk]
  rw [List.drop_eq_getElem_cons hi]
  cases q : p.all (aQ9 a.Keys[i]) with
  | true => right; simp [be2, q]
  | false => left; exact ⟨(), by rw [ab0 (by omega)]; simp, by simp [be2, q], trivial⟩
 ·intro _ _
  simp [aE5, be2]
theorem cf0 (h : Lim a) {p : List aa1} (hp : p.length ≤ 1000000) : aQ4 a p = some (be2 p a.Keys) := by
 have h1 := h.keys
 unfold aQ4
 refine (af2 a.Keys.length (fun (_ : Unit) i => i) (fun s => aE7 a p s) (fun i _ => be2 p (a.Keys.drop i)) (fun _ _ => True) (s0 := ()) trivial ?_ ?_)
 ·intro _ i hi _
  have hk := (h.key _ (List.getElem_mem hi)).le
  have hap : aF9 40 ([] : List aa1) a.Keys[i] = some a.Keys[i] := by rw [aj0 (by simp; omega) (by simp; omega)]; simp
  simp only [aE7, dlt hi, if_true, aa7 hi, Option.bind_some, bE6 hk hp, hap]
  rw [List.drop_eq_getElem_cons hi]
  cases q : p.all (aQ9 a.Keys[i]) with
  | true => right; simp [be2, q]
  | false => left; exact ⟨(), by rw [ab0 (by omega)]; simp, by simp [be2, q], trivial⟩
 ·intro _ _
  simp [aE7, be2]
theorem bF4 {p : List aa1} : ∀ {l : List (List aa1)}, (be2 p l).2 = true → (be2 p l).1 ∈ l
 | k :: r, h => by
  unfold be2 at h ⊢
  split
  ·simp
  ·rename_i q
   rw [if_neg q] at h
   exact List.mem_cons_of_mem _ (bF4 h)
theorem cq6 (h : Lim a) (p : List aa1) : (be2 p a.Keys).1.length ≤ 2000 := by
 have : ∀ l : List (List aa1), (∀ k ∈ l, k.length ≤ 2000) → (be2 p l).1.length ≤ 2000 := by
  intro l
  induction l with
  | nil => intro _; simp [be2]
  | cons k r ih =>
   intro hl
   unfold be2
   split
   ·exact hl k (by simp)
   ·exact ih fun x hx => hl x (by simp [hx])
 exact this _ fun k hk => (h.key k hk).len
variable {c : aa3} {a : aa2} {id : Int}
def bF5 (id : Int) : Str := if id = 1 then [47] else if id = 2 then [99, 116, 108] else if id = 3 then [112, 114, 111, 116, 111] else if id = 4 then [114, 112, 99] else Go.Lib.itoa (id - 16)
def cq7 (id : Int) : Int := if id = 1 then 2147484013 else if id = 3 then 292 else 384
def bd5 (id : Int) : Prop := 1 ≤ id ∧ id ≤ 4 ∨ 17 ≤ id ∧ id < 1048576
theorem cf1 (h : bd5 id) : aQ6 id = some (bF5 id, cq7 id) := by
 unfold aQ6 bF5 cq7
 by_cases h1 : id = 1
 ·simp [h1]
 by_cases h2 : id = 2
 ·simp [h1, h2]
 by_cases h3 : id = 3
 ·simp [h1, h2, h3]
 by_cases h4 : id = 4
 ·simp [h1, h2, h3, h4]
 have hr : 17 ≤ id ∧ id < 1048576 := by unfold bd5 at h; omega
 simp only [h1, h2, h3, h4, decide_false, Bool.false_eq_true, if_false]
 rw [af5 (by omega) (by omega), bs7 (by omega) (by omega)]; rfl
theorem a88 (h : bd5 id) : aI6 id = some (bF5 id) := by
 unfold aI6 bF5
 rcases h with ⟨h1, h2⟩ | ⟨h1, h2⟩
 ·have : id = 1 ∨ id = 2 ∨ id = 3 ∨ id = 4 := by omega
  rcases this with rfl | rfl | rfl | rfl <;> rfl
 ·have g0 : ¬ id ≤ 4 := by omega
  have g1 : ¬ id = 1 := by omega
  have g2 : ¬ id = 2 := by omega
  have g3 : ¬ id = 3 := by omega
  have g4 : ¬ id = 4 := by omega
  simp only [g0, g1, g2, g3, g4, decide_false, Bool.false_eq_true, if_false]
  rw [af5 (by omega) (by omega), bE7 (by omega) (by omega)]; rfl
theorem bt6 (v : Val a) (h : ah8 a id = true) : bd5 id := by
 unfold ah8 at h
 simp only [Bool.or_eq_true, Bool.and_eq_true, decide_eq_true_eq] at h
 rcases h with h | h
 ·exact .inl h
 ·rcases aL2 v id with h1 | ⟨i, hi, _, _, h2⟩
  ·omega
  ·exact .inr h2
def a92 (a : aa2) (id : Int) : ab9 := ⟨6, 0, ⟨if id = 1 then 128 else 0, 0, id⟩, cq7 id, 0, 0, 0, bF5 id, a.Owner, a.Owner, []⟩
def dir0 : ab9 := ⟨0, 0, ⟨0, 0, 0⟩, 0, 0, 0, 0, [], [], [], []⟩
def b54 (a : aa2) (id : Int) : ab9 × Int := if ah8 a id = true then (a92 a id, 0) else (dir0, 8)
theorem cf2 (v : Val a) (w : -9223372036854775808 ≤ id ∧ id ≤ 9223372036854775807) : ay0 a id = some (b54 a id) := by
 unfold ay0 b54
 rw [aR1 v w, Option.bind_some]
 cases he : ah8 a id with
 | false => rfl
 | true =>
  simp only [Bool.not_true, Bool.false_eq_true, if_false, cf1 (bt6 v he), Option.bind_some, if_true]
  unfold a92
  by_cases h : id = 1 <;> simp [h]
theorem bg8 (v : Val a) (w : -9223372036854775808 ≤ id ∧ id ≤ 9223372036854775807) : aC4 a id = some (b54 a id) := by
 unfold aC4 b54
 rw [a03 v w, Option.bind_some]
 cases he : ah8 a id with
 | false => rfl
 | true =>
  simp only [Bool.not_true, Bool.false_eq_true, if_false, a88 (bt6 v he), Option.bind_some, if_true]
  unfold a92 cq7 aH7
  by_cases h : id = 1
  ·simp [h]
  ·by_cases h3 : id = 3
   ·simp [h, h3]
   ·simp [h, h3]
def aC7 (a : aa2) : List Int := [2, 3, 4] ++ a.Convs.map fun c => 16 + c.Id
theorem bd6 (v : Val a) : ∀ k ∈ aC7 a, bd5 k ∧ ah8 a k = true := by
 intro k hk
 unfold aC7 at hk
 rcases List.mem_append.1 hk with hk | hk
 ·have : k = 2 ∨ k = 3 ∨ k = 4 := by simpa using hk
  rcases this with rfl | rfl | rfl <;> exact ⟨.inl (by omega), by simp [ah8]⟩
 ·obtain ⟨c, hc, rfl⟩ := List.mem_map.1 hk
  have := v.conv hc
  refine ⟨.inr (by omega), ?_⟩
  unfold ah8
  have : 0 ≤ aM0 a (16 + c.Id) := by
   unfold aM0
   rcases aX0 (fun x : aa3 => decide (x.Id = 16 + c.Id - 16)) a.Convs 0 with ⟨h1, h2⟩ | ⟨x, k, y, h1, h2, h3, h4⟩
   ·have := h1 c hc
    simp at this
    omega
   ·rw [h4]; omega
  simp [this]
theorem bt7 (v : Val a) : (aC7 a).length = a.Convs.length + 3 := by simp [aC7]
theorem cw4 (v : Val a) : aZ4 a = some (aC7 a) := by
 have hb := v.base
 unfold aZ4
 refine (af2 a.Convs.length (fun (s : List Int) i => (i, s)) (fun s => aF0 a s.1 s.2) (fun i s => s ++ (a.Convs.drop i).map fun c => 16 + c.Id) (fun i s => s.length = i + 3) (s0 := [2, 3, 4]) rfl ?_ ?_).trans rfl
 ·intro s i hi hs
  left
  have hc := v.conv (List.getElem_mem hi)
  refine ⟨s ++ [16 + (a.Convs[i]).Id], ?_, ?_, by simp; omega⟩
  ·simp only [aF0, dlt hi, if_true, aa7 hi, Option.bind_some]
   rw [af5 (n := 16 + (a.Convs[i]).Id) (by omega) (by omega), aj0 (by simp; omega) (by simp; omega), ab0 (by omega)]; rfl
  ·rw [List.drop_eq_getElem_cons hi, List.map_cons, List.append_assoc]; rfl
 ·intro s hs
  simp [aF0]
def aL3 (want : Str) : List Int → Int × Int
 | [] => (0, 8)
 | k :: r => if bF5 k = want then (k, 0) else aL3 want r
def aO3 (a : aa2) (id : Int) : Int := if ah8 a id = true then (if id = 1 then 0 else 9) else 8
theorem bL3 (v : Val a) (w : -9223372036854775808 ≤ id ∧ id ≤ 9223372036854775807) : aE9 a id = some (aO3 a id) := by
 unfold aE9 aO3
 rw [aR1 v w, Option.bind_some]
 cases ah8 a id with
 | false => rfl
 | true => by_cases h : id = 1 <;> simp [h]
def cq8 (a : aa2) (id : Int) (want : Str) : Int × Int := if aO3 a id = 0 then (if want = [46, 46] then (1, 0) else aL3 want (aC7 a)) else (0, aO3 a id)
theorem cB2 (v : Val a) (w : -9223372036854775808 ≤ id ∧ id ≤ 9223372036854775807) (want : Str) : aC3 a id want = some (cq8 a id want) := by
 have hb := v.base
 have hL := bt7 v
 unfold aC3 cq8
 rw [bL3 v w, Option.bind_some]
 by_cases h0 : aO3 a id = 0
 ·by_cases hd : want = [46, 46]
  ·simp [h0, hd]
  ·simp only [h0, hd, decide_true, decide_false, Bool.not_true, Bool.false_eq_true, if_false, if_true, cw4 v, Option.bind_some]
   refine (af2 (aC7 a).length (fun (_ : Unit) i => i) (fun s => aw6 want (aC7 a) s) (fun i _ => aL3 want ((aC7 a).drop i)) (fun _ _ => True) (s0 := ()) trivial ?_ ?_)
   ·intro _ i hi _
    have hk := (bd6 v _ (List.getElem_mem hi)).1
    simp only [aw6, dlt hi, if_true, aa7 hi, Option.bind_some, cf1 hk]
    rw [List.drop_eq_getElem_cons hi]
    by_cases q : bF5 (aC7 a)[i] = want
    ·right; simp [aL3, q]
    ·left; exact ⟨(), by rw [ab0 (by omega)]; simp [q], by simp [aL3, q], trivial⟩
   ·intro _ _
    simp [aw6, aL3]
 ·simp [h0]
theorem b55 (v : Val a) (w : -9223372036854775808 ≤ id ∧ id ≤ 9223372036854775807) (want : Str) : aQ7 a id want = some (cq8 a id want) := by
 have hb := v.base
 unfold aQ7 cq8
 rw [a03 v w, Option.bind_some]
 have e : aO3 a id = if ah8 a id = true then (if id = 1 then 0 else 9) else 8 := rfl
 cases he : ah8 a id with
 | false => rw [he] at e; simp [e]
 | true =>
  rw [he] at e
  by_cases h1 : id = 1
  case neg => simp [e, h1]
  simp only [if_true, h1] at e
  by_cases hd : want = [46, 46]
  ·simp [e, hd, h1]
  simp only [e, hd, h1, Bool.not_true, Bool.false_eq_true, decide_true, decide_false, if_false, if_true]
  have hC : aa9 (fun s => ar6 a want s) 0 = some (aL3 want (a.Convs.map fun c => 16 + c.Id)) := by
   refine (af2 a.Convs.length (fun (_ : Unit) i => i) (fun s => ar6 a want s) (fun i _ => aL3 want ((a.Convs.drop i).map fun c => 16 + c.Id)) (fun _ _ => True) (s0 := ()) trivial ?_ ?_)
   ·intro _ i hi _
    have hc := v.conv (List.getElem_mem hi)
    have hw : IntKind.wrap .i64 ((a.Convs[i]).Id + 16) = 16 + (a.Convs[i]).Id := by rw [af5 (by omega) (by omega)]; omega
    have hf : bd5 (16 + (a.Convs[i]).Id) := .inr (by omega)
    simp only [ar6, dlt hi, if_true, aa7 hi, Option.bind_some, hw, a88 hf]
    rw [List.drop_eq_getElem_cons hi, List.map_cons]
    by_cases q : bF5 (16 + (a.Convs[i]).Id) = want
    ·right; simp [aL3, q]
    ·left; exact ⟨(), by rw [ab0 (by omega)]; simp [q], by simp [aL3, q], trivial⟩
   ·intro _ _
    simp [ar6, aL3]
  have key : aa9 (fun s => av0 a want s) 2 = some (aL3 want (aC7 a)) := by
   refine (af2 3 (fun (_ : Unit) i => i + 2) (fun s => av0 a want s) (fun i _ => aL3 want ((aC7 a).drop i)) (fun i _ => i ≤ 3) (s0 := ()) (by omega) ?_ ?_)
   ·intro _ i hi _
    have hle : ((i : Int) + 2) ≤ 4 := by omega
    have hf : bd5 ((i : Int) + 2) := .inl (by omega)
    have hil : i < (aC7 a).length := by rw [bt7 v]; omega
    have hel : (aC7 a)[i] = (i : Int) + 2 := by
     have : i = 0 ∨ i = 1 ∨ i = 2 := by omega
     rcases this with rfl | rfl | rfl <;> rfl
    simp only [av0, hle, decide_true, if_true, a88 hf, Option.bind_some]
    rw [List.drop_eq_getElem_cons hil, hel]
    by_cases q : bF5 ((i : Int) + 2) = want
    ·right; simp [aL3, q]
    ·left
     refine ⟨(), ?_, by simp [aL3, q], by omega⟩
     rw [af5 (by omega) (by omega)]
     simp only [q, decide_false, Bool.false_eq_true, if_false]
     first | (congr 2; done) | (congr 2; omega)
   ·intro _ _
    have : ¬ (((3 : Nat) : Int) + 2 ≤ 4) := by omega
    simp only [av0, this, decide_false, Bool.false_eq_true, if_false, hC, Option.map_some]
    rfl
  exact key
theorem bS4 (h : bd5 id) : -9223372036854775808 ≤ id ∧ id ≤ 9223372036854775807 := by unfold bd5 at h; omega
theorem bF6 (v : Val a) {k : Int} (hk : k ∈ aC7 a) : b54 a k = (a92 a k, 0) := by
 unfold b54
 rw [if_pos (bd6 v k hk).2]
def b56 (a : aa2) (id : Int) : List ab9 × Int := if aO3 a id = 0 then ((aC7 a).map (a92 a), 0) else ([], aO3 a id)
theorem cB3 (v : Val a) (w : -9223372036854775808 ≤ id ∧ id ≤ 9223372036854775807) : aC5 a id = some (b56 a id) := by
 have hb := v.base
 have hL := bt7 v
 unfold aC5 b56
 rw [bL3 v w, Option.bind_some]
 by_cases h0 : aO3 a id = 0
 ·simp only [h0, decide_true, Bool.not_true, Bool.false_eq_true, if_false, if_true, cw4 v, Option.bind_some]
  refine cp0 (aC7 a) (a92 a) (fun s i => (i, s)) (fun s => aw7 a (aC7 a) s.1 s.2) ((aC7 a).map (a92 a), 0) (fun s i hi hs => ?_) ?_
  ·have hm := List.getElem_mem hi
   have hf := bS4 (bd6 v _ hm).1
   simp only [aw7, dlt hi, if_true, aa7 hi, Option.bind_some, cf2 v hf, bF6 v hm]
   rw [aj0 (by simp; omega) (by simp; omega), ab0 (by omega)]; rfl
  ·simp [aw7]
 ·simp [h0]
theorem b57 (v : Val a) (w : -9223372036854775808 ≤ id ∧ id ≤ 9223372036854775807) : a33 a id = some (b56 a id) := by
 have hb := v.base
 have hL := bt7 v
 unfold a33 b56
 rw [a03 v w, Option.bind_some]
 have e : aO3 a id = if ah8 a id = true then (if id = 1 then 0 else 9) else 8 := rfl
 cases he : ah8 a id with
 | false => rw [he] at e; simp [e]
 | true =>
  rw [he] at e
  by_cases h1 : id = 1
  case neg => simp [e, h1]
  simp only [if_true, h1] at e
  simp only [e, h1, Bool.not_true, Bool.false_eq_true, decide_true, if_false, if_true]
  have hC : ∀ out : List ab9, out.length = 3 → aa9 (fun s => ar7 a s.1 s.2) (0, out) = some (out ++ (a.Convs.map fun c => a92 a (16 + c.Id)), 0) := by
   intro out ho
   refine (af2 a.Convs.length (fun (s : List ab9) i => (i, s)) (fun s => ar7 a s.1 s.2) (fun i s => (s ++ (a.Convs.drop i).map fun c => a92 a (16 + c.Id), 0)) (fun i s => s.length = i + 3) (s0 := out) (by omega) ?_ ?_)
   ·intro s i hi hs
    left
    have hc := v.conv (List.getElem_mem hi)
    have hw : IntKind.wrap .i64 (16 + (a.Convs[i]).Id) = 16 + (a.Convs[i]).Id := af5 (by omega) (by omega)
    have hm : (16 + (a.Convs[i]).Id) ∈ aC7 a := List.mem_append_right _ (List.mem_map.2 ⟨_, List.getElem_mem hi, rfl⟩)
    refine ⟨s ++ [a92 a (16 + (a.Convs[i]).Id)], ?_, ?_, by simp; omega⟩
    ·simp only [ar7, dlt hi, if_true, aa7 hi, Option.bind_some, hw, bg8 v (bS4 (bd6 v _ hm).1), bF6 v hm]
     rw [aj0 (by simp; omega) (by simp; omega), ab0 (by omega)]; rfl
    ·rw [List.drop_eq_getElem_cons hi, List.map_cons, List.append_assoc]; rfl
   ·intro s hs
    simp [ar7]
  have m2 : (2 : Int) ∈ aC7 a := by simp [aC7]
  have m3 : (3 : Int) ∈ aC7 a := by simp [aC7]
  have m4 : (4 : Int) ∈ aC7 a := by simp [aC7]
  have st : ∀ (k : Int) (out : List ab9), k ∈ aC7 a → k ≤ 4 → 0 ≤ k → out.length ≤ 10 → av1 a k out = some (.cont (k + 1, out ++ [a92 a k])) := by
   intro k out hk h4 h0 ho
   simp only [av1, h4, decide_true, if_true, bg8 v (bS4 (bd6 v _ hk).1), bF6 v hk, Option.bind_some]
   rw [aj0 (by simp; omega) (by simp; omega), af5 (by omega) (by omega)]; rfl
  have b1 := st 2 [] m2 (by omega) (by omega) (by simp)
  have b2 := st 3 [a92 a 2] m3 (by omega) (by omega) (by simp)
  have b3 := st 4 [a92 a 2, a92 a 3] m4 (by omega) (by omega) (by simp)
  have b4 : av1 a 5 [a92 a 2, a92 a 3, a92 a 4] = some (.done ([a92 a 2, a92 a 3, a92 a 4] ++ (a.Convs.map fun c => a92 a (16 + c.Id)), 0)) := by
   simp only [av1, show decide ((5 : Int) ≤ 4) = false from by decide, Bool.false_eq_true, if_false, hC [a92 a 2, a92 a 3, a92 a 4] rfl, Option.map_some]
  rw [ah0 (s' := (3, [a92 a 2])) b1, ah0 (s' := (4, [a92 a 2, a92 a 3])) b2, ah0 (s' := (5, [a92 a 2, a92 a 3, a92 a 4])) b3, ax3 b4]
  unfold aC7
  rw [List.map_append, List.map_map]; rfl
theorem cf3 {l : List ab9} (h : l.length ≤ 1000000) : aQ8 l l = some true := by
 unfold aQ8
 simp only [decide_true, Bool.not_true, Bool.false_eq_true, if_false]
 refine (bl5 l (fun _ => true) _ (fun i hi => ?_) ?_).trans (by simp)
 ·simp only [aH8, dlt hi, if_true, aa7 hi, Option.bind_some, decide_true, Bool.and_self, Bool.not_true, Bool.false_eq_true, if_false]
  rw [ab0 (by omega)]
 ·simp [aH8]
theorem cq9 (v : Val a) : (b56 a id).1.length ≤ 1000000 := by
 have := v.base
 have := bt7 v
 unfold b56
 split
 ·simp; omega
 ·simp
def bS5 (k : List aa1) : Str := [107, 101, 121, 32] ++ (if a87 (pub k) = 0 then a60 (pub k) else []) ++ [10]
def bw9 (a : aa2) (id : Int) : Str := if id = 2 then (a.Keys.map bS5).flatten else if id = 3 then an3 ++ [10] ++ (aO2 ++ [10]) ++ (av3 ++ [10]) else []
theorem bL4 {k : List aa1} (h : Sh k) : (bS5 k).length ≤ 31000000 := by
 have hp := cw0 h
 have h1 : (a60 (pub k)).length ≤ 2000 * 15004 + 10 := by
  unfold a60
  have := bY8 (K := 15003) (sep := [32]) (l := (pub k).map bA0) (fun x hx => by
   obtain ⟨y, hy, rfl⟩ := List.mem_map.1 hx
   exact bY7 (hp.ok.2 y hy))
  have h2 := hp.len
  simp only [List.length_map] at this
  have h3 : (pub k).length * (15003 + List.length ([32] : Str)) ≤ 2000 * 15004 := Nat.mul_le_mul h2 (by simp)
  omega
 unfold bS5
 split <;> simp <;> omega
theorem bZ7 : ∀ {l : List (List aa1)}, (∀ k ∈ l, Sh k) → (l.map bS5).flatten.length ≤ l.length * 31000000
 | [], _ => by simp
 | k :: r, h => by
  have h1 := bL4 (h k (by simp))
  have h2 := bZ7 (l := r) fun x hx => h x (by simp [hx])
  simp only [List.map_cons, List.flatten_cons, List.length_append, List.length_cons]
  omega
theorem cf4 (v : Val a) : (bw9 a id).length ≤ 2300000000 := by
 have hb := v.base
 unfold bw9
 split
 ·have := bZ7 (l := a.Keys) v.lim.key
  omega
 ·split
  ·decide
  ·simp
theorem bS6 (v : Val a) : aD3 a id = some (bw9 a id) := by
 have hb := v.base
 unfold aD3 bw9
 by_cases h2 : id = 2
 ·simp only [h2, decide_true, if_true]
  refine (af2 a.Keys.length (fun (s : Str) i => (i, s)) (fun s => am5 a s.1 s.2) (fun i s => s ++ ((a.Keys.drop i).map bS5).flatten) (fun i s => s.length ≤ i * 31000000) (s0 := []) (by simp) ?_ ?_).trans rfl
  ·intro s i hi hs
   left
   have hk := v.lim.key _ (List.getElem_mem hi)
   have hl := bL4 hk
   have hp := cp6 (cw0 hk).ok
   unfold pub at hp
   refine ⟨s ++ bS5 a.Keys[i], ?_, ?_, ?_⟩
   ·simp only [am5, dlt hi, if_true, aa7 hi, Option.bind_some, bs6 hk.le, hp]
    have e : (if a87 (List.filter (fun a => !an2 a.Name) a.Keys[i]) = 0 then (a60 (List.filter (fun a => !an2 a.Name) a.Keys[i]), (0 : Int)) else ([], a87 (List.filter (fun a => !an2 a.Name) a.Keys[i]))).1 = (if a87 (pub a.Keys[i]) = 0 then a60 (pub a.Keys[i]) else []) := by
     unfold pub; split <;> rfl
    rw [e]
    unfold bS5 at hl ⊢
    generalize (if a87 (pub a.Keys[i]) = 0 then a60 (pub a.Keys[i]) else []) = X at hl ⊢
    have hX : X.length ≤ 31000000 := by simp at hl; omega
    have c1 : an8 [107, 101, 121, 32] X = some ([107, 101, 121, 32] ++ X) := by unfold an8; rw [if_pos (by simp; omega)]
    have c2 : an8 ([107, 101, 121, 32] ++ X) [10] = some ([107, 101, 121, 32] ++ X ++ [10]) := by unfold an8; rw [if_pos (by simp; omega)]
    have c3 : bAdd s ([107, 101, 121, 32] ++ X ++ [10]) = some (s ++ ([107, 101, 121, 32] ++ X ++ [10])) := by unfold bAdd; rw [if_pos (by simp; omega)]
    rw [c1, Option.bind_some, c2, Option.bind_some, c3, Option.bind_some, ab0 (by omega)]
   ·rw [List.drop_eq_getElem_cons hi, List.map_cons, List.flatten_cons, List.append_assoc]
   ·simp only [List.length_append]; omega
  ·intro s hs
   simp [am5, ao5]
 ·by_cases h3 : id = 3
  ·subst h3
   have n2 : ¬ (3 : Int) = 2 := by decide
   simp only [n2, decide_true, decide_false, if_true, Bool.false_eq_true, if_false, aq2, Option.bind_some]
   have b1 : aj1 [[99, 104, 97, 108], [109, 117, 116, 117, 97, 108], [112, 108, 97, 105, 110]] 0 [] = some (.cont (1, an3 ++ [10])) := by kernel_rfl
   have b2 : aj1 [[99, 104, 97, 108], [109, 117, 116, 117, 97, 108], [112, 108, 97, 105, 110]] 1 (an3 ++ [10]) = some (.cont (2, an3 ++ [10] ++ (aO2 ++ [10]))) := by kernel_rfl
   have b3 : aj1 [[99, 104, 97, 108], [109, 117, 116, 117, 97, 108], [112, 108, 97, 105, 110]] 2 (an3 ++ [10] ++ (aO2 ++ [10])) = some (.cont (3, an3 ++ [10] ++ (aO2 ++ [10]) ++ (av3 ++ [10]))) := by kernel_rfl
   have b4 : aj1 [[99, 104, 97, 108], [109, 117, 116, 117, 97, 108], [112, 108, 97, 105, 110]] 3 (an3 ++ [10] ++ (aO2 ++ [10]) ++ (av3 ++ [10])) = some (.done (an3 ++ [10] ++ (aO2 ++ [10]) ++ (av3 ++ [10]))) := by kernel_rfl
   rw [ah0 (s' := (1, an3 ++ [10])) b1, ah0 (s' := (2, an3 ++ [10] ++ (aO2 ++ [10]))) b2, ah0 (s' := (3, an3 ++ [10] ++ (aO2 ++ [10]) ++ (av3 ++ [10]))) b3, ax3 b4]
  ·simp only [h2, h3, decide_false, Bool.false_eq_true, if_false]; rfl
theorem ah1 {x y : Str} (h : x.length + y.length ≤ 9223372036854775807) : an8 x y = some (x ++ y) := by unfold an8; rw [if_pos h]
def cr0 (s : Str) (off cnt : Int) : Str := (s.drop (min off.toNat s.length)).take cnt.toNat
theorem cB4 {s : Str} {off cnt : Int} (h0 : 0 ≤ off) (h1 : 0 ≤ cnt) (hs : s.length ≤ 10000000000) :
  ((cut s (min off (List.length s : Int)) (List.length s : Int)).bind fun x => cut x 0 (min (min cnt 65536) (List.length x : Int))) = some (cr0 s off (min cnt 65536)) := by
 have e1 : min off (List.length s : Int) = ((min off.toNat s.length : Nat) : Int) := by omega
 rw [e1, az0 (by omega), Option.bind_some]
 generalize hk : min off.toNat s.length = k
 have e2 : min (min cnt 65536) (List.length (s.drop k) : Int) = ((min (min cnt 65536).toNat (s.drop k).length : Nat) : Int) := by omega
 rw [e2, aP3 (by omega)]
 unfold cr0
 rw [hk]
 congr 1
 rcases Nat.le_total (min cnt 65536).toNat (s.drop k).length with q | q
 ·rw [Nat.min_eq_left q]
 ·rw [Nat.min_eq_right q, List.take_of_length_le (Nat.le_refl _), List.take_of_length_le q]
def cB5 (a : aa2) (id off cnt : Int) : aa2 × Str × Int :=
 if ah8 a id = true then (if id = 1 then (a, [], 10) else if off < 0 ∨ cnt < 0 then (a, [], 1) else (a, cr0 (bw9 a id) off (min cnt 65536), 0)) else (a, [], 8)
theorem cr1 (v : Val a) (w : -9223372036854775808 ≤ id ∧ id ≤ 9223372036854775807) (hc : aM0 a id = -1) (off cnt : Int) : ai2 a id off cnt = some (cB5 a id off cnt) := by
 unfold ai2 cB5
 rw [an9 v.lim, Option.bind_some, aR1 v w, Option.bind_some]
 cases he : ah8 a id with
 | false => rfl
 | true =>
  by_cases h1 : id = 1
  ·simp [h1]
  ·by_cases h2 : off < 0 ∨ cnt < 0
   ·have : (decide (off < 0) || decide (cnt < 0)) = true := by simpa using h2
    simp [h1, h2, this]
   ·have h2' : (decide (off < 0) || decide (cnt < 0)) = false := by
     rw [Bool.or_eq_false_iff, decide_eq_false_iff_not, decide_eq_false_iff_not]; omega
    have hl := cf4 (id := id) v
    have hp := cB4 (s := bw9 a id) (off := off) (cnt := cnt) (by omega) (by omega) (by omega)
    have hn : ¬ (0 : Int) ≤ -1 := by omega
    simp only [h1, h2, h2', decide_false, Bool.not_true, Bool.false_eq_true, if_false, if_true, bt5 v w, hc, hn, Option.bind_some, bS6 v]
    cases hcut : cut (bw9 a id) (min off (List.length (bw9 a id) : Int)) (List.length (bw9 a id) : Int) with
    | none => rw [hcut] at hp; cases hp
    | some x =>
     rw [hcut, Option.bind_some] at hp
     rw [Option.bind_some, hp]; rfl
end Go.Proofs.YtiliognepodhnaaGreatDoor
