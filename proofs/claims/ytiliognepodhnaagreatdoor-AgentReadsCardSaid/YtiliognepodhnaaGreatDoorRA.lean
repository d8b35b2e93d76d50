import Derived.Test.YtiliognepodhnaaGreatDoorPA
import Derived.Test.YtiliognepodhnaaGreatDoorVmR
import Derived.KernelRfl
namespace Go.Proofs.YtiliognepodhnaaGreatDoor
open Go.Vm
set_option autoImplicit false
set_option linter.unusedVariables false
set_option linter.unusedSimpArgs false
set_option maxRecDepth 100000
theorem wfI {n : Int} (h : (Lit.int .i64 n).wf = true) : -9223372036854775808 ≤ n ∧ n ≤ 9223372036854775807 := by
 have h2 : IntKind.i64.min ≤ n ∧ n ≤ IntKind.i64.max := by simpa [Lit.wf] using h
 exact h2
def wA (a : aa1) : Nat := min a.Name.length 10000 + min a.Value.length 10000
def cw1 (l : List aa1) : Nat := (l.map wA).sum
def a03 (l : List aa1) : Bool := decide ((List.length l : Int) ≤ 40) && decide ((cw1 l : Int) ≤ 5000)
theorem bZ7 {l : List aa1} (h : l.length ≤ aX8) : aC2 l = some (a03 l) := by
 have ht : l.length ≤ 140737488351232 := h
 unfold aC2
 refine (ae2 l.length (fun (n : Int) i => (n, i)) (fun s => ax1 l s.1 s.2) (fun i n => decide ((List.length l : Int) ≤ 40) && decide (n + (cw1 (l.drop i) : Int) ≤ 5000)) (fun i n => 0 ≤ n ∧ n ≤ 20000 * (i : Int)) (s0 := 0) (by simp) ?_ ?_).trans (by simp [a03])
 ·intro n i hi hn
  left
  have h1 : min (List.length l[i].Name : Int) 10000 + min (List.length l[i].Value : Int) 10000 = ((wA l[i] : Nat) : Int) := by unfold wA; omega
  have h2 : wA l[i] ≤ 20000 := by unfold wA; omega
  refine ⟨n + (wA l[i] : Int), ?_, ?_, by omega, by omega⟩
  ·simp only [ax1, dlt hi, if_true, aa9 hi, Option.bind_some]
   rw [h1, af0 (n := ((wA l[i] : Nat) : Int)) (by omega) (by omega), af0 (by omega) (by omega), af0 (by omega) (by omega)]
  ·have e : cw1 (l.drop i) = wA l[i] + cw1 (l.drop (i + 1)) := by rw [List.drop_eq_getElem_cons hi]; rfl
   rw [e, Int.natCast_add, ← Int.add_assoc]
 ·intro n hn
  simp [ax1, cw1]
theorem bZ8 : ∀ {l : List aa1} {a : aa1}, a ∈ l → wA a ≤ cw1 l
 | x :: r, a, h => by
  simp only [cw1, List.map_cons, List.sum_cons]
  rcases List.mem_cons.1 h with rfl | h
  ·omega
  ·have := bZ8 h; unfold cw1 at this; omega
structure Sh (l : List aa1) : Prop where
 len : l.length ≤ 2000
 at_ : ∀ a ∈ l, a.Name.length ≤ 5000 ∧ a.Value.length ≤ 5000
theorem bZ9 {l : List aa1} (h : a03 l = true) : Sh l := by
 unfold a03 at h
 simp only [Bool.and_eq_true, decide_eq_true_eq] at h
 refine ⟨by omega, fun a ha => ?_⟩
 have := bZ8 ha
 unfold wA at this
 omega
theorem Sh.ok {l : List aa1} (h : Sh l) : okL l := ⟨by have := h.len; omega, fun a ha => h.at_ a ha⟩
theorem Sh.le {l : List aa1} (h : Sh l) : l.length ≤ 1000000 := by have := h.len; omega
def sumC (c : aa3) : Int := IntKind.wrap .i64 ((IntKind.wrap .i64 ((IntKind.wrap .i64 ((List.length c.Proto : Int) + (List.length c.Own : Int))) + (List.length c.Peer : Int))) + (List.length c.User : Int))
def smC (c : aa3) : Bool := a03 c.Key && !decide ((1000 : Int) < sumC c)
def bM2 (a : aa2) : Bool := !((decide (1000 < (List.length a.Owner : Int))) || ((decide (2000 < (List.length a.Seed : Int))) || ((decide (70 < (List.length a.Keys : Int))) || (decide (40 < (List.length a.Convs : Int)))))) && (a.Keys.all a03 && a.Convs.all smC)
theorem cq3 {a : aa2} (w : aG4 a) : ay5 a = some (bM2 a) := by
 obtain ⟨w1, w2, ⟨w3, w4⟩, w5, ⟨w6, w7⟩, w8⟩ := w
 unfold ay5 bM2
 cases hb : ((decide (1000 < (List.length a.Owner : Int))) || ((decide (2000 < (List.length a.Seed : Int))) || ((decide (70 < (List.length a.Keys : Int))) || (decide (40 < (List.length a.Convs : Int)))))) with
 | true => rfl
 | false =>
  simp only [Bool.or_eq_false_iff, decide_eq_false_iff_not] at hb
  obtain ⟨b1, b2, b3, b4⟩ := hb
  simp only [Bool.false_eq_true, if_false, Bool.not_false, Bool.true_and]
  have hC : ab0 (fun s => at7 a s) 0 = some (a.Convs.all smC) := by
   refine bF2 a.Convs smC _ (fun i hi => ?_) ?_
   ·have hw := w7 _ (List.getElem_mem hi)
    obtain ⟨c1, c2, c3, c4, c5, ⟨c6, c6'⟩, c7, c8, c9, c10⟩ := hw
    simp only [at7, dlt hi, if_true, aa9 hi, Option.bind_some, bZ7 c6, smC]
    rw [ab1 (by omega)]
    change (if (!a03 (a.Convs[i]).Key || decide (1000 < sumC a.Convs[i])) = true then _ else _) = _
    by_cases q1 : a03 (a.Convs[i]).Key = true
    ·by_cases q2 : (1000 : Int) < sumC a.Convs[i]
     ·simp only [q1, q2, decide_true]; rfl
     ·simp only [q1, q2, decide_false]; rfl
    ·rw [Bool.not_eq_true] at q1
     simp only [q1, Bool.not_false, Bool.true_or, if_true, Bool.false_and, Bool.false_eq_true, if_false]
   ·simp [at7]
  refine (br7 a.Keys a03 false (a.Convs.all smC) _ (fun i hi => ?_) ?_).trans ?_
  ·simp only [aA5, dlt hi, if_true, aa9 hi, Option.bind_some, bZ7 (w4 _ (List.getElem_mem hi)).1]
   rw [ab1 (by omega)]
   cases a03 a.Keys[i] <;> rfl
  ·simp [aA5, hC]
  ·cases a.Keys.all a03 <;> rfl
structure ShC (c : aa3) : Prop where
 key : Sh c.Key
structure Lim (a : aa2) : Prop where
 owner : a.Owner.length ≤ 1000
 seed : a.Seed.length ≤ 2000
 keys : a.Keys.length ≤ 70
 key : ∀ k ∈ a.Keys, Sh k
 convs : a.Convs.length ≤ 40
 conv : ∀ c ∈ a.Convs, ShC c
theorem ce4 {a : aa2} (h : bM2 a = true) : Lim a := by
 unfold bM2 at h
 simp only [Bool.and_eq_true, Bool.not_eq_true', Bool.or_eq_false_iff, decide_eq_false_iff_not, List.all_eq_true] at h
 obtain ⟨⟨b1, b2, b3, b4⟩, h1, h2⟩ := h
 refine ⟨by omega, by omega, by omega, fun k hk => bZ9 (h1 k hk), by omega, fun c hc => ?_⟩
 have := h2 c hc
 unfold smC at this
 simp only [Bool.and_eq_true, Bool.not_eq_true', decide_eq_false_iff_not] at this
 exact ⟨bZ9 this.1⟩
theorem b00 {α : Type} {l : List α} {i : Nat} (h : i < l.length) : l.set i l[i] = l := by simp
theorem ce5 {l : List (List aa1)} (h : l.length ≤ 1000000) : ab3 l = some l := by
 unfold ab3
 rw [ak4 (by simp; omega) (by simp; omega)]; simp
theorem b58 {l : List aa3} (h : l.length ≤ 1000000) : ab8 l = some l := by
 unfold ab8
 rw [ak4 (by simp; omega) (by simp; omega)]; simp
theorem ao9 {a : aa2} (h : Lim a) : af8 a = some a := by
 have h1 := h.keys
 have h2 := h.convs
 unfold af8
 rw [ce5 (by omega), Option.bind_some]
 refine (ae2 a.Keys.length (fun (v : List (List aa1)) i => (i, v)) (fun s => ax4 a a.Keys s.1 s.2) (fun _ _ => a) (fun _ v => v = a.Keys) (s0 := a.Keys) rfl ?_ ?_)
 ·rintro v i hi rfl
  left
  refine ⟨a.Keys, ?_, rfl, rfl⟩
  simp only [ax4, dlt hi, if_true, aa9 hi, Option.bind_some, aJ0 (h.key _ (List.getElem_mem hi)).le, Int.toNat_natCast, b00 hi]
  rw [ab1 (by omega)]
 ·rintro v rfl
  have : ab0 (fun s => ap2 a a.Keys a.Convs s.1 s.2) (0, a.Convs) = some a := by
   refine (ae2 a.Convs.length (fun (v : List aa3) i => (i, v)) (fun s => ap2 a a.Keys a.Convs s.1 s.2) (fun _ _ => a) (fun _ v => v = a.Convs) (s0 := a.Convs) rfl ?_ ?_)
   ·rintro v i hi rfl
    left
    refine ⟨a.Convs, ?_, rfl, rfl⟩
    simp only [ap2, dlt hi, if_true, aa9 hi, Option.bind_some, aJ0 (h.conv _ (List.getElem_mem hi)).key.le, Int.toNat_natCast]
    rw [ab1 (by omega), show ({a.Convs[i] with Key := (a.Convs[i]).Key} : aa3) = a.Convs[i] from rfl, b00 hi]
   ·rintro v rfl
    simp [ap2]
  simp only [ax4, dge, Bool.false_eq_true, if_false, aL0, b58 (show a.Convs.length ≤ 1000000 by omega), Option.bind_some, this, Option.map_some]
theorem bM3 {l : List aa1} (h : l.length ≤ 1000000) : ar9 l l = some true := by
 unfold ar9
 simp only [decide_true, Bool.not_true, Bool.false_eq_true, if_false]
 refine (bF2 l (fun _ => true) _ (fun i hi => ?_) ?_).trans (by simp)
 ·simp only [aq7, dlt hi, if_true, aa9 hi, Option.bind_some, decide_true, Bool.and_self, Bool.not_true, Bool.false_eq_true, if_false]
  rw [ab1 (by omega)]
 ·simp [aq7]
theorem bG2 {c : aa3} (h : c.Key.length ≤ 1000000) : as0 c c = some true := by
 unfold as0
 simp [bM3 h]
theorem bx6 {a : aa2} (h1 : a.Keys.length ≤ 1000000) (h2 : ∀ k ∈ a.Keys, k.length ≤ 1000000) (h3 : a.Convs.length ≤ 1000000) (h4 : ∀ c ∈ a.Convs, c.Key.length ≤ 1000000) : ag2 a a = some true := by
 have hC : ab0 (fun s => al0 a a s) 0 = some true := by
  refine (bF2 a.Convs (fun _ => true) _ (fun i hi => ?_) ?_).trans (by simp)
  ·simp only [al0, dlt hi, if_true, aa9 hi, Option.bind_some, bG2 (h4 _ (List.getElem_mem hi)), Bool.not_true, Bool.false_eq_true, if_false]
   rw [ab1 (by omega)]
  ·simp [al0]
 unfold ag2
 simp only [decide_true, Bool.not_true, Bool.or_self, Bool.false_eq_true, if_false]
 refine (br7 a.Keys (fun _ => true) false true _ (fun i hi => ?_) ?_).trans (by simp)
 ·simp only [ar3, dlt hi, if_true, aa9 hi, Option.bind_some, bM3 (h2 _ (List.getElem_mem hi)), Bool.not_true, Bool.false_eq_true, if_false]
  rw [ab1 (by omega)]
 ·simp [ar3, hC]
theorem Lim.same {a : aa2} (h : Lim a) : ag2 a a = some true :=
 bx6 (by have := h.keys; omega) (fun k hk => (h.key k hk).le) (by have := h.convs; omega) (fun c hc => (h.conv c hc).key.le)
instance : DecidableEq aa1 := fun x y => decidable_of_iff (x.Name = y.Name ∧ x.Value = y.Value ∧ x.Query = y.Query) (by cases x; cases y; simp)
theorem ce6 {x y : aa1} : (!(decide (x.Name = y.Name) && (decide (x.Value = y.Value) && (decide (x.Query = y.Query) && true)))) = !decide (x = y) := by
 congr 1
 rw [Bool.eq_iff_iff]
 cases x; cases y; simp
theorem ce7 {a b : List aa1} (ha : a.length ≤ 1000000) : ar9 a b = some (decide (a = b)) := by
 unfold ar9
 by_cases hl : a.length = b.length
 ·simp only [hl, decide_true, Bool.not_true, Bool.false_eq_true, if_false]
  refine (ae2 a.length (fun (_ : Unit) i => i) (fun s => aq7 a b s) (fun i _ => decide (a.drop i = b.drop i)) (fun _ _ => True) (s0 := ()) trivial ?_ ?_).trans (by simp)
  ·intro _ i hi _
   have hj : i < b.length := by omega
   simp only [aq7, dlt hi, if_true, aa9 hi, aa9 hj, Option.bind_some, ce6]
   by_cases h : a[i] = b[i]
   ·left
    refine ⟨(), ?_, ?_, trivial⟩
    ·simp only [h, decide_true, Bool.not_true, Bool.false_eq_true, if_false]
     rw [ab1 (by omega)]
    ·rw [List.drop_eq_getElem_cons hi, List.drop_eq_getElem_cons hj, h, decide_eq_decide]
     exact ⟨fun e => (List.cons.inj e).2, fun e => by rw [e]⟩
   ·right
    rw [List.drop_eq_getElem_cons hi, List.drop_eq_getElem_cons hj]
    have hn : ¬ (a[i] :: List.drop (i + 1) a = b[i] :: List.drop (i + 1) b) := fun e => h (List.cons.inj e).1
    simp only [h, hn, decide_false, Bool.not_false, if_true]
  ·intro _ _
   simp [aq7, hl]
 ·have h1 : ¬ ((List.length a : Int) = (List.length b : Int)) := by omega
  have h2 : ¬ (a = b) := fun h => hl (by rw [h])
  simp [h1, h2]
theorem cq4 {a b : List aa1} (ha : a.length ≤ 1000000) : ah3 a b = some (decide (a = b)) := by
 unfold ah3
 by_cases hl : a.length = b.length
 ·simp only [hl, decide_true, Bool.not_true, Bool.false_eq_true, if_false]
  refine (ae2 a.length (fun (_ : Unit) i => i) (fun s => ae5 a b s) (fun i _ => decide (a.drop i = b.drop i)) (fun _ _ => True) (s0 := ()) trivial ?_ ?_).trans (by simp)
  ·intro _ i hi _
   have hj : i < b.length := by omega
   simp only [ae5, dlt hi, if_true, aa9 hi, aa9 hj, Option.bind_some, ce6]
   by_cases h : a[i] = b[i]
   ·left
    refine ⟨(), ?_, ?_, trivial⟩
    ·simp only [h, decide_true, Bool.not_true, Bool.false_eq_true, if_false]
     rw [ab1 (by omega)]
    ·rw [List.drop_eq_getElem_cons hi, List.drop_eq_getElem_cons hj, h, decide_eq_decide]
     exact ⟨fun e => (List.cons.inj e).2, fun e => by rw [e]⟩
   ·right
    rw [List.drop_eq_getElem_cons hi, List.drop_eq_getElem_cons hj]
    have hn : ¬ (a[i] :: List.drop (i + 1) a = b[i] :: List.drop (i + 1) b) := fun e => h (List.cons.inj e).1
    simp only [h, hn, decide_false, Bool.not_false, if_true]
  ·intro _ _
   simp [ae5, hl]
 ·have h1 : ¬ ((List.length a : Int) = (List.length b : Int)) := by omega
  have h2 : ¬ (a = b) := fun h => hl (by rw [h])
  simp [h1, h2]
def pub (l : List aa1) : List aa1 := l.filter fun a => !aj8 a.Name
theorem bS8 {l : List aa1} : (pub l).length ≤ l.length := List.length_filter_le _ _
theorem ce8 {l : List aa1} (h : Sh l) : Sh (pub l) := ⟨Nat.le_trans bS8 h.len, fun a ha => h.at_ a (List.mem_filter.1 ha).1⟩
theorem b01 {a b : List aa1} (ha : a.length ≤ 1000000) (hb : b.length ≤ 1000000) : aL1 a b = some (decide (pub a = pub b)) := by
 unfold aL1
 rw [bt1 ha, Option.bind_some, bt1 hb, Option.bind_some]
 have := @cq4 (pub a) (pub b) (Nat.le_trans bS8 ha)
 unfold pub at this
 rw [this]; rfl
theorem cq5 {l : List (List aa1)} {p : List aa1} (hl : l.length ≤ 1000000) (h : ∀ k ∈ l, k.length ≤ 1000000) : aC6 l p = some (ixF (fun k => decide (pub k = p)) l 0) := by
 unfold aC6
 refine br6 l _ _ (fun i hi => ?_) ?_
 ·have hk := h _ (List.getElem_mem hi)
  have := @ce7 (pub l[i]) p (Nat.le_trans bS8 hk)
  unfold pub at this
  simp only [aE2, dlt hi, if_true, aa9 hi, Option.bind_some, a02 hk, this]
  rw [ab1 (by omega)]
  by_cases q : pub l[i] = p
  ·have q' := q; unfold pub at q'; simp [q, q']
  ·have q' := q; unfold pub at q'; simp [q, q']
 ·simp [aE2]
theorem ce9 {α : Type} (p : α → Bool) : ∀ l : List α, (l.all fun a => !p a) = !(l.any p)
 | [] => rfl
 | a :: r => by simp only [List.all_cons, List.any_cons, ce9 p r, Bool.not_or]
def a04 : Str := [117, 115, 101, 114]
def bM4 : Str := [33, 115, 101, 99, 114, 101, 116]
def aM6 (n : Str) (l : List aa1) : Str := (am5 n l).1
theorem bt2 {n : Str} : ∀ {l : List aa1}, (am5 n l).2 = false → (am5 n l).1 = []
 | [], _ => rfl
 | a :: r, h => by
  by_cases q : bl2 n a = true
  ·rw [bM1 q] at h; cases h
  ·rw [bB1 q] at h ⊢; exact bt2 h
def b59 (l : List aa1) : Bool := decide (aW2 l = 0) && (!(l.any fun a => a.Query) && (decide (1 ≤ (List.length (aM6 a04 l) : Int)) && (decide ((List.length (aM6 a04 l) : Int) ≤ 32) && (decide (1 ≤ (List.length (aM6 bM4 l) : Int)) && decide ((List.length (aM6 bM4 l) : Int) ≤ 64)))))
theorem cq6 {l : List aa1} (h : Sh l) : aC5 l = some (b59 l) := by
 have hl := h.le
 unfold aC5 b59
 rw [a94 h.ok, Option.bind_some]
 by_cases hc : aW2 l = 0
 ·simp only [hc, decide_true, Bool.not_true, Bool.false_eq_true, if_false, Bool.true_and]
  have hA : aA7 l = some (decide (1 ≤ (List.length (aM6 a04 l) : Int)) && (decide ((List.length (aM6 a04 l) : Int) ≤ 32) && (decide (1 ≤ (List.length (aM6 bM4 l) : Int)) && decide ((List.length (aM6 bM4 l) : Int) ≤ 64)))) := by
   unfold aA7 aC4
   simp only [bh5 hl, Option.bind_some]
   rfl
  refine (br7 l (fun a => !a.Query) false (decide (1 ≤ (List.length (aM6 a04 l) : Int)) && (decide ((List.length (aM6 a04 l) : Int) ≤ 32) && (decide (1 ≤ (List.length (aM6 bM4 l) : Int)) && decide ((List.length (aM6 bM4 l) : Int) ≤ 64)))) _ (fun i hi => ?_) ?_).trans ?_
  ·simp only [aE1, dlt hi, if_true, aa9 hi, Option.bind_some]
   rw [ab1 (by omega)]
   cases l[i].Query <;> rfl
  ·simp [aE1, hA]
  ·rw [ce9 (fun (a : aa1) => a.Query) l]
   cases (l.any fun a => a.Query) <;> rfl
 ·simp [hc]
theorem cw2 {l : List aa1} (h : Sh l) : aY5 l = some (b59 l) := by
 have hl := h.le
 unfold aY5 b59
 rw [bn0 h.ok, Option.bind_some]
 by_cases hc : aW2 l = 0
 ·have hq : ac3 l = some (l.any fun a => a.Query) := by
   unfold ac3
   have : ad8 l = some (be7 (fun a => a.Query) l) := by
    unfold ad8
    refine aU8 hl (fun i hi => ?_) ?_
    ·simp only [ac2, dlt hi, if_true, aa9 hi, Option.bind_some, a87]
    ·simp [ac2]
   rw [this, Option.bind_some, bF7]
  simp only [hc, decide_true, Bool.not_true, Bool.false_eq_true, if_false, hq, Option.bind_some, Bool.true_and]
  cases hb : l.any fun a => a.Query with
  | true => rfl
  | false =>
   simp only [Bool.false_eq_true, if_false, bh4 hl, Option.bind_some, Bool.not_false, Bool.true_and]
   congr 1
   have aux : ∀ (n : Str) (K : Int), ((am5 n l).2 && ((!decide ((am5 n l).1 = [])) && decide ((List.length (am5 n l).1 : Int) ≤ K))) = (decide (1 ≤ (List.length (aM6 n l) : Int)) && decide ((List.length (aM6 n l) : Int) ≤ K)) := by
    intro n K
    unfold aM6
    cases hf : (am5 n l).2 with
    | false => rw [bt2 hf]; rfl
    | true =>
     rw [Bool.true_and]
     congr 1
     cases (am5 n l).1 with
     | nil => rfl
     | cons c r => simp; omega
   have h1 := aux a04 32
   have h2 := aux bM4 64
   unfold a04 at h1
   unfold bM4 at h2
   show _ = (decide (1 ≤ (List.length (aM6 [117, 115, 101, 114] l) : Int)) && (decide ((List.length (aM6 [117, 115, 101, 114] l) : Int) ≤ 32) && (decide (1 ≤ (List.length (aM6 [33, 115, 101, 99, 114, 101, 116] l) : Int)) && decide ((List.length (aM6 [33, 115, 101, 99, 114, 101, 116] l) : Int) ≤ 64))))
   rw [← Bool.and_assoc (decide (1 ≤ (List.length (aM6 [117, 115, 101, 114] l) : Int))), ← h1, ← h2]
   generalize (am5 [117, 115, 101, 114] l) = U
   generalize (am5 [33, 115, 101, 99, 114, 101, 116] l) = V
   cases U.2 <;> cases V.2 <;> simp [Bool.and_assoc]
 ·simp [hc]
def bB3 (s : Str) : Str := [UInt8.ofNat (s.length % 256), UInt8.ofNat (s.length / 256)] ++ s
theorem aJ1 (s : Str) : (bB3 s).length = s.length + 2 := by simp [bB3]
theorem a95 (z : Int) : IntKind.wrap .u8 z = z % 256 := by simp [IntKind.wrap, IntKind.bits, IntKind.signed]
theorem cJ2 {n : Nat} (h : n ≤ 65535) : aY7 (n : Int) 2 = some ([UInt8.ofNat (n % 256), UInt8.ofNat (n / 256)], 0) := by
 have w16 : IntKind.wrap .i64 (8 * 2) = 16 := by decide
 have s16 : bq3 .i64 (n : Int) 16 = some 0 := by
  unfold bq3
  rw [if_neg (by omega)]
  have : min (Int.toNat 16) (IntKind.bits .i64) = 16 := by decide
  rw [this]
  congr 1
  rw [Int.fdiv_eq_ediv_of_nonneg _ (by decide)]
  have : ((2 : Int) ^ 16) = 65536 := by decide
  rw [this]; omega
 have hm : mkC 1 (0 : Int) 2 2 = some [0, 0] := by decide
 have s0 : bq3 .i64 (n : Int) 0 = some (n : Int) := by
  unfold bq3
  rw [if_neg (by omega)]
  have : min (Int.toNat 0) (IntKind.bits .i64) = 0 := by decide
  rw [this]
  congr 1
  simp
 have s8 : bq3 .i64 (n : Int) 8 = some ((n / 256 : Nat) : Int) := by
  unfold bq3
  rw [if_neg (by omega)]
  have : min (Int.toNat 8) (IntKind.bits .i64) = 8 := by decide
  rw [this]
  congr 1
  rw [Int.fdiv_eq_ediv_of_nonneg _ (by decide)]
  have : ((2 : Int) ^ 8) = 256 := by decide
  rw [this]; omega
 have w0 : IntKind.wrap .i64 (8 * 0) = 0 := by decide
 have w8 : IntKind.wrap .i64 (8 * 1) = 8 := by decide
 have b1 : an1 (n : Int) [0, 0] 0 [0, 0] = some (.cont (1, [((n : Int) % 256), 0])) := by
  have q0 : IntKind.wrap .i64 0 = 0 := by decide
  have q1 : IntKind.wrap .i64 1 = 1 := by decide
  simp [an1, q0, q1, s0, ae1, a95]
 have b2 : an1 (n : Int) [0, 0] 1 [((n : Int) % 256), 0] = some (.cont (2, [((n : Int) % 256), (((n / 256 : Nat) : Int) % 256)])) := by
  have q0 : IntKind.wrap .i64 8 = 8 := by decide
  have q1 : IntKind.wrap .i64 2 = 2 := by decide
  simp [an1, q0, q1, s8, ae1, a95]
 have b3 : an1 (n : Int) [0, 0] 2 [((n : Int) % 256), (((n / 256 : Nat) : Int) % 256)] = some (.done ([UInt8.ofNat (n % 256), UInt8.ofNat (n / 256)], 0)) := by
  have e1 : Int.toNat ((n : Int) % 256) = n % 256 := by omega
  have e2 : Int.toNat (((n / 256 : Nat) : Int) % 256) = n / 256 := by omega
  simp only [an1, bE7, List.map_cons, List.map_nil, e1, e2]
  simp
 unfold aY7
 have hn : ¬ ((n : Int) < 0) := by omega
 simp only [hn, decide_false, Bool.false_eq_true, if_false, show decide ((2 : Int) < 1) = false from by decide, show decide ((8 : Int) < 2) = false from by decide, show decide ((2 : Int) < 8) = true from by decide, Bool.or_self, if_true, w16, s16, Option.bind_some, show decide ((0 : Int) < 0) = false from by decide, hm]
 rw [ag7 (s' := (1, [((n : Int) % 256), 0])) b1, ag7 (s' := (2, [((n : Int) % 256), (((n / 256 : Nat) : Int) % 256)])) b2]
 exact aw0 b3
theorem aR6 {s : Str} (h : s.length ≤ 65535) : aq0 s = some (bB3 s) := by
 unfold aq0 aT3
 have h1 : ¬ ((65535 : Int) < (List.length s : Int)) := by omega
 simp only [h1, decide_false, Bool.false_eq_true, if_false, cJ2 h, Option.bind_some]
 have : aj0 [UInt8.ofNat (List.length s % 256), UInt8.ofNat (List.length s / 256)] s = some (bB3 s) := by
  unfold aj0; rw [if_pos (by simp; omega)]; rfl
 rw [this]; rfl
theorem cf0 {n : Nat} (h : n ≤ 65535) : aZ4 (n : Int) 2 = some ([UInt8.ofNat (n % 256), UInt8.ofNat (n / 256)], 0) := by
 have q0 : IntKind.wrap .i64 1 = 1 := by decide
 have q1 : IntKind.wrap .i64 2 = 2 := by decide
 have m0 : Int.tmod (n : Int) 256 = ((n % 256 : Nat) : Int) := by rw [Int.tmod_eq_emod_of_nonneg (by omega)]; omega
 have d0 : Int.tdiv (n : Int) 256 = ((n / 256 : Nat) : Int) := by rw [Int.tdiv_eq_ediv_of_nonneg (by omega)]; omega
 have m1 : Int.tmod ((n / 256 : Nat) : Int) 256 = ((n / 256 : Nat) : Int) := by rw [Int.tmod_eq_emod_of_nonneg (by omega)]; omega
 have d1 : Int.tdiv ((n / 256 : Nat) : Int) 256 = 0 := by rw [Int.tdiv_eq_ediv_of_nonneg (by omega)]; omega
 have e1 : Int.toNat (IntKind.wrap .u8 ((n % 256 : Nat) : Int)) = n % 256 := by rw [a95]; omega
 have e2 : Int.toNat (IntKind.wrap .u8 ((n / 256 : Nat) : Int)) = n / 256 := by rw [a95]; omega
 have b1 : an6 2 [] (n : Int) 0 = some (.cont ([UInt8.ofNat (n % 256)], ((n / 256 : Nat) : Int), 1)) := by
  have h0 : (0 : Int) ≤ (n : Int) := by omega
  have hw : IntKind.wrap .i64 ((n / 256 : Nat) : Int) = ((n / 256 : Nat) : Int) := af0 (by omega) (by omega)
  simp only [an6, h0, decide_true, Bool.and_true, show decide ((0 : Int) < 2) = true from by decide, if_true, m0, d0, e1, hw]
  have : aj0 [] [UInt8.ofNat (n % 256)] = some [UInt8.ofNat (n % 256)] := rfl
  rw [this, Option.bind_some, show IntKind.wrap .i64 (0 + 1) = 1 from by decide]
 have b2 : an6 2 [UInt8.ofNat (n % 256)] ((n / 256 : Nat) : Int) 1 = some (.cont ([UInt8.ofNat (n % 256), UInt8.ofNat (n / 256)], 0, 2)) := by
  have h0 : (0 : Int) ≤ ((n / 256 : Nat) : Int) := by omega
  simp only [an6, h0, decide_true, Bool.and_true, show decide ((1 : Int) < 2) = true from by decide, if_true, m1, d1, e2]
  have : aj0 [UInt8.ofNat (n % 256)] [UInt8.ofNat (n / 256)] = some [UInt8.ofNat (n % 256), UInt8.ofNat (n / 256)] := rfl
  rw [this, Option.bind_some, show IntKind.wrap .i64 (1 + 1) = 2 from by decide, show IntKind.wrap .i64 0 = 0 from by decide]
 have b3 : an6 2 [UInt8.ofNat (n % 256), UInt8.ofNat (n / 256)] 0 2 = some (.done ([UInt8.ofNat (n % 256), UInt8.ofNat (n / 256)], 0)) := by
  simp [an6, aU2]
 unfold aZ4 a89
 simp only [Option.bind_some, show (!(decide ((1 : Int) ≤ 2) && decide ((2 : Int) ≤ 8))) = false from by decide, Bool.false_eq_true, if_false]
 rw [ag7 (s' := ([UInt8.ofNat (n % 256)], ((n / 256 : Nat) : Int), 1)) b1, ag7 (s' := ([UInt8.ofNat (n % 256), UInt8.ofNat (n / 256)], 0, 2)) b2]
 exact aw0 b3
theorem cw3 {s : Str} (h : s.length ≤ 65535) : aB4 s = some (bB3 s) := by
 unfold aB4 aU3
 have : aj0 [UInt8.ofNat (List.length s % 256), UInt8.ofNat (List.length s / 256)] s = some (bB3 s) := by
  unfold aj0; rw [if_pos (by simp; omega)]; rfl
 simp only [cf0 h, Option.bind_some, decide_true, Bool.not_true, Bool.false_eq_true, if_false, this]
def ai6 : Str := [99, 104, 97, 108]
def aG7 : Str := [109, 117, 116, 117, 97, 108]
def aq3 : Str := [112, 108, 97, 105, 110]
def aM7 (p : Str) : Int := if p = ai6 then 3 else if p = aG7 then 3 else if p = aq3 then 2 else 0
def bt3 (p : Str) : Int := if p = ai6 then 2 else 1
def aO1 (p : Str) (role n : Int) : Bool := decide ((decide (Int.tmod n 2 = 0)) = decide (role = bt3 p))
def phS (c : aa3) : Int := if c.Step = aM7 c.Proto then 3 else if aO1 c.Proto c.Role c.Step = true then 1 else 2
theorem bt4 (p : Str) : ah4 p = some (aM7 p) := by
 unfold ah4 aw3 aM7 ai6 aG7 aq3
 by_cases h1 : p = [99, 104, 97, 108]
 ·simp [h1]
 ·by_cases h2 : p = [109, 117, 116, 117, 97, 108]
  ·simp [h2]
  ·by_cases h3 : p = [112, 108, 97, 105, 110]
   ·simp [h3]
   ·simp [h1, h2, h3]
theorem cq7 (p : Str) : aT0 p = some (bt3 p) := by
 unfold aT0 bt3 ai6
 by_cases h1 : p = [99, 104, 97, 108] <;> simp [h1]
theorem b02 (p : Str) (role n : Int) : aQ3 p role n = some (aO1 p role n) := by
 unfold aQ3 aI7 aO1 bt3 ai6
 by_cases h1 : p = [99, 104, 97, 108] <;> simp [h1]
theorem bt5 (c : aa3) : aK8 c = some (phS c) := by
 unfold aK8 phS
 rw [bt4, Option.bind_some]
 by_cases h : c.Step = aM7 c.Proto
 ·simp [h]
 ·simp only [h, decide_false, Bool.false_eq_true, if_false, cq7, Option.bind_some]
  unfold aO1
  cases decide (decide (Int.tmod c.Step 2 = 0) = decide (c.Role = bt3 c.Proto)) <;> rfl
def ag8 (p : Str) : Bool := decide (p = ai6) || (decide (p = aG7) || decide (p = aq3))
theorem bt6 {p : Str} (h : ag8 p = true) : aL5 p = some (aM7 p) := by
 unfold ag8 at h
 simp only [Bool.or_eq_true, decide_eq_true_eq] at h
 rcases h with rfl | rfl | rfl <;> rfl
theorem cq8 {c : aa3} (h : ag8 c.Proto = true) : aQ4 c = some (phS c) := by
 unfold aQ4 phS
 rw [bt6 h, Option.bind_some]
 by_cases h2 : c.Step = aM7 c.Proto
 ·simp [h2]
 ·simp only [h2, decide_false, Bool.false_eq_true, if_false, b02, Option.bind_some]
  cases aO1 c.Proto c.Role c.Step <;> rfl
theorem bM5 (p : Str) : decide (aM7 p = 0) = !ag8 p := by
 unfold aM7 ag8
 by_cases h1 : p = ai6
 ·simp [h1]
 ·by_cases h2 : p = aG7
  ·simp [h2]
  ·by_cases h3 : p = aq3
   ·subst h3; decide
   ·simp [h1, h2, h3]
theorem bd6 (p : Str) : ag1 [[99, 104, 97, 108], [109, 117, 116, 117, 97, 108], [112, 108, 97, 105, 110]] p = some (ag8 p) := by
 unfold ag1 am4
 have : ab0 (fun s => ag0 [[99, 104, 97, 108], [109, 117, 116, 117, 97, 108], [112, 108, 97, 105, 110]] p s) 0 = some (ixF (fun x => decide (p = x)) [ai6, aG7, aq3] 0) := by
  refine br6 [ai6, aG7, aq3] _ _ (fun i hi => ?_) ?_
  ·have hi' : i < [([99, 104, 97, 108] : Str), [109, 117, 116, 117, 97, 108], [112, 108, 97, 105, 110]].length := hi
   have hi3 : i < 3 := hi
   simp only [ag0, dlt hi', if_true, aa9 hi', Option.bind_some]
   rw [ab1 (by omega)]
   show (if decide (p = [ai6, aG7, aq3][i]) = true then _ else _) = _
   cases decide (p = [ai6, aG7, aq3][i]) <;> rfl
  ·simp [ag0]
 rw [this, Option.bind_some]
 unfold ag8
 by_cases h1 : p = ai6
 ·simp [ixF, h1]
 ·by_cases h2 : p = aG7
  ·have : ¬ (aG7 = ai6) := by decide
   simp [ixF, h2, this]
  ·by_cases h3 : p = aq3
   ·have e1 : ¬ (aq3 = ai6) := by decide
    have e2 : ¬ (aq3 = aG7) := by decide
    simp [ixF, h3, e1, e2]
   ·simp [ixF, h1, h2, h3]
variable {c : aa3}
def usr (c : aa3) : Str := aM6 a04 c.Key
def sec (c : aa3) : Str := aM6 bM4 c.Key
def bh7 (l : List aa1) : Bool := (decide (1 ≤ (List.length (aM6 a04 l) : Int)) && (decide ((List.length (aM6 a04 l) : Int) ≤ 32) && (decide (1 ≤ (List.length (aM6 bM4 l) : Int)) && decide ((List.length (aM6 bM4 l) : Int) ≤ 64))))
theorem bd7 {t : aa4} {n : Str} (h : t.Conv.Key.length ≤ 1000000) : ad5 t n = some (aM6 n t.Conv.Key) := by
 unfold ad5 aM6
 rw [bh4 h]; rfl
theorem bd8 {l : List aa1} (h : l.length ≤ 1000000) : am9 l = some (aM6 a04 l) := by
 unfold am9 aM6 a04
 rw [bh5 h]; rfl
theorem bt7 {l : List aa1} (h : l.length ≤ 1000000) : as1 l = some (aM6 bM4 l) := by
 unfold as1 aM6 bM4
 rw [bh5 h]; rfl
theorem bt8 {l : List aa1} (hl : l.length ≤ 1000000) : aJ6 l = some (bh7 l) := by
 unfold aJ6
 simp only [bh4 hl, Option.bind_some]
 congr 1
 have aux : ∀ (n : Str) (K : Int), ((am5 n l).2 && (decide (1 ≤ (List.length (am5 n l).1 : Int)) && decide ((List.length (am5 n l).1 : Int) ≤ K))) = (decide (1 ≤ (List.length (aM6 n l) : Int)) && decide ((List.length (aM6 n l) : Int) ≤ K)) := by
  intro n K
  unfold aM6
  cases hf : (am5 n l).2 with
  | false => rw [bt2 hf]; rfl
  | true => rw [Bool.true_and]
 have h1 := aux a04 32
 have h2 := aux bM4 64
 unfold a04 at h1
 unfold bM4 at h2
 show _ = (decide (1 ≤ (List.length (aM6 [117, 115, 101, 114] l) : Int)) && (decide ((List.length (aM6 [117, 115, 101, 114] l) : Int) ≤ 32) && (decide (1 ≤ (List.length (aM6 [33, 115, 101, 99, 114, 101, 116] l) : Int)) && decide ((List.length (aM6 [33, 115, 101, 99, 114, 101, 116] l) : Int) ≤ 64))))
 rw [← Bool.and_assoc (decide (1 ≤ (List.length (aM6 [117, 115, 101, 114] l) : Int))), ← h1, ← h2]
 generalize (am5 [117, 115, 101, 114] l) = U
 generalize (am5 [33, 115, 101, 99, 114, 101, 116] l) = V
 cases U.2 <;> cases V.2 <;> simp [Bool.and_assoc]
def bx7 (l : List aa1) : Bool := decide (aW2 l = 0) && bh7 l
theorem bS9 {l : List aa1} (h : Sh l) : ∃ e, ak0 l = some e ∧ decide (e = 0) = bx7 l ∧ (e = 0 ∨ e = aW2 l ∧ aW2 l ≠ 0 ∨ e = 52 ∧ aW2 l = 0) := by
 unfold ak0 bx7
 rw [a94 h.ok, Option.bind_some]
 by_cases hc : aW2 l = 0
 ·simp only [hc, decide_true, Bool.not_true, Bool.false_eq_true, if_false, bd8 h.le, bt7 h.le, Option.bind_some, Bool.true_and]
  have e : ((decide ((List.length (aM6 a04 l) : Int) < 1)) || ((decide (32 < (List.length (aM6 a04 l) : Int))) || ((decide ((List.length (aM6 bM4 l) : Int) < 1)) || (decide (64 < (List.length (aM6 bM4 l) : Int)))))) = !bh7 l := by
   unfold bh7
   rw [Bool.eq_iff_iff]
   simp only [Bool.or_eq_true, decide_eq_true_eq, Bool.not_eq_true', Bool.and_eq_false_iff, decide_eq_false_iff_not]
   omega
  rw [e]
  cases bh7 l with
  | true => exact ⟨0, rfl, rfl, .inl rfl⟩
  | false => exact ⟨52, rfl, rfl, .inr (.inr ⟨rfl, trivial⟩)⟩
 ·refine ⟨aW2 l, by simp [hc], by simp [hc], .inr (.inl ⟨rfl, hc⟩)⟩
def bt9 (c : aa3) : aa3 := {c with Phase := phS c, User := if phS c = 3 then usr c else []}
theorem a40 (hp : ag8 c.Proto = true) (hk : c.Key.length ≤ 1000000) : an2 c = some (bt9 c) := by
 unfold an2 bt9
 rw [aJ0 hk, Option.bind_some]
 have h1 : aQ4 {c with Key := c.Key} = some (phS c) := cq8 hp
 rw [h1, Option.bind_some]
 by_cases h : phS c = 3
 ·have hv : ad5 (aa4.mk {c with Phase := phS c, Key := c.Key, User := []}) [117, 115, 101, 114] = some (usr c) := bd7 hk
  simp only [h, decide_true, if_true] at hv ⊢
  rw [hv]; rfl
 ·simp [h]
def bB4 (c : aa3) (n : Int) : Int := if c.Proto = ai6 ∧ n = 0 then 0 else if c.Proto = aG7 ∧ n = 1 then 0 else if c.Proto = aG7 ∧ n = 0 then ((usr c).length : Int) + 2 else -1
theorem bh8 {n : Int} (hk : c.Key.length ≤ 1000000) (hu : (usr c).length ≤ 65535) : az2 c n = some (bB4 c n) := by
 have hv : ad5 (aa4.mk c) [117, 115, 101, 114] = some (usr c) := bd7 hk
 have hK : ∀ (n : Int) (b : Bool), av1 c n b = some (if b = true then 0 else if c.Proto = aG7 ∧ n = 0 then ((usr c).length : Int) + 2 else -1) := by
  intro n b
  unfold av1
  cases b with
  | true => rfl
  | false =>
   by_cases h : c.Proto = aG7 ∧ n = 0
   ·have h' := h.1; unfold aG7 at h'
    simp only [Bool.false_eq_true, if_false, h', h.2, decide_true, Bool.and_self, if_true, hv, Option.bind_some, aR6 hu, aJ1]
    simp [aG7]
   ·have : (decide (c.Proto = [109, 117, 116, 117, 97, 108]) && decide (n = 0)) = false := by
     rw [Bool.and_eq_false_iff, decide_eq_false_iff_not, decide_eq_false_iff_not]
     rcases Classical.not_and_iff_not_or_not.1 h with h | h
     ·exact .inl h
     ·exact .inr h
    simp only [this, Bool.false_eq_true, if_false, h]
 unfold az2 bB4
 by_cases h1 : c.Proto = ai6 ∧ n = 0
 ·have h' := h1.1; unfold ai6 at h'
  simp only [h', h1.2, decide_true, Bool.and_self, if_true, hK]
  simp [ai6]
 ·have : (decide (c.Proto = [99, 104, 97, 108]) && decide (n = 0)) = false := by
   rw [Bool.and_eq_false_iff, decide_eq_false_iff_not, decide_eq_false_iff_not]
   rcases Classical.not_and_iff_not_or_not.1 h1 with h | h
   ·exact .inl h
   ·exact .inr h
  simp only [this, Bool.false_eq_true, if_false, h1, hK]
  congr 1
  by_cases h2 : c.Proto = aG7 ∧ n = 1
  ·have h' := h2.1; unfold aG7 at h'
   simp only [h', h2.2, decide_true, Bool.and_self, if_true]
   simp [aG7]
  ·have : (decide (c.Proto = [109, 117, 116, 117, 97, 108]) && decide (n = 1)) = false := by
    rw [Bool.and_eq_false_iff, decide_eq_false_iff_not, decide_eq_false_iff_not]
    rcases Classical.not_and_iff_not_or_not.1 h2 with h | h
    ·exact .inl h
    ·exact .inr h
   simp only [this, Bool.false_eq_true, if_false, h2]
def kb (c : aa3) (n : Int) : Bool := decide (0 ≤ bB4 c n) && !aO1 c.Proto c.Role n
theorem bB5 {n : Nat} (hn : n ≤ 3) (hk : c.Key.length ≤ 1000000) (hu : (usr c).length ≤ 65535) : aB2 c n = some (if (n : Int) < c.Step then (if kb c n = true then .done true else .cont ((n : Int) + 1)) else .done false) := by
 unfold aB2
 by_cases h : (n : Int) < c.Step
 ·simp only [h, decide_true, if_true, bh8 hk hu, Option.bind_some, b02]
  unfold kb
  rw [ab1 (by omega)]
  by_cases q : 0 ≤ bB4 c n
  ·simp only [q, decide_true, if_true, Option.bind_some, Bool.true_and]
   cases aO1 c.Proto c.Role n <;> rfl
  ·simp [q]
 ·simp [h]
def bk7 (c : aa3) : Bool := (decide (0 < c.Step) && kb c 0) || ((decide (1 < c.Step) && kb c 1) || (decide (2 < c.Step) && kb c 2))
theorem cq9 (h0 : 0 ≤ c.Step) (h3 : c.Step ≤ 3) (hk : c.Key.length ≤ 1000000) (hu : (usr c).length ≤ 65535) : aQ7 c = some (bk7 c) := by
 unfold aQ7
 refine (ae2 3 (fun (_ : Unit) i => i) (fun s => aB2 c s) (fun i _ => match i with
   | 0 => bk7 c
   | 1 => (decide (1 < c.Step) && kb c 1) || (decide (2 < c.Step) && kb c 2)
   | 2 => decide (2 < c.Step) && kb c 2
   | _ => false) (fun i _ => (i : Int) ≤ 3) (s0 := ()) (by omega) ?_ ?_)
 ·intro _ i hi _
  rw [bB5 (by omega) hk hu]
  have hc : i = 0 ∨ i = 1 ∨ i = 2 := by omega
  by_cases hs : (i : Int) < c.Step
  ·simp only [hs, if_true]
   rcases hc with rfl | rfl | rfl
   ·have hs' : (0 : Int) < c.Step := hs
    have e : kb c ((0 : Nat) : Int) = kb c 0 := rfl
    cases hb : kb c 0 with
    | true =>
     right
     first | rw [e, hb] | skip
     simp [bk7, hs', hb]
    | false =>
     left
     first | rw [e, hb] | skip
     exact ⟨(), rfl, by simp [bk7, hs', hb], by omega⟩
   ·have hs' : (1 : Int) < c.Step := hs
    have e : kb c ((1 : Nat) : Int) = kb c 1 := rfl
    cases hb : kb c 1 with
    | true =>
     right
     first | rw [e, hb] | skip
     simp [hs', hb]
    | false =>
     left
     first | rw [e, hb] | skip
     exact ⟨(), rfl, by simp [hs', hb], by omega⟩
   ·have hs' : (2 : Int) < c.Step := hs
    have e : kb c ((2 : Nat) : Int) = kb c 2 := rfl
    cases hb : kb c 2 with
    | true =>
     right
     first | rw [e, hb] | skip
     simp [hs', hb]
    | false =>
     left
     first | rw [e, hb] | skip
     exact ⟨(), rfl, by simp [hs', hb], by omega⟩
  ·right
   simp only [hs, if_false]
   rcases hc with rfl | rfl | rfl
   ·have a1 : ¬ (0 : Int) < c.Step := hs
    have a2 : ¬ (1 : Int) < c.Step := by omega
    have a3 : ¬ (2 : Int) < c.Step := by omega
    simp [bk7, a1, a2, a3]
   ·have a2 : ¬ (1 : Int) < c.Step := hs
    have a3 : ¬ (2 : Int) < c.Step := by omega
    simp [a2, a3]
   ·have a3 : ¬ (2 : Int) < c.Step := hs
    simp [a3]
 ·intro _ _
  rw [bB5 (n := 3) (by omega) hk hu]
  have : ¬ ((3 : Nat) : Int) < c.Step := by omega
  simp only [this, if_false]
def at1 (c : aa3) : Bool := if c.Proto = ai6 then (decide (c.Role = 1) && decide (0 < c.Step)) else if c.Proto = aG7 ∧ c.Role = 2 then decide (0 < c.Step) else (decide (c.Proto = aG7) && decide (1 < c.Step))
theorem bT0 (c : aa3) : au2 c = some (at1 c) := by
 unfold au2 at1 ai6 aG7
 by_cases h1 : c.Proto = [99, 104, 97, 108]
 ·simp [h1]
 ·by_cases h2 : c.Proto = [109, 117, 116, 117, 97, 108] ∧ c.Role = 2
  ·simp [h2.1, h2.2]
  ·have : (decide (c.Proto = [109, 117, 116, 117, 97, 108]) && decide (c.Role = 2)) = false := by
    rw [Bool.and_eq_false_iff, decide_eq_false_iff_not, decide_eq_false_iff_not]
    rcases Classical.not_and_iff_not_or_not.1 h2 with h | h
    ·exact .inl h
    ·exact .inr h
   simp only [h1, decide_false, Bool.false_eq_true, if_false, this, h2]
theorem bu0 (hp : ag8 c.Proto = true) (hr : c.Role = 1 ∨ c.Role = 2) : bk7 c = at1 c := by
 unfold ag8 at hp
 simp only [Bool.or_eq_true, decide_eq_true_eq] at hp
 have n0 : ¬ (ai6 = aG7) := by decide
 have n1 : ¬ (aG7 = ai6) := by decide
 have n2 : ¬ (aq3 = ai6) := by decide
 have n3 : ¬ (aq3 = aG7) := by decide
 have hu : (0 : Int) ≤ ((usr c).length : Int) + 2 := by omega
 have d : Int.tmod 0 2 = 0 ∧ Int.tmod 1 2 = 1 ∧ Int.tmod 2 2 = 0 := by decide
 rcases hp with h | h | h <;> rcases hr with r | r <;> simp [bk7, at1, kb, bB4, aO1, bt3, h, r, n0, n1, n2, n3, hu, d]
variable {c : aa3} {a : aa2}
def bk8 (c : aa3) : Bool := !decide (c.Id < 0) && (!decide (1048575 < c.Id) && (ag8 c.Proto && ((decide (c.Role = 1) || decide (c.Role = 2)) && (bx7 c.Key && (decide ((List.length c.Own : Int) = 32) && (!decide (c.Step < 0) && !decide (aM7 c.Proto < c.Step)))))))
def a96 (c : aa3) : Bool := decide (c.Phase = 4) && decide (phS c = 2)
def stB (c : aa3) : Bool := (a96 c || decide (c.Phase = phS c)) && (decide (c.User = if phS c = 3 then usr c else []) && decide (c.Err = if a96 c = true then 28 else 0))
def a05 (c : aa3) : Bool := if at1 c = true then decide ((List.length c.Peer : Int) = 32) else decide (c.Peer = [])
def af9 (c : aa3) : Bool := bk8 c && (stB c && a05 c)
theorem bu1 (p : Str) : aM7 p ≤ 3 := by
 unfold aM7
 split
 ·omega
 ·split
  ·omega
  ·split <;> omega
theorem b03 {c : aa3} (h : bx7 c.Key = true) : (usr c).length ≤ 32 ∧ 1 ≤ (usr c).length ∧ (sec c).length ≤ 64 ∧ 1 ≤ (sec c).length := by
 unfold bx7 bh7 at h
 simp only [Bool.and_eq_true, decide_eq_true_eq] at h
 unfold usr sec
 omega
theorem bM6 (hk : Sh c.Key) : aJ7 c = some (af9 c) := by
 have hl := hk.le
 unfold aJ7 af9
 by_cases h1 : c.Id < 0
 ·simp [h1, bk8]
 by_cases h2 : 1048575 < c.Id
 ·simp [h1, h2, bk8]
 by_cases h3 : ag8 c.Proto = true
 case neg =>
  rw [Bool.not_eq_true] at h3
  simp [h1, h2, h3, bk8, aq8, bd6]
 by_cases h4 : c.Role = 1 ∨ c.Role = 2
 case neg =>
  have r1 : ¬ c.Role = 1 := fun h => h4 (.inl h)
  have r2 : ¬ c.Role = 2 := fun h => h4 (.inr h)
  simp [h1, h2, h3, r1, r2, bk8, aq8, bd6]
 have e4 : (if (!decide (c.Role = 1)) = true then some (!decide (c.Role = 2)) else some false) = some false := by
  rcases h4 with h | h <;> simp [h]
 simp only [h1, h2, decide_false, Bool.false_eq_true, if_false, aq8, Option.bind_some, bd6, h3, Bool.not_true, e4, bn0 hk.ok]
 by_cases h5 : bx7 c.Key = true
 case neg =>
  rw [Bool.not_eq_true] at h5
  have : (if (!decide (aW2 c.Key = 0)) = true then some true else (aJ6 c.Key).bind fun x11 => if (!x11) = true then some true else if (!decide ((List.length c.Own : Int) = 32)) = true then some true else if decide (c.Step < 0) = true then some true else (aL5 c.Proto).bind fun x15 => some (decide (x15 < c.Step))) = some true := by
   unfold bx7 at h5
   by_cases hc : aW2 c.Key = 0
   ·simp only [hc, decide_true, Bool.true_and] at h5
    simp [hc, bt8 hl, h5]
   ·simp [hc]
  simp only [this, Option.bind_some, if_true]
  simp [bk8, h5]
 have h5' := h5
 unfold bx7 at h5'
 simp only [Bool.and_eq_true, decide_eq_true_eq] at h5'
 simp only [h5'.1, decide_true, Bool.not_true, Bool.false_eq_true, if_false, bt8 hl, h5'.2, Option.bind_some]
 by_cases h6 : (List.length c.Own : Int) = 32
 case neg => simp [h6, bk8]
 by_cases h7 : c.Step < 0
 ·simp [h6, h7, bk8]
 by_cases h8 : aM7 c.Proto < c.Step
 ·simp [h6, h7, h8, bk8, bt6 h3]
 simp only [h6, h7, h8, decide_true, decide_false, Bool.not_true, Bool.false_eq_true, if_false, bt6 h3, Option.bind_some, a40 h3 hl]
 have hpre : bk8 c = true := by
  have e4' : (decide (c.Role = 1) || decide (c.Role = 2)) = true := by simpa using h4
  simp [bk8, h1, h2, h3, e4', h5, h6, h7, h8]
 have hm := bu1 c.Proto
 obtain ⟨u1, _⟩ := b03 h5
 rw [hpre, Bool.true_and]
 have eK : aQ7 c = some (at1 c) := by rw [cq9 (by omega) (by omega) hl (by omega), bu0 h3 h4]
 have eP : (bt9 c).Phase = phS c := rfl
 have eU : (bt9 c).User = if phS c = 3 then usr c else [] := rfl
 rw [eP, eU, eK]
 have eF : (decide (c.Phase = 4) && decide (phS c = 2)) = a96 c := rfl
 rw [eF]
 have key : (if (!a96 c) = true then if (!decide (c.Phase = phS c)) = true then some true else if (!decide (c.User = if phS c = 3 then usr c else [])) = true then some true else if (!decide (a96 c = decide (c.Err = 28))) = true then some true else some (!decide (c.Err = 0)) else if (!decide (c.User = if phS c = 3 then usr c else [])) = true then some true else if (!decide (a96 c = decide (c.Err = 28))) = true then some true else some false) = some (!stB c) := by
  unfold stB
  generalize (if phS c = 3 then usr c else []) = X
  cases hf : a96 c with
  | true =>
   by_cases q : c.User = X
   ·by_cases e : c.Err = 28
    ·simp [q, e]
    ·simp [q, e]
   ·simp [q]
  | false =>
   by_cases p : c.Phase = phS c
   ·by_cases q : c.User = X
    ·by_cases e : c.Err = 28
     ·simp [p, q, e]
     ·by_cases z : c.Err = 0
      ·simp [p, q, z]
      ·simp [p, q, e, z]
    ·simp [p, q]
   ·simp [p]
 rw [key, Option.bind_some]
 unfold a05
 cases stB c with
 | false => simp
 | true => simp only [Bool.not_true, Bool.false_eq_true, if_false, Option.bind_some, Bool.true_and]; cases at1 c <;> rfl
theorem bT1 (hk : Sh c.Key) : ay6 c = some (af9 c) := by
 have hl := hk.le
 obtain ⟨e, he, hd, _⟩ := bS9 hk
 unfold ay6
 have hpre : (if decide (c.Id < 0) = true then some true else if decide (1048575 < c.Id) = true then some true else (ah4 c.Proto).bind fun x3 => if decide (x3 = 0) = true then some true else if (!decide (c.Role = 1)) = true then if (!decide (c.Role = 2)) = true then some true else if (!decide ((List.length c.Own : Int) = 32)) = true then some true else if decide (c.Step < 0) = true then some true else (ah4 c.Proto).bind fun x9 => if decide (x9 < c.Step) = true then some true else (ak0 c.Key).bind fun x11 => some (!decide (x11 = 0)) else if (!decide ((List.length c.Own : Int) = 32)) = true then some true else if decide (c.Step < 0) = true then some true else (ah4 c.Proto).bind fun x14 => if decide (x14 < c.Step) = true then some true else (ak0 c.Key).bind fun x16 => some (!decide (x16 = 0))) = some (!bk8 c) := by
  simp only [bt4, Option.bind_some, bM5, he, hd]
  unfold bk8
  by_cases h1 : c.Id < 0
  ·simp [h1]
  by_cases h2 : 1048575 < c.Id
  ·simp [h1, h2]
  by_cases h3 : ag8 c.Proto = true
  case neg => rw [Bool.not_eq_true] at h3; simp [h1, h2, h3]
  by_cases h6 : (List.length c.Own : Int) = 32
  case neg =>
   by_cases r1 : c.Role = 1
   ·simp [h1, h2, h3, h6, r1]
   ·by_cases r2 : c.Role = 2
    ·simp [h1, h2, h3, h6, r1, r2]
    ·simp [h1, h2, h3, h6, r1, r2]
  by_cases h7 : c.Step < 0
  ·by_cases r1 : c.Role = 1
   ·simp [h1, h2, h3, h6, h7, r1]
   ·by_cases r2 : c.Role = 2
    ·simp [h1, h2, h3, h6, h7, r1, r2]
    ·simp [h1, h2, h3, h6, h7, r1, r2]
  by_cases h8 : aM7 c.Proto < c.Step
  ·by_cases r1 : c.Role = 1
   ·simp [h1, h2, h3, h6, h7, h8, r1]
   ·by_cases r2 : c.Role = 2
    ·simp [h1, h2, h3, h6, h7, h8, r1, r2]
    ·simp [h1, h2, h3, h6, h7, h8, r1, r2]
  by_cases r1 : c.Role = 1
  ·simp [h1, h2, h3, h6, h7, h8, r1]
  ·by_cases r2 : c.Role = 2
   ·simp [h1, h2, h3, h6, h7, h8, r1, r2]
   ·simp [h1, h2, h3, h6, h7, h8, r1, r2]
 rw [hpre, Option.bind_some]
 unfold af9
 cases bk8 c with
 | false => rfl
 | true =>
  simp only [Bool.not_true, Bool.false_eq_true, if_false, bT0, Option.bind_some, Bool.true_and]
  have hP : (if at1 c = true then if (!decide ((List.length c.Peer : Int) = 32)) = true then some true else if (!at1 c) = true then some (!decide (c.Peer = [])) else some false else if (!at1 c) = true then some (!decide (c.Peer = [])) else some false) = some (!a05 c) := by
   unfold a05
   cases at1 c with
   | true => by_cases q : (List.length c.Peer : Int) = 32 <;> simp [q]
   | false => simp
  rw [hP, Option.bind_some]
  cases a05 c with
  | false => simp
  | true =>
   simp only [Bool.not_true, Bool.false_eq_true, if_false, bt5, Option.bind_some, Bool.and_true]
   have hK : ∀ p e : Int, au3 c p e = some (decide (c.Phase = p) && (decide (c.User = if p = 3 then usr c else []) && decide (c.Err = e))) := by
    intro p e
    unfold au3
    by_cases h : p = 3
    ·simp only [h, decide_true, if_true, bd8 hl, Option.bind_some]; rfl
    ·simp only [h, decide_false, Bool.false_eq_true, if_false]; rfl
   rw [hK, hK]
   unfold stB a96
   by_cases p : phS c = 2
   ·by_cases q : c.Phase = 4
    ·simp [p, q]
    ·simp [p, q]
   ·simp [p]
def ao7 (c : aa3) : Bool := (decide (c.Proto = [])) && ((decide (c.Role = 0)) && ((decide (c.Phase = 0)) && ((decide (c.Step = 0)) && ((decide (c.Key = [])) && ((decide (c.Own = [])) && ((decide (c.Peer = [])) && ((decide (c.User = [])) && (decide (c.Err = 0)))))))))
theorem bG3 (c : aa3) : av0 c = some (ao7 c) := by
 unfold av0 ao7
 have : decide ((List.length c.Key : Int) = 0) = decide (c.Key = []) := by
  rw [decide_eq_decide]
  constructor
  ·intro h; exact List.eq_nil_of_length_eq_zero (by omega)
  ·intro h; rw [h]; rfl
 rw [this]
theorem bu2 (h : c.Key.length ≤ 1000000) : au1 c = some (ao7 c) := by
 unfold au1 as0 ao7
 simp only [ce7 h, Option.bind_some, decide_true, if_true]
 by_cases h1 : c.Proto = []
 case neg => simp [h1]
 by_cases h2 : c.Role = 0
 case neg => simp [h1, h2]
 by_cases h3 : c.Phase = 0
 case neg => simp [h1, h2, h3]
 by_cases h4 : c.Step = 0
 case neg => simp [h1, h2, h3, h4]
 by_cases h5 : c.Key = []
 case neg => simp [h1, h2, h3, h4, h5]
 by_cases h6 : c.Own = []
 case neg => simp [h1, h2, h3, h4, h5, h6]
 by_cases h7 : c.Peer = []
 case neg => simp [h1, h2, h3, h4, h5, h6, h7]
 by_cases h8 : c.User = []
 case neg => simp [h1, h2, h3, h4, h5, h6, h7, h8]
 simp [h1, h2, h3, h4, h5, h6, h7, h8]
def bT2 (l : List (List aa1)) (i : Nat) (k : List aa1) : Bool := b59 k && !((l.take i).any fun o => decide (pub o = pub k))
theorem cf1 {l : List (List aa1)} {k : List aa1} (hl : l.length ≤ 1000000) (h : ∀ o ∈ l, o.length ≤ 1000000) (hk : k.length ≤ 1000000) : ad4 l k = some (l.any fun o => decide (pub o = pub k)) := by
 unfold ad4
 have : ae9 l k = some (be7 (fun o => decide (pub o = pub k)) l) := by
  unfold ae9
  refine aU8 hl (fun i hi => ?_) ?_
  ·simp only [ad3, dlt hi, if_true, aa9 hi, Option.bind_some, aY9, b01 (h _ (List.getElem_mem hi)) hk]
  ·simp [ad3]
 rw [this, Option.bind_some, bF7]
theorem cB1 (h : Lim a) : aQ6 a = some (bw4 (bT2 a.Keys) 0 a.Keys && decide ((List.length a.Keys : Int) ≤ 64)) := by
 have h1 := h.keys
 unfold aQ6
 refine (bb8 a.Keys (bT2 a.Keys) false (decide ((List.length a.Keys : Int) ≤ 64)) _ (fun i hi => ?_) ?_).trans ?_
 ·have hk := h.key _ (List.getElem_mem hi)
  have hc : cut a.Keys 0 (i : Int) = some (a.Keys.take i) := aQ0 (by omega)
  simp only [aE7, dlt hi, if_true, aa9 hi, Option.bind_some, cw2 hk, hc, cf1 (show (a.Keys.take i).length ≤ 1000000 by simp; omega) (fun o ho => (h.key o (List.mem_of_mem_take ho)).le) hk.le]
  rw [ab1 (by omega)]
  unfold bT2
  cases b59 a.Keys[i] <;> cases ((a.Keys.take i).any fun o => decide (pub o = pub a.Keys[i])) <;> rfl
 ·simp [aE7]
 ·cases bw4 (bT2 a.Keys) 0 a.Keys <;> rfl
theorem cf2 {l : List (List aa1)} {i : Nat} (hi : i < l.length) : decide (ixF (fun k => decide (pub k = pub l[i])) l 0 = (i : Int)) = !((l.take i).any fun o => decide (pub o = pub l[i])) := by
 rw [Bool.eq_iff_iff]
 simp only [decide_eq_true_eq, Bool.not_eq_true', List.any_eq_false]
 rcases bb6 (fun k => decide (pub k = pub l[i])) l 0 with ⟨h1, h2⟩ | ⟨x, k, y, h1, h2, h3, h4⟩
 ·have := h1 _ (List.getElem_mem hi)
  simp at this
 ·rw [h4]
  constructor
  ·intro e o ho
   have e' : x.length = i := by simp at e; omega
   have : l.take i = x := by rw [h1, ← e', List.take_left]
   rw [this] at ho
   simpa using h3 o ho
  ·intro e
   have hle : x.length ≤ i := by
    rcases Nat.lt_or_ge i x.length with q | q
    ·exfalso
     have hx : l[i] = x[i] := by
      have : l[i]? = x[i]? := by rw [h1, List.getElem?_append_left q]
      simpa [hi, q] using this
     have := h3 _ (List.getElem_mem q)
     rw [← hx] at this
     simp at this
    ·exact q
   rcases Nat.lt_or_ge x.length i with q | q
   ·exfalso
    have hm : k ∈ l.take i := by
     rw [h1, List.take_append]
     refine List.mem_append_right _ ?_
     rw [show i - x.length = (i - x.length - 1) + 1 by omega, List.take_succ_cons]
     exact List.mem_cons_self
    have := e k hm
    simp only [decide_eq_true_eq] at h2
    simp [h2] at this
   ·simp; omega
def a06 (a : aa2) (i : Nat) (c : aa3) : Bool := !decide (c.Id < 1) && (!decide (a.Next ≤ c.Id) && ((match i with | 0 => true | k + 1 => match a.Convs[k]? with | some p => !decide (c.Id ≤ p.Id) | none => false) && (ao7 c || af9 c)))
def bx8 (a : aa2) : Bool := !((decide (a.Owner = [])) || ((decide (32 < (List.length a.Owner : Int))) || ((decide (1024 < (List.length a.Seed : Int))) || ((decide (a.Next < 1)) || ((decide (1048560 < a.Next)) || ((decide (a.Count < 0)) || (decide (9007199254740991 < a.Count))))))))
def a07 (a : aa2) : Bool := bx8 a && (!decide (32 < (List.length a.Convs : Int)) && (!decide (64 < (List.length a.Keys : Int)) && (bw4 (bT2 a.Keys) 0 a.Keys && bw4 (a06 a) 0 a.Convs)))
theorem bM7 {β : Type} {i : Nat} (hi : i < a.Convs.length) (hl : a.Convs.length ≤ 1000000) (F : aa3 → Option Bool) (hF : F a.Convs[i] = some (ao7 a.Convs[i] || af9 a.Convs[i])) (f g : aa3 → Option Bool)
  (hf : f a.Convs[i] = some (ao7 a.Convs[i])) (hg : g a.Convs[i] = some (af9 a.Convs[i])) :
  (if (decide ((a.Convs[i]).Id < 1)) then some true else if (decide (a.Next ≤ (a.Convs[i]).Id)) then some true else if (decide (0 < (i : Int))) then (ae1 a.Convs (IntKind.wrap .i64 ((i : Int) - 1))).bind fun x30 => if (decide ((a.Convs[i]).Id ≤ x30.Id)) then some true else (f a.Convs[i]).bind fun x32 => if (!x32) then (g a.Convs[i]).bind fun x34 => some (!x34) else some false else (f a.Convs[i]).bind fun x35 => if (!x35) then (g a.Convs[i]).bind fun x37 => some (!x37) else some false) = some (!a06 a i a.Convs[i]) := by
 unfold a06
 have hfg : ((f a.Convs[i]).bind fun x32 => if (!x32) then (g a.Convs[i]).bind fun x34 => some (!x34) else some false) = some (!(ao7 a.Convs[i] || af9 a.Convs[i])) := by
  rw [hf, hg, Option.bind_some]
  cases ao7 a.Convs[i] <;> simp
 simp only [hfg]
 by_cases h1 : (a.Convs[i]).Id < 1
 ·simp [h1]
 by_cases h2 : a.Next ≤ (a.Convs[i]).Id
 ·simp [h1, h2]
 simp only [h1, h2, decide_false, Bool.false_eq_true, if_false, Bool.not_false, Bool.true_and]
 cases i with
 | zero => simp
 | succ k =>
  have hk : k < a.Convs.length := by omega
  have hw : IntKind.wrap .i64 (((k + 1 : Nat) : Int) - 1) = (k : Int) := by rw [af0 (by omega) (by omega)]; omega
  have hp : (0 : Int) < ((k + 1 : Nat) : Int) := by omega
  rw [hw, aa9 hk]
  simp only [hp, decide_true, if_true, Option.bind_some, List.getElem?_eq_getElem hk]
  by_cases h3 : (a.Convs[k + 1]).Id ≤ (a.Convs[k]).Id
  ·simp [h3]
  ·simp [h3]
theorem cr0 (h : Lim a) : av2 a = some (a07 a) := by
 have h1 := h.keys
 have h2 := h.convs
 unfold av2 a07
 have eb : ((decide (a.Owner = [])) || ((decide (32 < (List.length a.Owner : Int))) || ((decide (1024 < (List.length a.Seed : Int))) || ((decide (a.Next < 1)) || ((decide (1048560 < a.Next)) || ((decide (a.Count < 0)) || (decide (9007199254740991 < a.Count)))))))) = !bx8 a := by unfold bx8; rw [Bool.not_not]
 rw [eb]
 cases bx8 a with
 | false => rfl
 | true =>
  simp only [Bool.not_true, Bool.false_eq_true, if_false, Bool.true_and]
  by_cases q1 : (32 : Int) < (List.length a.Convs : Int)
  ·simp [q1]
  by_cases q2 : (64 : Int) < (List.length a.Keys : Int)
  ·simp [q1, q2]
  have q2' : decide ((List.length a.Keys : Int) ≤ 64) = true := by simp; omega
  simp only [q1, q2, decide_false, Bool.false_eq_true, if_false, cB1 h, q2', Option.bind_some, Bool.and_true, Bool.not_false, Bool.true_and]
  cases bw4 (bT2 a.Keys) 0 a.Keys with
  | false => rfl
  | true =>
   simp only [Bool.not_true, Bool.false_eq_true, if_false, Bool.true_and]
   refine (bb8 a.Convs (a06 a) false true _ (fun i hi => ?_) ?_).trans ?_
   ·have hs := (h.conv _ (List.getElem_mem hi)).key
    simp only [aB3, dlt hi, if_true, aa9 hi, Option.bind_some]
    rw [bM7 (β := Unit) hi (by omega) (fun _ => some (ao7 a.Convs[i] || af9 a.Convs[i])) rfl av0 aJ7 (bG3 _) (bM6 hs), Option.bind_some, ab1 (by omega)]
    cases a06 a i a.Convs[i] <;> rfl
   ·simp [aB3]
   ·cases bw4 (a06 a) 0 a.Convs <;> rfl
theorem bT3 (h : Lim a) : au6 a = some (a07 a) := by
 have h1 := h.keys
 have h2 := h.convs
 have hC : ab0 (fun s => au4 a s) 0 = some (bw4 (a06 a) 0 a.Convs) := by
  refine (bb8 a.Convs (a06 a) false true _ (fun i hi => ?_) ?_).trans ?_
  ·have hs := (h.conv _ (List.getElem_mem hi)).key
   simp only [au4, dlt hi, if_true, aa9 hi, Option.bind_some]
   rw [bM7 (β := Unit) hi (by omega) (fun _ => some (ao7 a.Convs[i] || af9 a.Convs[i])) rfl au1 ay6 (bu2 hs.le) (bT1 hs), Option.bind_some, ab1 (by omega)]
   cases a06 a i a.Convs[i] <;> rfl
  ·simp [au4]
  ·cases bw4 (a06 a) 0 a.Convs <;> rfl
 have hK : ab0 (fun s => au5 a s) 0 = some (bw4 (bT2 a.Keys) 0 a.Keys && bw4 (a06 a) 0 a.Convs) := by
  refine (bb8 a.Keys (bT2 a.Keys) false (bw4 (a06 a) 0 a.Convs) _ (fun i hi => ?_) ?_).trans ?_
  ·have hk := h.key _ (List.getElem_mem hi)
   have hp := cf2 hi
   have := @cq5 a.Keys (pub a.Keys[i]) (by omega) (fun k hk => (h.key k hk).le)
   unfold pub at this
   simp only [au5, dlt hi, if_true, aa9 hi, Option.bind_some, cq6 hk, a02 hk.le, this]
   rw [ab1 (by omega)]
   unfold pub at hp
   rw [hp]
   unfold bT2 pub
   cases b59 a.Keys[i] <;> cases ((a.Keys.take i).any fun o => decide ((o.filter fun a => !aj8 a.Name) = (a.Keys[i]).filter fun a => !aj8 a.Name)) <;> rfl
  ·simp [au5, hC]
  ·cases bw4 (bT2 a.Keys) 0 a.Keys <;> rfl
 unfold au6 a07 bx8
 rw [hK]
 unfold aY1
 by_cases q1 : a.Owner = []
 ·simp [q1]
 by_cases q2 : (32 : Int) < (List.length a.Owner : Int)
 ·simp [q1, q2]
 by_cases q3 : (1024 : Int) < (List.length a.Seed : Int)
 ·simp [q1, q2, q3]
 by_cases q4 : (64 : Int) < (List.length a.Keys : Int)
 ·simp [q1, q2, q3, q4]
 by_cases q5 : (32 : Int) < (List.length a.Convs : Int)
 ·simp [q1, q2, q3, q4, q5]
 simp only [q1, q2, q3, q4, q5, decide_false, Bool.or_self, Bool.false_eq_true, if_false, Option.bind_some, decide_true, Bool.not_true, Bool.or_false, Bool.false_or, Bool.not_false, Bool.true_and]
 cases ((decide (a.Next < 1)) || ((decide (1048560 < a.Next)) || ((decide (a.Count < 0)) || (decide (9007199254740991 < a.Count))))) <;> rfl
structure Val (a : aa2) : Prop where
 lim : Lim a
 ok : a07 a = true
theorem Val.base (v : Val a) : a.Owner ≠ [] ∧ a.Owner.length ≤ 32 ∧ a.Seed.length ≤ 1024 ∧ 1 ≤ a.Next ∧ a.Next ≤ 1048560 ∧ 0 ≤ a.Count ∧ a.Count ≤ 9007199254740991 ∧ a.Convs.length ≤ 32 ∧ a.Keys.length ≤ 64 := by
 have h := v.ok
 unfold a07 bx8 at h
 simp only [Bool.and_eq_true, Bool.not_eq_true', Bool.or_eq_false_iff, decide_eq_false_iff_not] at h
 obtain ⟨⟨h1, h2, h3, h4, h5, h6, h7⟩, h8, h9, _⟩ := h
 exact ⟨h1, by omega, by omega, by omega, by omega, by omega, by omega, by omega, by omega⟩
theorem Val.convAt (v : Val a) {i : Nat} (hi : i < a.Convs.length) : 1 ≤ (a.Convs[i]).Id ∧ (a.Convs[i]).Id < a.Next ∧ (ao7 a.Convs[i] = true ∨ af9 a.Convs[i] = true) := by
 have h := v.ok
 unfold a07 at h
 simp only [Bool.and_eq_true] at h
 have := bb7.1 h.2.2.2.2 i hi
 unfold a06 at this
 simp only [Bool.and_eq_true, Bool.not_eq_true', decide_eq_false_iff_not, Bool.or_eq_true] at this
 exact ⟨by omega, by omega, this.2.2.2⟩
theorem Val.conv (v : Val a) {c : aa3} (hc : c ∈ a.Convs) : 1 ≤ c.Id ∧ c.Id < 1048560 := by
 obtain ⟨i, hi, rfl⟩ := List.getElem_of_mem hc
 have := v.convAt hi
 have := v.base
 omega
theorem Val.key (v : Val a) {k : List aa1} (hk : k ∈ a.Keys) : b59 k = true := by
 obtain ⟨i, hi, rfl⟩ := List.getElem_of_mem hk
 have h := v.ok
 unfold a07 at h
 simp only [Bool.and_eq_true] at h
 have := bb7.1 h.2.2.2.1 i hi
 unfold bT2 at this
 simp only [Bool.and_eq_true] at this
 exact this.1
def aN1 (a : aa2) (id : Int) : Int := ixF (fun c => decide (c.Id = id - 16)) a.Convs 0
theorem cf3 {c : aa3} {id : Int} (w : -9223372036854775808 ≤ id ∧ id ≤ 9223372036854775807) (h : 1 ≤ c.Id ∧ c.Id < 1048560) : decide (c.Id = IntKind.wrap .i64 (id - 16)) = decide (c.Id = id - 16) := by
 by_cases q : -9223372036854775792 ≤ id
 ·rw [af0 (by omega) (by omega)]
 ·have : IntKind.wrap .i64 (id - 16) = id - 16 + 18446744073709551616 := by
   have e : IntKind.wrap .i64 (id - 16) = if 9223372036854775808 ≤ (id - 16) % 18446744073709551616 then (id - 16) % 18446744073709551616 - 18446744073709551616 else (id - 16) % 18446744073709551616 := by simp [IntKind.wrap, IntKind.bits, IntKind.signed]
   rw [e]
   split <;> omega
  rw [this, decide_eq_decide]
  omega
theorem bu3 (v : Val a) {id : Int} (w : -9223372036854775808 ≤ id ∧ id ≤ 9223372036854775807) : az0 a id = some (aN1 a id) := by
 have hb := v.base
 unfold az0 ah1
 have : ab0 (fun s => ab5 a.Convs id s) 0 = some (aN1 a id) := by
  refine br6 a.Convs _ _ (fun i hi => ?_) ?_
  ·simp only [ab5, dlt hi, if_true, aa9 hi, Option.bind_some, aY6, cf3 w (v.conv (List.getElem_mem hi))]
   rw [ab1 (by omega)]
   cases decide ((a.Convs[i]).Id = id - 16) <;> rfl
  ·simp [ab5]
 rw [this]; rfl
theorem bh9 (v : Val a) {id : Int} (w : -9223372036854775808 ≤ id ∧ id ≤ 9223372036854775807) : az3 a id = some (aN1 a id) := by
 have hb := v.base
 unfold az3
 refine br6 a.Convs _ _ (fun i hi => ?_) ?_
 ·have hc := v.conv (List.getElem_mem hi)
  simp only [aI9, dlt hi, if_true, aa9 hi, Option.bind_some, cf3 w hc]
  rw [ab1 (by omega)]
  by_cases q : 16 < id
  ·simp only [q, decide_true, if_true, Option.bind_some]
   cases decide ((a.Convs[i]).Id = id - 16) <;> rfl
  ·have : ¬ ((a.Convs[i]).Id = id - 16) := by omega
   simp [q, this]
 ·simp [aI9]
def ap6 (a : aa2) (id : Int) : Bool := (decide (1 ≤ id) && decide (id ≤ 4)) || decide (0 ≤ aN1 a id)
theorem bd9 (v : Val a) {id : Int} (w : -9223372036854775808 ≤ id ∧ id ≤ 9223372036854775807) : an0 a id = some (ap6 a id) := by
 unfold an0 ap6
 rw [bu3 v w]
 cases decide (1 ≤ id) <;> cases decide (id ≤ 4) <;> simp
theorem bk9 (v : Val a) {id : Int} (w : -9223372036854775808 ≤ id ∧ id ≤ 9223372036854775807) : an4 a id = some (ap6 a id) := by
 unfold an4 ap6
 rw [bh9 v w]
 cases decide (1 ≤ id) <;> cases decide (id ≤ 4) <;> simp
theorem aD7 (v : Val a) (id : Int) : aN1 a id = -1 ∨ ∃ i, ∃ h : i < a.Convs.length, aN1 a id = (i : Int) ∧ (a.Convs[i]).Id = id - 16 ∧ 17 ≤ id ∧ id < 1048576 := by
 rcases bb6 (fun c => decide (c.Id = id - 16)) a.Convs 0 with ⟨h1, h2⟩ | ⟨x, k, y, h1, h2, h3, h4⟩
 ·exact .inl h2
 ·refine .inr ⟨x.length, by rw [h1]; simp, by unfold aN1; rw [h4]; simp, ?_⟩
  have hk : a.Convs[x.length]? = some k := by rw [h1]; simp
  have hi : x.length < a.Convs.length := by rw [h1]; simp
  have e : a.Convs[x.length] = k := by
   rw [List.getElem?_eq_getElem hi] at hk
   exact Option.some.inj hk
  have hid := of_decide_eq_true h2
  have := v.conv (c := k) (by rw [h1]; simp)
  rw [e]
  omega
def bH7 (p : List aa1) : List (List aa1) → List aa1 × Bool
 | [] => ([], false)
 | k :: r => if p.all (bd5 k) = true then (k, true) else bH7 p r
theorem cJ3 (h : Lim a) {p : List aa1} (hp : p.length ≤ 1000000) : aQ5 a p = some (bH7 p a.Keys) := by
 have h1 := h.keys
 unfold aQ5
 refine (ae2 a.Keys.length (fun (_ : Unit) i => i) (fun s => aF6 a p s) (fun i _ => bH7 p (a.Keys.drop i)) (fun _ _ => True) (s0 := ()) trivial ?_ ?_)
 ·intro _ i hi _
  have hk := (h.key _ (List.getElem_mem hi)).le
  simp only [aF6, dlt hi, if_true, aa9 hi, Option.bind_some, bh6 hk hp, aJ0 hk]
  rw [List.drop_eq_getElem_cons hi]
  cases q : p.all (bd5 a.Keys[i]) with
  | true => right; simp [bH7, q]
  | false => left; exact ⟨(), by rw [ab1 (by omega)]; simp, by simp [bH7, q], trivial⟩
 ·intro _ _
  simp [aF6, bH7]
theorem bG4 {p : List aa1} : ∀ {l : List (List aa1)}, (bH7 p l).2 = true → (bH7 p l).1 ∈ l
 | k :: r, h => by
  unfold bH7 at h ⊢
  split
  ·simp
  ·rename_i q
   rw [if_neg q] at h
   exact List.mem_cons_of_mem _ (bG4 h)
variable {c : aa3} {a : aa2} {id : Int}
def bi8 (a : aa2) : List Int := [2, 3, 4] ++ a.Convs.map fun c => 16 + c.Id
def bx9 (k : List aa1) : Str := [107, 101, 121, 32] ++ (if aW2 (pub k) = 0 then aM5 (pub k) else []) ++ [10]
def bi0 (a : aa2) (id : Int) : Str := if id = 2 then (a.Keys.map bx9).flatten else if id = 3 then ai6 ++ [10] ++ (aG7 ++ [10]) ++ (aq3 ++ [10]) else []
theorem bu4 {k : List aa1} (h : Sh k) : (bx9 k).length ≤ 31000000 := by
 have hp := ce8 h
 have h1 : (aM5 (pub k)).length ≤ 2000 * 15004 + 10 := by
  unfold aM5
  have := bZ4 (K := 15003) (sep := [32]) (l := (pub k).map be8) (fun x hx => by
   obtain ⟨y, hy, rfl⟩ := List.mem_map.1 hx
   exact bZ3 (hp.ok.2 y hy))
  have h2 := hp.len
  simp only [List.length_map] at this
  have h3 : (pub k).length * (15003 + List.length ([32] : Str)) ≤ 2000 * 15004 := Nat.mul_le_mul h2 (by simp)
  omega
 unfold bx9
 split <;> simp <;> omega
theorem b04 : ∀ {l : List (List aa1)}, (∀ k ∈ l, Sh k) → (l.map bx9).flatten.length ≤ l.length * 31000000
 | [], _ => by simp
 | k :: r, h => by
  have h1 := bu4 (h k (by simp))
  have h2 := b04 (l := r) fun x hx => h x (by simp [hx])
  simp only [List.map_cons, List.flatten_cons, List.length_append, List.length_cons]
  omega
theorem bM8 (v : Val a) : (bi0 a id).length ≤ 2300000000 := by
 have hb := v.base
 unfold bi0
 split
 ·have := b04 (l := a.Keys) v.lim.key
  omega
 ·split
  ·decide
  ·simp
theorem bT4 (v : Val a) : aE3 a id = some (bi0 a id) := by
 have hb := v.base
 unfold aE3 bi0
 by_cases h2 : id = 2
 ·simp only [h2, decide_true, if_true]
  refine (ae2 a.Keys.length (fun (s : Str) i => (i, s)) (fun s => an3 a s.1 s.2) (fun i s => s ++ ((a.Keys.drop i).map bx9).flatten) (fun i s => s.length ≤ i * 31000000) (s0 := []) (by simp) ?_ ?_).trans rfl
  ·intro s i hi hs
   left
   have hk := v.lim.key _ (List.getElem_mem hi)
   have hl := bu4 hk
   have hp := cq1 (ce8 hk).ok
   unfold pub at hp
   refine ⟨s ++ bx9 a.Keys[i], ?_, ?_, ?_⟩
   ·simp only [an3, dlt hi, if_true, aa9 hi, Option.bind_some, bt1 hk.le, hp]
    have e : (if aW2 (List.filter (fun a => !aj8 a.Name) a.Keys[i]) = 0 then (aM5 (List.filter (fun a => !aj8 a.Name) a.Keys[i]), (0 : Int)) else ([], aW2 (List.filter (fun a => !aj8 a.Name) a.Keys[i]))).1 = (if aW2 (pub a.Keys[i]) = 0 then aM5 (pub a.Keys[i]) else []) := by
     unfold pub; split <;> rfl
    rw [e]
    unfold bx9 at hl ⊢
    generalize (if aW2 (pub a.Keys[i]) = 0 then aM5 (pub a.Keys[i]) else []) = X at hl ⊢
    have hX : X.length ≤ 31000000 := by simp at hl; omega
    have c1 : aj0 [107, 101, 121, 32] X = some ([107, 101, 121, 32] ++ X) := by unfold aj0; rw [if_pos (by simp; omega)]
    have c2 : aj0 ([107, 101, 121, 32] ++ X) [10] = some ([107, 101, 121, 32] ++ X ++ [10]) := by unfold aj0; rw [if_pos (by simp; omega)]
    have c3 : bAdd s ([107, 101, 121, 32] ++ X ++ [10]) = some (s ++ ([107, 101, 121, 32] ++ X ++ [10])) := by unfold bAdd; rw [if_pos (by simp; omega)]
    rw [c1, Option.bind_some, c2, Option.bind_some, c3, Option.bind_some, ab1 (by omega)]
   ·rw [List.drop_eq_getElem_cons hi, List.map_cons, List.flatten_cons, List.append_assoc]
   ·simp only [List.length_append]; omega
  ·intro s hs
   simp [an3, ap4]
 ·by_cases h3 : id = 3
  ·subst h3
   have n2 : ¬ (3 : Int) = 2 := by decide
   simp only [n2, decide_true, decide_false, if_true, Bool.false_eq_true, if_false, aq8, Option.bind_some]
   have b1 : aj2 [[99, 104, 97, 108], [109, 117, 116, 117, 97, 108], [112, 108, 97, 105, 110]] 0 [] = some (.cont (1, ai6 ++ [10])) := by kernel_rfl
   have b2 : aj2 [[99, 104, 97, 108], [109, 117, 116, 117, 97, 108], [112, 108, 97, 105, 110]] 1 (ai6 ++ [10]) = some (.cont (2, ai6 ++ [10] ++ (aG7 ++ [10]))) := by kernel_rfl
   have b3 : aj2 [[99, 104, 97, 108], [109, 117, 116, 117, 97, 108], [112, 108, 97, 105, 110]] 2 (ai6 ++ [10] ++ (aG7 ++ [10])) = some (.cont (3, ai6 ++ [10] ++ (aG7 ++ [10]) ++ (aq3 ++ [10]))) := by kernel_rfl
   have b4 : aj2 [[99, 104, 97, 108], [109, 117, 116, 117, 97, 108], [112, 108, 97, 105, 110]] 3 (ai6 ++ [10] ++ (aG7 ++ [10]) ++ (aq3 ++ [10])) = some (.done (ai6 ++ [10] ++ (aG7 ++ [10]) ++ (aq3 ++ [10]))) := by kernel_rfl
   rw [ag7 (s' := (1, ai6 ++ [10])) b1, ag7 (s' := (2, ai6 ++ [10] ++ (aG7 ++ [10]))) b2, ag7 (s' := (3, ai6 ++ [10] ++ (aG7 ++ [10]) ++ (aq3 ++ [10]))) b3, aw0 b4]
  ·simp only [h2, h3, decide_false, Bool.false_eq_true, if_false]; rfl
theorem aa8 {x y : Str} (h : x.length + y.length ≤ 9223372036854775807) : aj0 x y = some (x ++ y) := by unfold aj0; rw [if_pos h]
theorem by0 (v : Val a) : aE8 a id = some (bi0 a id) := by
 have hb := v.base
 unfold aE8 bi0
 by_cases h2 : id = 2
 ·subst h2
  have n3 : ¬ (2 : Int) = 3 := by decide
  simp only [decide_true, if_true]
  refine (ae2 a.Keys.length (fun (s : Str) i => (s, i)) (fun s => an5 a 2 s.1 s.2) (fun i s => s ++ ((a.Keys.drop i).map bx9).flatten) (fun i s => s.length ≤ i * 31000000) (s0 := []) (by simp) ?_ ?_).trans rfl
  ·intro s i hi hs
   left
   have hk := v.lim.key _ (List.getElem_mem hi)
   have hl := bu4 hk
   have hp := bS4 (ce8 hk).ok
   unfold pub at hp
   refine ⟨s ++ bx9 a.Keys[i], ?_, ?_, ?_⟩
   ·simp only [an5, dlt hi, if_true, aa9 hi, Option.bind_some, a02 hk.le, hp]
    have e : (if aW2 (List.filter (fun a => !aj8 a.Name) a.Keys[i]) = 0 then (aM5 (List.filter (fun a => !aj8 a.Name) a.Keys[i]), (0 : Int)) else ([], aW2 (List.filter (fun a => !aj8 a.Name) a.Keys[i]))).1 = (if aW2 (pub a.Keys[i]) = 0 then aM5 (pub a.Keys[i]) else []) := by
     unfold pub; split <;> rfl
    rw [e]
    unfold bx9 at hl ⊢
    generalize (if aW2 (pub a.Keys[i]) = 0 then aM5 (pub a.Keys[i]) else []) = X at hl ⊢
    have hX : X.length ≤ 31000000 := by simp at hl; omega
    rw [aa8 (by simp; omega), Option.bind_some, aa8 (by simp; omega), Option.bind_some, aa8 (by simp; omega), Option.bind_some, ab1 (by omega)]
    simp only [List.append_assoc]
   ·rw [List.drop_eq_getElem_cons hi, List.map_cons, List.flatten_cons, List.append_assoc]
   ·simp only [List.length_append]; omega
  ·intro s hs
   simp [an5, ak5, n3]
 ·by_cases h3 : id = 3
  ·subst h3
   have n2 : ¬ (3 : Int) = 2 := by decide
   unfold ak5 aZ3
   simp only [n2, decide_true, decide_false, if_true, Bool.false_eq_true, if_false, Option.bind_some]
   have b1 : aj4 [[99, 104, 97, 108], [109, 117, 116, 117, 97, 108], [112, 108, 97, 105, 110]] [] 0 = some (.cont (ai6 ++ [10], 1)) := by kernel_rfl
   have b2 : aj4 [[99, 104, 97, 108], [109, 117, 116, 117, 97, 108], [112, 108, 97, 105, 110]] (ai6 ++ [10]) 1 = some (.cont (ai6 ++ [10] ++ (aG7 ++ [10]), 2)) := by kernel_rfl
   have b3 : aj4 [[99, 104, 97, 108], [109, 117, 116, 117, 97, 108], [112, 108, 97, 105, 110]] (ai6 ++ [10] ++ (aG7 ++ [10])) 2 = some (.cont (ai6 ++ [10] ++ (aG7 ++ [10]) ++ (aq3 ++ [10]), 3)) := by kernel_rfl
   have b4 : aj4 [[99, 104, 97, 108], [109, 117, 116, 117, 97, 108], [112, 108, 97, 105, 110]] (ai6 ++ [10] ++ (aG7 ++ [10]) ++ (aq3 ++ [10])) 3 = some (.done (ai6 ++ [10] ++ (aG7 ++ [10]) ++ (aq3 ++ [10]))) := by kernel_rfl
   rw [ag7 (s' := (ai6 ++ [10], 1)) b1, ag7 (s' := (ai6 ++ [10] ++ (aG7 ++ [10]), 2)) b2, ag7 (s' := (ai6 ++ [10] ++ (aG7 ++ [10]) ++ (aq3 ++ [10]), 3)) b3, aw0 b4]
  ·unfold ak5
   simp only [h2, h3, decide_false, Bool.false_eq_true, if_false]
def b60 (s : Str) (off cnt : Int) : Str := (s.drop (min off.toNat s.length)).take cnt.toNat
theorem cB2 {s : Str} {off cnt : Int} (h0 : 0 ≤ off) (h1 : 0 ≤ cnt) (hs : s.length ≤ 10000000000) :
  ((cut s (min off (List.length s : Int)) (List.length s : Int)).bind fun x => cut x 0 (min (min cnt 65536) (List.length x : Int))) = some (b60 s off (min cnt 65536)) := by
 have e1 : min off (List.length s : Int) = ((min off.toNat s.length : Nat) : Int) := by omega
 rw [e1, aA4 (by omega), Option.bind_some]
 generalize hk : min off.toNat s.length = k
 have e2 : min (min cnt 65536) (List.length (s.drop k) : Int) = ((min (min cnt 65536).toNat (s.drop k).length : Nat) : Int) := by omega
 rw [e2, aQ0 (by omega)]
 unfold b60
 rw [hk]
 congr 1
 rcases Nat.le_total (min cnt 65536).toNat (s.drop k).length with q | q
 ·rw [Nat.min_eq_left q]
 ·rw [Nat.min_eq_right q, List.take_of_length_le (Nat.le_refl _), List.take_of_length_le q]
theorem b61 {s : Str} {off cnt : Int} (h0 : 0 ≤ off) (h1 : 0 ≤ cnt) (hs : s.length ≤ 10000000000) :
  cut s (min off (List.length s : Int)) (IntKind.wrap .i64 ((min off (List.length s : Int)) + (min (min cnt 65536) (IntKind.wrap .i64 ((List.length s : Int) - (min off (List.length s : Int))))))) = some (b60 s off (min cnt 65536)) := by
 have e1 : min off (List.length s : Int) = ((min off.toNat s.length : Nat) : Int) := by omega
 rw [e1]
 unfold b60
 generalize hk : min off.toNat s.length = k
 have hkl : k ≤ s.length := by omega
 rw [af0 (n := (List.length s : Int) - (k : Int)) (by omega) (by omega), af0 (by omega) (by omega)]
 generalize hm : (min cnt 65536).toNat = m
 have e3 : (k : Int) + min (min cnt 65536) ((List.length s : Int) - (k : Int)) = ((k + min m (s.length - k) : Nat) : Int) := by omega
 rw [e3]
 unfold cut
 rw [if_pos ⟨by omega, by omega, by omega⟩]
 simp only [Int.toNat_natCast]
 congr 1
 rw [List.drop_take, show k + min m (s.length - k) - k = min m (s.length - k) by omega]
 rcases Nat.le_total m (s.length - k) with q | q
 ·rw [Nat.min_eq_left q]
 ·rw [Nat.min_eq_right q, List.take_of_length_le (by simp), List.take_of_length_le (by simp; omega)]
def by1 (a : aa2) (id off cnt : Int) : aa2 × Str × Int :=
 if ap6 a id = true then (if id = 1 then (a, [], 10) else if off < 0 ∨ cnt < 0 then (a, [], 1) else (a, b60 (bi0 a id) off (min cnt 65536), 0)) else (a, [], 8)
theorem cr1 (v : Val a) (w : -9223372036854775808 ≤ id ∧ id ≤ 9223372036854775807) (hc : aN1 a id = -1) (off cnt : Int) : ai1 a id off cnt = some (by1 a id off cnt) := by
 unfold ai1 by1
 rw [ao9 v.lim, Option.bind_some, bd9 v w, Option.bind_some]
 cases he : ap6 a id with
 | false => rfl
 | true =>
  by_cases h1 : id = 1
  ·simp [h1]
  ·by_cases h2 : off < 0 ∨ cnt < 0
   ·have : (decide (off < 0) || decide (cnt < 0)) = true := by simpa using h2
    simp [h1, h2, this]
   ·have h2' : (decide (off < 0) || decide (cnt < 0)) = false := by
     rw [Bool.or_eq_false_iff, decide_eq_false_iff_not, decide_eq_false_iff_not]; omega
    have hl := bM8 (id := id) v
    have hp := cB2 (s := bi0 a id) (off := off) (cnt := cnt) (by omega) (by omega) (by omega)
    have hn : ¬ (0 : Int) ≤ -1 := by omega
    simp only [h1, h2, h2', decide_false, Bool.not_true, Bool.false_eq_true, if_false, if_true, bu3 v w, hc, hn, Option.bind_some, bT4 v]
    cases hcut : cut (bi0 a id) (min off (List.length (bi0 a id) : Int)) (List.length (bi0 a id) : Int) with
    | none => rw [hcut] at hp; cases hp
    | some x =>
     rw [hcut, Option.bind_some] at hp
     rw [Option.bind_some, hp]; rfl
theorem bT5 (v : Val a) (w : -9223372036854775808 ≤ id ∧ id ≤ 9223372036854775807) (hc : aN1 a id = -1) (off cnt : Int) : az4 a id off cnt = some (by1 a id off cnt) := by
 unfold az4 by1
 rw [bk9 v w, Option.bind_some]
 cases he : ap6 a id with
 | false => rfl
 | true =>
  by_cases h1 : id = 1
  ·simp [h1]
  ·by_cases h2 : off < 0 ∨ cnt < 0
   ·have : (decide (off < 0) || decide (cnt < 0)) = true := by simpa using h2
    simp [h1, h2, this]
   ·have h2' : (decide (off < 0) || decide (cnt < 0)) = false := by
     rw [Bool.or_eq_false_iff, decide_eq_false_iff_not, decide_eq_false_iff_not]; omega
    have hl := bM8 (id := id) v
    have hp := b61 (s := bi0 a id) (off := off) (cnt := cnt) (by omega) (by omega) (by omega)
    have hn : (-1 : Int) < 0 := by omega
    simp only [h1, h2, h2', decide_false, decide_true, Bool.not_true, Bool.false_eq_true, if_false, if_true, bh9 v w, hc, hn, Option.bind_some, by0 v, hp]
theorem cr2 (v : Val a) (h : id ≤ 16) : aN1 a id = -1 := by
 rcases aD7 v id with q | ⟨i, hi, _, _, q, _⟩
 ·exact q
 ·omega
end Go.Proofs.YtiliognepodhnaaGreatDoor
