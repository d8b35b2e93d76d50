import Derived.Test.YtiliognepodhnaaGreatDoorPA
import Derived.Test.YtiliognepodhnaaGreatDoorVmR
open Bool (and_eq_false_iff and_eq_true false_eq_true not_eq_true not_eq_true' or_eq_false_iff or_eq_true)
open Int (tdiv tmod)
open Go.IntKind (signed wrap)
open List (append_assoc drop drop_eq_getElem_cons flatten_cons getElem_mem length_append map_cons take_of_length_le)
open Nat (le_trans)
namespace Go.Proofs.YtiliognepodhnaaGreatDoor
open Go.Vm
set_option linter.unusedVariables false
set_option linter.unusedSimpArgs false
set_option maxRecDepth 100000
theorem wfI {n : Int} (h : (Lit.int .i64 n).wf = true) : -9223372036854775808 ≤ n ∧ n ≤ 9223372036854775807 := by
 have h2 : IntKind.i64.min ≤ n ∧ n ≤ IntKind.i64.max := by simpa [Lit.wf] using h
 exact h2
def wA (a : aa1) : Nat := min a.Mz.length 10000 + min a.Value.length 10000
def cA8 (l : List aa1) : Nat := (l.map wA).sum
def a47 (l : List aa1) : Bool := decide ((List.length l : Int) ≤ 40) && decide ((cA8 l : Int) ≤ 5000)
theorem b44 {l : List aa1} (h : l.length ≤ a99) : aF0 l = some (a47 l) := by
 have ht : l.length ≤ 140737488351232 := h
 unfold aF0
 refine (ad1 l.length (fun (n : Int) i => (n, i)) (fun s => az1 l s.1 s.2) (fun i n => decide ((List.length l : Int) ≤ 40) && decide (n + (cA8 (l.drop i) : Int) ≤ 5000)) (fun i n => 0 ≤ n ∧ n ≤ 20000 * (i : Int)) (s0 := 0) (by simp) ?_ ?_).trans (by simp [a47])
 ·intro n i hi hn
  left
  have h1 : min (List.length l[i].Mz : Int) 10000 + min (List.length l[i].Value : Int) 10000 = ((wA l[i] : Nat) : Int) := by unfold wA; omega
  have h2 : wA l[i] ≤ 20000 := by unfold wA; omega
  refine ⟨n + (wA l[i] : Int), ?_, ?_, by omega, by omega⟩
  ·simp only [az1, dlt hi, if_true, aa6 hi, Option.bind_some]
   rw [h1, ab3 (n := ((wA l[i] : Nat) : Int)) (by omega) (by omega), ab3 (by omega) (by omega), ab3 (by omega) (by omega)]
  ·have e : cA8 (l.drop i) = wA l[i] + cA8 (l.drop (i + 1)) := by rw [drop_eq_getElem_cons hi]; rfl
   rw [e, Int.natCast_add, ← Int.add_assoc]
 ·intro n hn
  simp [az1, cA8]
theorem b45 : ∀ {l : List aa1} {a : aa1}, a ∈ l → wA a ≤ cA8 l
 | x :: r, a, h => by
  simp only [cA8, map_cons, List.sum_cons]
  rcases List.mem_cons.1 h with rfl | h
  ·omega
  ·have := b45 h; unfold cA8 at this; omega
structure Sh (l : List aa1) : Prop where
 len : l.length ≤ 2000
 at_ : ∀ a ∈ l, a.Mz.length ≤ 5000 ∧ a.Value.length ≤ 5000
theorem b46 {l : List aa1} (h : a47 l = true) : Sh l := by
 unfold a47 at h
 simp only [and_eq_true, decide_eq_true_eq] at h
 refine ⟨by omega, fun a ha => ?_⟩
 have := b45 ha
 unfold wA at this
 omega
theorem Sh.ok {l : List aa1} (h : Sh l) : okL l := ⟨by have := h.len; omega, fun a ha => h.at_ a ha⟩
theorem Sh.le {l : List aa1} (h : Sh l) : l.length ≤ 1000000 := by have := h.len; omega
def sumC (c : aa3) : Int := wrap .i64 ((wrap .i64 ((wrap .i64 ((List.length c.Pz : Int) + (List.length c.Own : Int))) + (List.length c.Ez : Int))) + (List.length c.Uz : Int))
def smC (c : aa3) : Bool := a47 c.Key && !decide ((1000 : Int) < sumC c)
def bP9 (a : aa2) : Bool := !((decide (1000 < (List.length a.Oz : Int))) || ((decide (2000 < (List.length a.Sz : Int))) || ((decide (70 < (List.length a.Kz : Int))) || (decide (40 < (List.length a.Cz : Int)))))) && (a.Kz.all a47 && a.Cz.all smC)
theorem cv6 {a : aa2} (w : aJ7 a) : aA6 a = some (bP9 a) := by
 obtain ⟨w1, w2, ⟨w3, w4⟩, w5, ⟨w6, w7⟩, w8⟩ := w
 unfold aA6 bP9
 cases hb : ((decide (1000 < (List.length a.Oz : Int))) || ((decide (2000 < (List.length a.Sz : Int))) || ((decide (70 < (List.length a.Kz : Int))) || (decide (40 < (List.length a.Cz : Int)))))) with
 | true => rfl
 | false =>
  simp only [or_eq_false_iff, decide_eq_false_iff_not] at hb
  obtain ⟨b1, b2, b3, b4⟩ := hb
  simp only [false_eq_true, if_false, Bool.not_false, Bool.true_and]
  have hC : ab1 (fun s => av6 a s) 0 = some (a.Cz.all smC) := by
   refine bI6 a.Cz smC _ (fun i hi => ?_) ?_
   ·have hw := w7 _ (getElem_mem hi)
    obtain ⟨c1, c2, c3, c4, c5, ⟨c6, c6'⟩, c7, c8, c9, c10⟩ := hw
    simp only [av6, dlt hi, if_true, aa6 hi, Option.bind_some, b44 c6, smC]
    rw [ab0 (by omega)]
    change (if (!a47 (a.Cz[i]).Key || decide (1000 < sumC a.Cz[i])) = true then _ else _) = _
    by_cases q1 : a47 (a.Cz[i]).Key = true
    ·by_cases q2 : (1000 : Int) < sumC a.Cz[i]
     ·simp only [q1, q2, decide_true]; rfl
     ·simp only [q1, q2, decide_false]; rfl
    ·rw [not_eq_true] at q1
     simp only [q1, Bool.not_false, Bool.true_or, if_true, Bool.false_and, false_eq_true, if_false]
   ·simp [av6]
  refine (bw4 a.Kz a47 false (a.Cz.all smC) _ (fun i hi => ?_) ?_).trans ?_
  ·simp only [aC9, dlt hi, if_true, aa6 hi, Option.bind_some, b44 (w4 _ (getElem_mem hi)).1]
   rw [ab0 (by omega)]
   cases a47 a.Kz[i] <;> rfl
  ·simp [aC9, hC]
  ·cases a.Kz.all a47 <;> rfl
structure ShC (c : aa3) : Prop where
 key : Sh c.Key
structure Lim (a : aa2) : Prop where
 owner : a.Oz.length ≤ 1000
 seed : a.Sz.length ≤ 2000
 keys : a.Kz.length ≤ 70
 key : ∀ k ∈ a.Kz, Sh k
 convs : a.Cz.length ≤ 40
 conv : ∀ c ∈ a.Cz, ShC c
theorem ck0 {a : aa2} (h : bP9 a = true) : Lim a := by
 unfold bP9 at h
 simp only [and_eq_true, not_eq_true', or_eq_false_iff, decide_eq_false_iff_not, List.all_eq_true] at h
 obtain ⟨⟨b1, b2, b3, b4⟩, h1, h2⟩ := h
 refine ⟨by omega, by omega, by omega, fun k hk => b46 (h1 k hk), by omega, fun c hc => ?_⟩
 have := h2 c hc
 unfold smC at this
 simp only [and_eq_true, not_eq_true', decide_eq_false_iff_not] at this
 exact ⟨b46 this.1⟩
theorem b47 {α : Type} {l : List α} {i : Nat} (h : i < l.length) : l.set i l[i] = l := by simp
theorem ck1 {l : List (List aa1)} (h : l.length ≤ 1000000) : ab4 l = some l := by
 unfold ab4
 rw [af3 (by simp; omega) (by simp; omega)]; simp
theorem cb3 {l : List aa3} (h : l.length ≤ 1000000) : ab9 l = some l := by
 unfold ab9
 rw [af3 (by simp; omega) (by simp; omega)]; simp
theorem ap9 {a : aa2} (h : Lim a) : ag2 a = some a := by
 have h1 := h.keys
 have h2 := h.convs
 unfold ag2
 rw [ck1 (by omega), Option.bind_some]
 refine (ad1 a.Kz.length (fun (v : List (List aa1)) i => (i, v)) (fun s => az4 a a.Kz s.1 s.2) (fun _ _ => a) (fun _ v => v = a.Kz) (s0 := a.Kz) rfl ?_ ?_)
 ·rintro v i hi rfl
  left
  refine ⟨a.Kz, ?_, rfl, rfl⟩
  simp only [az4, dlt hi, if_true, aa6 hi, Option.bind_some, aM3 (h.key _ (getElem_mem hi)).le, Int.toNat_natCast, b47 hi]
  rw [ab0 (by omega)]
 ·rintro v rfl
  have : ab1 (fun s => aq3 a a.Kz a.Cz s.1 s.2) (0, a.Cz) = some a := by
   refine (ad1 a.Cz.length (fun (v : List aa3) i => (i, v)) (fun s => aq3 a a.Kz a.Cz s.1 s.2) (fun _ _ => a) (fun _ v => v = a.Cz) (s0 := a.Cz) rfl ?_ ?_)
   ·rintro v i hi rfl
    left
    refine ⟨a.Cz, ?_, rfl, rfl⟩
    simp only [aq3, dlt hi, if_true, aa6 hi, Option.bind_some, aM3 (h.conv _ (getElem_mem hi)).key.le, Int.toNat_natCast]
    rw [ab0 (by omega), show ({a.Cz[i] with Key := (a.Cz[i]).Key} : aa3) = a.Cz[i] from rfl, b47 hi]
   ·rintro v rfl
    simp [aq3]
  simp only [az4, dge, false_eq_true, if_false, aP0, cb3 (show a.Cz.length ≤ 1000000 by omega), Option.bind_some, this, Option.map_some]
theorem bQ0 {l : List aa1} (h : l.length ≤ 1000000) : at8 l l = some true := by
 unfold at8
 simp only [decide_true, Bool.not_true, false_eq_true, if_false]
 refine (bI6 l (fun _ => true) _ (fun i hi => ?_) ?_).trans (by simp)
 ·simp only [as2, dlt hi, if_true, aa6 hi, Option.bind_some, decide_true, Bool.and_self, Bool.not_true, false_eq_true, if_false]
  rw [ab0 (by omega)]
 ·simp [as2]
theorem bJ8 {c : aa3} (h : c.Key.length ≤ 1000000) : at9 c c = some true := by
 unfold at9
 simp [bQ0 h]
theorem bB0 {a : aa2} (h1 : a.Kz.length ≤ 1000000) (h2 : ∀ k ∈ a.Kz, k.length ≤ 1000000) (h3 : a.Cz.length ≤ 1000000) (h4 : ∀ c ∈ a.Cz, c.Key.length ≤ 1000000) : ag5 a a = some true := by
 have hC : ab1 (fun s => am7 a a s) 0 = some true := by
  refine (bI6 a.Cz (fun _ => true) _ (fun i hi => ?_) ?_).trans (by simp)
  ·simp only [am7, dlt hi, if_true, aa6 hi, Option.bind_some, bJ8 (h4 _ (getElem_mem hi)), Bool.not_true, false_eq_true, if_false]
   rw [ab0 (by omega)]
  ·simp [am7]
 unfold ag5
 simp only [decide_true, Bool.not_true, Bool.or_self, false_eq_true, if_false]
 refine (bw4 a.Kz (fun _ => true) false true _ (fun i hi => ?_) ?_).trans (by simp)
 ·simp only [as9, dlt hi, if_true, aa6 hi, Option.bind_some, bQ0 (h2 _ (getElem_mem hi)), Bool.not_true, false_eq_true, if_false]
  rw [ab0 (by omega)]
 ·simp [as9, hC]
theorem Lim.same {a : aa2} (h : Lim a) : ag5 a a = some true :=
 bB0 (by have := h.keys; omega) (fun k hk => (h.key k hk).le) (by have := h.convs; omega) (fun c hc => (h.conv c hc).key.le)
instance : DecidableEq aa1 := fun x y => decidable_of_iff (x.Mz = y.Mz ∧ x.Value = y.Value ∧ x.Qz = y.Qz) (by cases x; cases y; simp)
theorem ck2 {x y : aa1} : (!(decide (x.Mz = y.Mz) && (decide (x.Value = y.Value) && (decide (x.Qz = y.Qz) && true)))) = !decide (x = y) := by
 congr 1
 rw [Bool.eq_iff_iff]
 cases x; cases y; simp
theorem ck3 {a b : List aa1} (ha : a.length ≤ 1000000) : at8 a b = some (decide (a = b)) := by
 unfold at8
 by_cases hl : a.length = b.length
 ·simp only [hl, decide_true, Bool.not_true, false_eq_true, if_false]
  refine (ad1 a.length (fun (_ : Unit) i => i) (fun s => as2 a b s) (fun i _ => decide (a.drop i = b.drop i)) (fun _ _ => True) (s0 := ()) trivial ?_ ?_).trans (by simp)
  ·intro _ i hi _
   have hj : i < b.length := by omega
   simp only [as2, dlt hi, if_true, aa6 hi, aa6 hj, Option.bind_some, ck2]
   by_cases h : a[i] = b[i]
   ·left
    refine ⟨(), ?_, ?_, trivial⟩
    ·simp only [h, decide_true, Bool.not_true, false_eq_true, if_false]
     rw [ab0 (by omega)]
    ·rw [drop_eq_getElem_cons hi, drop_eq_getElem_cons hj, h, decide_eq_decide]
     exact ⟨fun e => (List.cons.inj e).2, fun e => by rw [e]⟩
   ·right
    rw [drop_eq_getElem_cons hi, drop_eq_getElem_cons hj]
    have hn : ¬ (a[i] :: drop (i + 1) a = b[i] :: drop (i + 1) b) := fun e => h (List.cons.inj e).1
    simp only [h, hn, decide_false, Bool.not_false, if_true]
  ·intro _ _
   simp [as2, hl]
 ·have h1 : ¬ ((List.length a : Int) = (List.length b : Int)) := by omega
  have h2 : ¬ (a = b) := fun h => hl (by rw [h])
  simp [h1, h2]
theorem cv7 {a b : List aa1} (ha : a.length ≤ 1000000) : ah7 a b = some (decide (a = b)) := by
 unfold ah7
 by_cases hl : a.length = b.length
 ·simp only [hl, decide_true, Bool.not_true, false_eq_true, if_false]
  refine (ad1 a.length (fun (_ : Unit) i => i) (fun s => ae5 a b s) (fun i _ => decide (a.drop i = b.drop i)) (fun _ _ => True) (s0 := ()) trivial ?_ ?_).trans (by simp)
  ·intro _ i hi _
   have hj : i < b.length := by omega
   simp only [ae5, dlt hi, if_true, aa6 hi, aa6 hj, Option.bind_some, ck2]
   by_cases h : a[i] = b[i]
   ·left
    refine ⟨(), ?_, ?_, trivial⟩
    ·simp only [h, decide_true, Bool.not_true, false_eq_true, if_false]
     rw [ab0 (by omega)]
    ·rw [drop_eq_getElem_cons hi, drop_eq_getElem_cons hj, h, decide_eq_decide]
     exact ⟨fun e => (List.cons.inj e).2, fun e => by rw [e]⟩
   ·right
    rw [drop_eq_getElem_cons hi, drop_eq_getElem_cons hj]
    have hn : ¬ (a[i] :: drop (i + 1) a = b[i] :: drop (i + 1) b) := fun e => h (List.cons.inj e).1
    simp only [h, hn, decide_false, Bool.not_false, if_true]
  ·intro _ _
   simp [ae5, hl]
 ·have h1 : ¬ ((List.length a : Int) = (List.length b : Int)) := by omega
  have h2 : ¬ (a = b) := fun h => hl (by rw [h])
  simp [h1, h2]
def pub (l : List aa1) : List aa1 := l.filter fun a => !ak4 a.Mz
theorem bW6 {l : List aa1} : (pub l).length ≤ l.length := List.length_filter_le _ _
theorem ck4 {l : List aa1} (h : Sh l) : Sh (pub l) := ⟨le_trans bW6 h.len, fun a ha => h.at_ a (List.mem_filter.1 ha).1⟩
theorem b48 {a b : List aa1} (ha : a.length ≤ 1000000) (hb : b.length ≤ 1000000) : aP1 a b = some (decide (pub a = pub b)) := by
 unfold aP1
 rw [bx4 ha, Option.bind_some, bx4 hb, Option.bind_some]
 have := @cv7 (pub a) (pub b) (le_trans bW6 ha)
 unfold pub at this
 rw [this]; rfl
theorem b49 {l : List (List aa1)} {p : List aa1} (hl : l.length ≤ 1000000) (h : ∀ k ∈ l, k.length ≤ 1000000) : aF3 l p = some (ixF (fun k => decide (pub k = p)) l 0) := by
 unfold aF3
 refine bw3 l _ _ (fun i hi => ?_) ?_
 ·have hk := h _ (getElem_mem hi)
  have := @ck3 (pub l[i]) p (le_trans bW6 hk)
  unfold pub at this
  simp only [aH0, dlt hi, if_true, aa6 hi, Option.bind_some, aS4 hk, this]
  rw [ab0 (by omega)]
  by_cases q : pub l[i] = p
  ·have q' := q; unfold pub at q'; simp [q, q']
  ·have q' := q; unfold pub at q'; simp [q, q']
 ·simp [aH0]
theorem ck5 {α : Type} (p : α → Bool) : ∀ l : List α, (l.all fun a => !p a) = !(l.any p)
 | [] => rfl
 | a :: r => by simp only [List.all_cons, List.any_cons, ck5 p r, Bool.not_or]
def a48 : Str := [117, 115, 101, 114]
def bQ1 : Str := [33, 115, 101, 99, 114, 101, 116]
def aG5 (n : Str) (l : List aa1) : Str := (aj4 n l).1
theorem bx5 {n : Str} : ∀ {l : List aa1}, (aj4 n l).2 = false → (aj4 n l).1 = []
 | [], _ => rfl
 | a :: r, h => by
  by_cases q : bp5 n a = true
  ·rw [bP8 q] at h; cases h
  ·rw [bE5 q] at h ⊢; exact bx5 h
def b50 (l : List aa1) : Bool := decide (aW5 l = 0) && (!(l.any fun a => a.Qz) && (decide (1 ≤ (List.length (aG5 a48 l) : Int)) && (decide ((List.length (aG5 a48 l) : Int) ≤ 32) && (decide (1 ≤ (List.length (aG5 bQ1 l) : Int)) && decide ((List.length (aG5 bQ1 l) : Int) ≤ 64)))))
theorem b51 {l : List aa1} (h : Sh l) : aF2 l = some (b50 l) := by
 have hl := h.le
 unfold aF2 b50
 rw [bc7 h.ok, Option.bind_some]
 by_cases hc : aW5 l = 0
 ·simp only [hc, decide_true, Bool.not_true, false_eq_true, if_false, Bool.true_and]
  have hA : aD1 l = some (decide (1 ≤ (List.length (aG5 a48 l) : Int)) && (decide ((List.length (aG5 a48 l) : Int) ≤ 32) && (decide (1 ≤ (List.length (aG5 bQ1 l) : Int)) && decide ((List.length (aG5 bQ1 l) : Int) ≤ 64)))) := by
   unfold aD1 ay6
   simp only [aN5 hl, Option.bind_some]
   rfl
  refine (bw4 l (fun a => !a.Qz) false (decide (1 ≤ (List.length (aG5 a48 l) : Int)) && (decide ((List.length (aG5 a48 l) : Int) ≤ 32) && (decide (1 ≤ (List.length (aG5 bQ1 l) : Int)) && decide ((List.length (aG5 bQ1 l) : Int) ≤ 64)))) _ (fun i hi => ?_) ?_).trans ?_
  ·simp only [aG9, dlt hi, if_true, aa6 hi, Option.bind_some]
   rw [ab0 (by omega)]
   cases l[i].Qz <;> rfl
  ·simp [aG9, hA]
  ·rw [ck5 (fun (a : aa1) => a.Qz) l]
   cases (l.any fun a => a.Qz) <;> rfl
 ·simp [hc]
theorem cA9 {l : List aa1} (h : Sh l) : a32 l = some (b50 l) := by
 have hl := h.le
 unfold a32 b50
 rw [br6 h.ok, Option.bind_some]
 by_cases hc : aW5 l = 0
 ·have hq : ac4 l = some (l.any fun a => a.Qz) := by
   unfold ac4
   have : ad9 l = some (bj0 (fun a => a.Qz) l) := by
    unfold ad9
    refine aZ4 hl (fun i hi => ?_) ?_
    ·simp only [ac3, dlt hi, if_true, aa6 hi, Option.bind_some, bc1]
    ·simp [ac3]
   rw [this, Option.bind_some, bJ0]
  simp only [hc, decide_true, Bool.not_true, false_eq_true, if_false, hq, Option.bind_some, Bool.true_and]
  cases hb : l.any fun a => a.Qz with
  | true => rfl
  | false =>
   simp only [false_eq_true, if_false, bl6 hl, Option.bind_some, Bool.not_false, Bool.true_and]
   congr 1
   have aux : ∀ (n : Str) (K : Int), ((aj4 n l).2 && ((!decide ((aj4 n l).1 = [])) && decide ((List.length (aj4 n l).1 : Int) ≤ K))) = (decide (1 ≤ (List.length (aG5 n l) : Int)) && decide ((List.length (aG5 n l) : Int) ≤ K)) := by
    intro n K
    unfold aG5
    cases hf : (aj4 n l).2 with
    | false => rw [bx5 hf]; rfl
    | true =>
     rw [Bool.true_and]
     congr 1
     cases (aj4 n l).1 with
     | nil => rfl
     | cons c r => simp; omega
   have h1 := aux a48 32
   have h2 := aux bQ1 64
   unfold a48 at h1
   unfold bQ1 at h2
   show _ = (decide (1 ≤ (List.length (aG5 [117, 115, 101, 114] l) : Int)) && (decide ((List.length (aG5 [117, 115, 101, 114] l) : Int) ≤ 32) && (decide (1 ≤ (List.length (aG5 [33, 115, 101, 99, 114, 101, 116] l) : Int)) && decide ((List.length (aG5 [33, 115, 101, 99, 114, 101, 116] l) : Int) ≤ 64))))
   rw [← Bool.and_assoc (decide (1 ≤ (List.length (aG5 [117, 115, 101, 114] l) : Int))), ← h1, ← h2]
   generalize (aj4 [117, 115, 101, 114] l) = U
   generalize (aj4 [33, 115, 101, 99, 114, 101, 116] l) = V
   cases U.2 <;> cases V.2 <;> simp [Bool.and_assoc]
 ·simp [hc]
def bE7 (s : Str) : Str := [UInt8.ofNat (s.length % 256), UInt8.ofNat (s.length / 256)] ++ s
theorem aM4 (s : Str) : (bE7 s).length = s.length + 2 := by simp [bE7]
theorem bc9 (z : Int) : wrap .u8 z = z % 256 := by simp [wrap, IntKind.bits, signed]
theorem cO6 {n : Nat} (h : n ≤ 65535) : a34 (n : Int) 2 = some ([UInt8.ofNat (n % 256), UInt8.ofNat (n / 256)], 0) := by
 have w16 : wrap .i64 (8 * 2) = 16 := by decide
 have s16 : bv0 .i64 (n : Int) 16 = some 0 := by
  unfold bv0
  rw [if_neg (by omega)]
  have : min (Int.toNat 16) (IntKind.bits .i64) = 16 := by decide
  rw [this]
  congr 1
  rw [Int.fdiv_eq_ediv_of_nonneg _ (by decide)]
  have : ((2 : Int) ^ 16) = 65536 := by decide
  rw [this]; omega
 have hm : mkC 1 (0 : Int) 2 2 = some [0, 0] := by decide
 have s0 : bv0 .i64 (n : Int) 0 = some (n : Int) := by
  unfold bv0
  rw [if_neg (by omega)]
  have : min (Int.toNat 0) (IntKind.bits .i64) = 0 := by decide
  rw [this]
  congr 1
  simp
 have s8 : bv0 .i64 (n : Int) 8 = some ((n / 256 : Nat) : Int) := by
  unfold bv0
  rw [if_neg (by omega)]
  have : min (Int.toNat 8) (IntKind.bits .i64) = 8 := by decide
  rw [this]
  congr 1
  rw [Int.fdiv_eq_ediv_of_nonneg _ (by decide)]
  have : ((2 : Int) ^ 8) = 256 := by decide
  rw [this]; omega
 have w0 : wrap .i64 (8 * 0) = 0 := by decide
 have w8 : wrap .i64 (8 * 1) = 8 := by decide
 have b1 : an8 (n : Int) [0, 0] 0 [0, 0] = some (.cont (1, [((n : Int) % 256), 0])) := by
  have q0 : wrap .i64 0 = 0 := by decide
  have q1 : wrap .i64 1 = 1 := by decide
  simp [an8, q0, q1, s0, ae2, bc9]
 have b2 : an8 (n : Int) [0, 0] 1 [((n : Int) % 256), 0] = some (.cont (2, [((n : Int) % 256), (((n / 256 : Nat) : Int) % 256)])) := by
  have q0 : wrap .i64 8 = 8 := by decide
  have q1 : wrap .i64 2 = 2 := by decide
  simp [an8, q0, q1, s8, ae2, bc9]
 have b3 : an8 (n : Int) [0, 0] 2 [((n : Int) % 256), (((n / 256 : Nat) : Int) % 256)] = some (.done ([UInt8.ofNat (n % 256), UInt8.ofNat (n / 256)], 0)) := by
  have e1 : Int.toNat ((n : Int) % 256) = n % 256 := by omega
  have e2 : Int.toNat (((n / 256 : Nat) : Int) % 256) = n / 256 := by omega
  simp only [an8, bI2, map_cons, List.map_nil, e1, e2]
  simp
 unfold a34
 have hn : ¬ ((n : Int) < 0) := by omega
 simp only [hn, decide_false, false_eq_true, if_false, show decide ((2 : Int) < 1) = false from by decide, show decide ((8 : Int) < 2) = false from by decide, show decide ((2 : Int) < 8) = true from by decide, Bool.or_self, if_true, w16, s16, Option.bind_some, show decide ((0 : Int) < 0) = false from by decide, hm]
 rw [ah2 (s' := (1, [((n : Int) % 256), 0])) b1, ah2 (s' := (2, [((n : Int) % 256), (((n / 256 : Nat) : Int) % 256)])) b2]
 exact ay1 b3
theorem aV9 {s : Str} (h : s.length ≤ 65535) : ar5 s = some (bE7 s) := by
 unfold ar5 aY0
 have h1 : ¬ ((65535 : Int) < (List.length s : Int)) := by omega
 simp only [h1, decide_false, false_eq_true, if_false, cO6 h, Option.bind_some]
 have : aj2 [UInt8.ofNat (List.length s % 256), UInt8.ofNat (List.length s / 256)] s = some (bE7 s) := by
  unfold aj2; rw [if_pos (by simp; omega)]; rfl
 rw [this]; rfl
theorem ck6 {n : Nat} (h : n ≤ 65535) : a39 (n : Int) 2 = some ([UInt8.ofNat (n % 256), UInt8.ofNat (n / 256)], 0) := by
 have q0 : wrap .i64 1 = 1 := by decide
 have q1 : wrap .i64 2 = 2 := by decide
 have m0 : tmod (n : Int) 256 = ((n % 256 : Nat) : Int) := by rw [Int.tmod_eq_emod_of_nonneg (by omega)]; omega
 have d0 : tdiv (n : Int) 256 = ((n / 256 : Nat) : Int) := by rw [Int.tdiv_eq_ediv_of_nonneg (by omega)]; omega
 have m1 : tmod ((n / 256 : Nat) : Int) 256 = ((n / 256 : Nat) : Int) := by rw [Int.tmod_eq_emod_of_nonneg (by omega)]; omega
 have d1 : tdiv ((n / 256 : Nat) : Int) 256 = 0 := by rw [Int.tdiv_eq_ediv_of_nonneg (by omega)]; omega
 have e1 : Int.toNat (wrap .u8 ((n % 256 : Nat) : Int)) = n % 256 := by rw [bc9]; omega
 have e2 : Int.toNat (wrap .u8 ((n / 256 : Nat) : Int)) = n / 256 := by rw [bc9]; omega
 have b1 : ao3 2 [] (n : Int) 0 = some (.cont ([UInt8.ofNat (n % 256)], ((n / 256 : Nat) : Int), 1)) := by
  have h0 : (0 : Int) ≤ (n : Int) := by omega
  have hw : wrap .i64 ((n / 256 : Nat) : Int) = ((n / 256 : Nat) : Int) := ab3 (by omega) (by omega)
  simp only [ao3, h0, decide_true, Bool.and_true, show decide ((0 : Int) < 2) = true from by decide, if_true, m0, d0, e1, hw]
  have : aj2 [] [UInt8.ofNat (n % 256)] = some [UInt8.ofNat (n % 256)] := rfl
  rw [this, Option.bind_some, show wrap .i64 (0 + 1) = 1 from by decide]
 have b2 : ao3 2 [UInt8.ofNat (n % 256)] ((n / 256 : Nat) : Int) 1 = some (.cont ([UInt8.ofNat (n % 256), UInt8.ofNat (n / 256)], 0, 2)) := by
  have h0 : (0 : Int) ≤ ((n / 256 : Nat) : Int) := by omega
  simp only [ao3, h0, decide_true, Bool.and_true, show decide ((1 : Int) < 2) = true from by decide, if_true, m1, d1, e2]
  have : aj2 [UInt8.ofNat (n % 256)] [UInt8.ofNat (n / 256)] = some [UInt8.ofNat (n % 256), UInt8.ofNat (n / 256)] := rfl
  rw [this, Option.bind_some, show wrap .i64 (1 + 1) = 2 from by decide, show wrap .i64 0 = 0 from by decide]
 have b3 : ao3 2 [UInt8.ofNat (n % 256), UInt8.ofNat (n / 256)] 0 2 = some (.done ([UInt8.ofNat (n % 256), UInt8.ofNat (n / 256)], 0)) := by
  simp [ao3, aY5]
 unfold a39 bc3
 simp only [Option.bind_some, show (!(decide ((1 : Int) ≤ 2) && decide ((2 : Int) ≤ 8))) = false from by decide, false_eq_true, if_false]
 rw [ah2 (s' := ([UInt8.ofNat (n % 256)], ((n / 256 : Nat) : Int), 1)) b1, ah2 (s' := ([UInt8.ofNat (n % 256), UInt8.ofNat (n / 256)], 0, 2)) b2]
 exact ay1 b3
theorem cB0 {s : Str} (h : s.length ≤ 65535) : aD9 s = some (bE7 s) := by
 unfold aD9 aY6
 have : aj2 [UInt8.ofNat (List.length s % 256), UInt8.ofNat (List.length s / 256)] s = some (bE7 s) := by
  unfold aj2; rw [if_pos (by simp; omega)]; rfl
 simp only [ck6 h, Option.bind_some, decide_true, Bool.not_true, false_eq_true, if_false, this]
def ai4 : Str := [99, 104, 97, 108]
def aE3 : Str := [109, 117, 116, 117, 97, 108]
def ap7 : Str := [112, 108, 97, 105, 110]
def aQ9 (p : Str) : Int := if p = ai4 then 3 else if p = aE3 then 3 else if p = ap7 then 2 else 0
def bo5 (p : Str) : Int := if p = ai4 then 2 else 1
def aR0 (p : Str) (role n : Int) : Bool := decide ((decide (tmod n 2 = 0)) = decide (role = bo5 p))
def phS (c : aa3) : Int := if c.Step = aQ9 c.Pz then 3 else if aR0 c.Pz c.Rz c.Step = true then 1 else 2
theorem bd0 (p : Str) : ah8 p = some (aQ9 p) := by
 unfold ah8 ay7 aQ9 ai4 aE3 ap7
 by_cases h1 : p = [99, 104, 97, 108]
 ·simp [h1]
 ·by_cases h2 : p = [109, 117, 116, 117, 97, 108]
  ·simp [h2]
  ·by_cases h3 : p = [112, 108, 97, 105, 110]
   ·simp [h3]
   ·simp [h1, h2, h3]
theorem cv8 (p : Str) : aX7 p = some (bo5 p) := by
 unfold aX7 bo5 ai4
 by_cases h1 : p = [99, 104, 97, 108] <;> simp [h1]
theorem b52 (p : Str) (role n : Int) : aU6 p role n = some (aR0 p role n) := by
 unfold aU6 aL8 aR0 bo5 ai4
 by_cases h1 : p = [99, 104, 97, 108] <;> simp [h1]
theorem bx6 (c : aa3) : aO8 c = some (phS c) := by
 unfold aO8 phS
 rw [bd0, Option.bind_some]
 by_cases h : c.Step = aQ9 c.Pz
 ·simp [h]
 ·simp only [h, decide_false, false_eq_true, if_false, cv8, Option.bind_some]
  unfold aR0
  cases decide (decide (tmod c.Step 2 = 0) = decide (c.Rz = bo5 c.Pz)) <;> rfl
def ag9 (p : Str) : Bool := decide (p = ai4) || (decide (p = aE3) || decide (p = ap7))
theorem bx7 {p : Str} (h : ag9 p = true) : aP5 p = some (aQ9 p) := by
 unfold ag9 at h
 simp only [or_eq_true, decide_eq_true_eq] at h
 rcases h with rfl | rfl | rfl <;> rfl
theorem cv9 {c : aa3} (h : ag9 c.Pz = true) : aU7 c = some (phS c) := by
 unfold aU7 phS
 rw [bx7 h, Option.bind_some]
 by_cases h2 : c.Step = aQ9 c.Pz
 ·simp [h2]
 ·simp only [h2, decide_false, false_eq_true, if_false, b52, Option.bind_some]
  cases aR0 c.Pz c.Rz c.Step <;> rfl
theorem bo6 (p : Str) : decide (aQ9 p = 0) = !ag9 p := by
 unfold aQ9 ag9
 by_cases h1 : p = ai4
 ·simp [h1]
 ·by_cases h2 : p = aE3
  ·simp [h2]
  ·by_cases h3 : p = ap7
   ·subst h3; decide
   ·simp [h1, h2, h3]
theorem bh7 (p : Str) : ag4 [[99, 104, 97, 108], [109, 117, 116, 117, 97, 108], [112, 108, 97, 105, 110]] p = some (ag9 p) := by
 unfold ag4 an2
 have : ab1 (fun s => ag3 [[99, 104, 97, 108], [109, 117, 116, 117, 97, 108], [112, 108, 97, 105, 110]] p s) 0 = some (ixF (fun x => decide (p = x)) [ai4, aE3, ap7] 0) := by
  refine bw3 [ai4, aE3, ap7] _ _ (fun i hi => ?_) ?_
  ·have hi' : i < [([99, 104, 97, 108] : Str), [109, 117, 116, 117, 97, 108], [112, 108, 97, 105, 110]].length := hi
   have hi3 : i < 3 := hi
   simp only [ag3, dlt hi', if_true, aa6 hi', Option.bind_some]
   rw [ab0 (by omega)]
   show (if decide (p = [ai4, aE3, ap7][i]) = true then _ else _) = _
   cases decide (p = [ai4, aE3, ap7][i]) <;> rfl
  ·simp [ag3]
 rw [this, Option.bind_some]
 unfold ag9
 by_cases h1 : p = ai4
 ·simp [ixF, h1]
 ·by_cases h2 : p = aE3
  ·have : ¬ (aE3 = ai4) := by decide
   simp [ixF, h2, this]
  ·by_cases h3 : p = ap7
   ·have e1 : ¬ (ap7 = ai4) := by decide
    have e2 : ¬ (ap7 = aE3) := by decide
    simp [ixF, h3, e1, e2]
   ·simp [ixF, h1, h2, h3]
variable {c : aa3}
def usr (c : aa3) : Str := aG5 a48 c.Key
def sec (c : aa3) : Str := aG5 bQ1 c.Key
def bh8 (l : List aa1) : Bool := (decide (1 ≤ (List.length (aG5 a48 l) : Int)) && (decide ((List.length (aG5 a48 l) : Int) ≤ 32) && (decide (1 ≤ (List.length (aG5 bQ1 l) : Int)) && decide ((List.length (aG5 bQ1 l) : Int) ≤ 64))))
theorem bh9 {t : aa4} {n : Str} (h : t.Conv.Key.length ≤ 1000000) : ad7 t n = some (aG5 n t.Conv.Key) := by
 unfold ad7 aG5
 rw [bl6 h]; rfl
theorem a49 {l : List aa1} (h : l.length ≤ 1000000) : ak6 l = some (aG5 a48 l) := by
 unfold ak6 aG5 a48
 rw [aN5 h]; rfl
theorem bx8 {l : List aa1} (h : l.length ≤ 1000000) : au0 l = some (aG5 bQ1 l) := by
 unfold au0 aG5 bQ1
 rw [aN5 h]; rfl
theorem bx9 {l : List aa1} (hl : l.length ≤ 1000000) : aN0 l = some (bh8 l) := by
 unfold aN0
 simp only [bl6 hl, Option.bind_some]
 congr 1
 have aux : ∀ (n : Str) (K : Int), ((aj4 n l).2 && (decide (1 ≤ (List.length (aj4 n l).1 : Int)) && decide ((List.length (aj4 n l).1 : Int) ≤ K))) = (decide (1 ≤ (List.length (aG5 n l) : Int)) && decide ((List.length (aG5 n l) : Int) ≤ K)) := by
  intro n K
  unfold aG5
  cases hf : (aj4 n l).2 with
  | false => rw [bx5 hf]; rfl
  | true => rw [Bool.true_and]
 have h1 := aux a48 32
 have h2 := aux bQ1 64
 unfold a48 at h1
 unfold bQ1 at h2
 show _ = (decide (1 ≤ (List.length (aG5 [117, 115, 101, 114] l) : Int)) && (decide ((List.length (aG5 [117, 115, 101, 114] l) : Int) ≤ 32) && (decide (1 ≤ (List.length (aG5 [33, 115, 101, 99, 114, 101, 116] l) : Int)) && decide ((List.length (aG5 [33, 115, 101, 99, 114, 101, 116] l) : Int) ≤ 64))))
 rw [← Bool.and_assoc (decide (1 ≤ (List.length (aG5 [117, 115, 101, 114] l) : Int))), ← h1, ← h2]
 generalize (aj4 [117, 115, 101, 114] l) = U
 generalize (aj4 [33, 115, 101, 99, 114, 101, 116] l) = V
 cases U.2 <;> cases V.2 <;> simp [Bool.and_assoc]
def by0 (l : List aa1) : Bool := decide (aW5 l = 0) && bh8 l
theorem by1 {l : List aa1} (h : Sh l) : ∃ e, ak7 l = some e ∧ decide (e = 0) = by0 l ∧ (e = 0 ∨ e = aW5 l ∧ aW5 l ≠ 0 ∨ e = 52 ∧ aW5 l = 0) := by
 unfold ak7 by0
 rw [bc7 h.ok, Option.bind_some]
 by_cases hc : aW5 l = 0
 ·simp only [hc, decide_true, Bool.not_true, false_eq_true, if_false, a49 h.le, bx8 h.le, Option.bind_some, Bool.true_and]
  have e : ((decide ((List.length (aG5 a48 l) : Int) < 1)) || ((decide (32 < (List.length (aG5 a48 l) : Int))) || ((decide ((List.length (aG5 bQ1 l) : Int) < 1)) || (decide (64 < (List.length (aG5 bQ1 l) : Int)))))) = !bh8 l := by
   unfold bh8
   rw [Bool.eq_iff_iff]
   simp only [or_eq_true, decide_eq_true_eq, not_eq_true', and_eq_false_iff, decide_eq_false_iff_not]
   omega
  rw [e]
  cases bh8 l with
  | true => exact ⟨0, rfl, rfl, .inl rfl⟩
  | false => exact ⟨52, rfl, rfl, .inr (.inr ⟨rfl, trivial⟩)⟩
 ·refine ⟨aW5 l, by simp [hc], by simp [hc], .inr (.inl ⟨rfl, hc⟩)⟩
def by2 (c : aa3) : aa3 := {c with Hz := phS c, Uz := if phS c = 3 then usr c else []}
theorem a86 (hp : ag9 c.Pz = true) (hk : c.Key.length ≤ 1000000) : an9 c = some (by2 c) := by
 unfold an9 by2
 rw [aM3 hk, Option.bind_some]
 have h1 : aU7 {c with Key := c.Key} = some (phS c) := cv9 hp
 rw [h1, Option.bind_some]
 by_cases h : phS c = 3
 ·have hv : ad7 (aa4.mk {c with Hz := phS c, Key := c.Key, Uz := []}) [117, 115, 101, 114] = some (usr c) := bh9 hk
  simp only [h, decide_true, if_true] at hv ⊢
  rw [hv]; rfl
 ·simp [h]
def bp6 (c : aa3) (n : Int) : Int := if c.Pz = ai4 ∧ n = 0 then 0 else if c.Pz = aE3 ∧ n = 1 then 0 else if c.Pz = aE3 ∧ n = 0 then ((usr c).length : Int) + 2 else -1
theorem bl9 {n : Int} (hk : c.Key.length ≤ 1000000) (hu : (usr c).length ≤ 65535) : aB6 c n = some (bp6 c n) := by
 have hv : ad7 (aa4.mk c) [117, 115, 101, 114] = some (usr c) := bh9 hk
 have hK : ∀ (n : Int) (b : Bool), aw9 c n b = some (if b = true then 0 else if c.Pz = aE3 ∧ n = 0 then ((usr c).length : Int) + 2 else -1) := by
  intro n b
  unfold aw9
  cases b with
  | true => rfl
  | false =>
   by_cases h : c.Pz = aE3 ∧ n = 0
   ·have h' := h.1; unfold aE3 at h'
    simp only [false_eq_true, if_false, h', h.2, decide_true, Bool.and_self, if_true, hv, Option.bind_some, aV9 hu, aM4]
    simp [aE3]
   ·have : (decide (c.Pz = [109, 117, 116, 117, 97, 108]) && decide (n = 0)) = false := by
     rw [and_eq_false_iff, decide_eq_false_iff_not, decide_eq_false_iff_not]
     rcases Classical.not_and_iff_not_or_not.1 h with h | h
     ·exact .inl h
     ·exact .inr h
    simp only [this, false_eq_true, if_false, h]
 unfold aB6 bp6
 by_cases h1 : c.Pz = ai4 ∧ n = 0
 ·have h' := h1.1; unfold ai4 at h'
  simp only [h', h1.2, decide_true, Bool.and_self, if_true, hK]
  simp [ai4]
 ·have : (decide (c.Pz = [99, 104, 97, 108]) && decide (n = 0)) = false := by
   rw [and_eq_false_iff, decide_eq_false_iff_not, decide_eq_false_iff_not]
   rcases Classical.not_and_iff_not_or_not.1 h1 with h | h
   ·exact .inl h
   ·exact .inr h
  simp only [this, false_eq_true, if_false, h1, hK]
  congr 1
  by_cases h2 : c.Pz = aE3 ∧ n = 1
  ·have h' := h2.1; unfold aE3 at h'
   simp only [h', h2.2, decide_true, Bool.and_self, if_true]
   simp [aE3]
  ·have : (decide (c.Pz = [109, 117, 116, 117, 97, 108]) && decide (n = 1)) = false := by
    rw [and_eq_false_iff, decide_eq_false_iff_not, decide_eq_false_iff_not]
    rcases Classical.not_and_iff_not_or_not.1 h2 with h | h
    ·exact .inl h
    ·exact .inr h
   simp only [this, false_eq_true, if_false, h2]
def kb (c : aa3) (n : Int) : Bool := decide (0 ≤ bp6 c n) && !aR0 c.Pz c.Rz n
theorem bE8 {n : Nat} (hn : n ≤ 3) (hk : c.Key.length ≤ 1000000) (hu : (usr c).length ≤ 65535) : aD6 c n = some (if (n : Int) < c.Step then (if kb c n = true then .done true else .cont ((n : Int) + 1)) else .done false) := by
 unfold aD6
 by_cases h : (n : Int) < c.Step
 ·simp only [h, decide_true, if_true, bl9 hk hu, Option.bind_some, b52]
  unfold kb
  rw [ab0 (by omega)]
  by_cases q : 0 ≤ bp6 c n
  ·simp only [q, decide_true, if_true, Option.bind_some, Bool.true_and]
   cases aR0 c.Pz c.Rz n <;> rfl
  ·simp [q]
 ·simp [h]
def bo7 (c : aa3) : Bool := (decide (0 < c.Step) && kb c 0) || ((decide (1 < c.Step) && kb c 1) || (decide (2 < c.Step) && kb c 2))
theorem cw0 (h0 : 0 ≤ c.Step) (h3 : c.Step ≤ 3) (hk : c.Key.length ≤ 1000000) (hu : (usr c).length ≤ 65535) : aV0 c = some (bo7 c) := by
 unfold aV0
 refine (ad1 3 (fun (_ : Unit) i => i) (fun s => aD6 c s) (fun i _ => match i with
   | 0 => bo7 c
   | 1 => (decide (1 < c.Step) && kb c 1) || (decide (2 < c.Step) && kb c 2)
   | 2 => decide (2 < c.Step) && kb c 2
   | _ => false) (fun i _ => (i : Int) ≤ 3) (s0 := ()) (by omega) ?_ ?_)
 ·intro _ i hi _
  rw [bE8 (by omega) hk hu]
  have hc : i = 0 ∨ i = 1 ∨ i = 2 := by omega
  by_cases hs : (i : Int) < c.Step
  ·simp only [hs, if_true]
   rcases hc with rfl | rfl | rfl
   ·have hs' : (0 : Int) < c.Step := hs
    have e : kb c ((0 : Nat) : Int) = kb c 0 := rfl
    cases hb : kb c 0 with
    | true =>
     right
     first | rw [e, hb] | skip
     simp [bo7, hs', hb]
    | false =>
     left
     first | rw [e, hb] | skip
     exact ⟨(), rfl, by simp [bo7, hs', hb], by omega⟩
   ·have hs' : (1 : Int) < c.Step := hs
    have e : kb c ((1 : Nat) : Int) = kb c 1 := rfl
    cases hb : kb c 1 with
    | true =>
     right
     first | rw [e, hb] | skip
     simp [hs', hb]
    | false =>
     left
     first | rw [e, hb] | skip
     exact ⟨(), rfl, by simp [hs', hb], by omega⟩
   ·have hs' : (2 : Int) < c.Step := hs
    have e : kb c ((2 : Nat) : Int) = kb c 2 := rfl
    cases hb : kb c 2 with
    | true =>
     right
     first | rw [e, hb] | skip
     simp [hs', hb]
    | false =>
     left
     first | rw [e, hb] | skip
     exact ⟨(), rfl, by simp [hs', hb], by omega⟩
  ·right
   simp only [hs, if_false]
   rcases hc with rfl | rfl | rfl
   ·have a1 : ¬ (0 : Int) < c.Step := hs
    have a2 : ¬ (1 : Int) < c.Step := by omega
    have a3 : ¬ (2 : Int) < c.Step := by omega
    simp [bo7, a1, a2, a3]
   ·have a2 : ¬ (1 : Int) < c.Step := hs
    have a3 : ¬ (2 : Int) < c.Step := by omega
    simp [a2, a3]
   ·have a3 : ¬ (2 : Int) < c.Step := hs
    simp [a3]
 ·intro _ _
  rw [bE8 (n := 3) (by omega) hk hu]
  have : ¬ ((3 : Nat) : Int) < c.Step := by omega
  simp only [this, if_false]
def at5 (c : aa3) : Bool := if c.Pz = ai4 then (decide (c.Rz = 1) && decide (0 < c.Step)) else if c.Pz = aE3 ∧ c.Rz = 2 then decide (0 < c.Step) else (decide (c.Pz = aE3) && decide (1 < c.Step))
theorem bd1 (c : aa3) : aw0 c = some (at5 c) := by
 unfold aw0 at5 ai4 aE3
 by_cases h1 : c.Pz = [99, 104, 97, 108]
 ·simp [h1]
 ·by_cases h2 : c.Pz = [109, 117, 116, 117, 97, 108] ∧ c.Rz = 2
  ·simp [h2.1, h2.2]
  ·have : (decide (c.Pz = [109, 117, 116, 117, 97, 108]) && decide (c.Rz = 2)) = false := by
    rw [and_eq_false_iff, decide_eq_false_iff_not, decide_eq_false_iff_not]
    rcases Classical.not_and_iff_not_or_not.1 h2 with h | h
    ·exact .inl h
    ·exact .inr h
   simp only [h1, decide_false, false_eq_true, if_false, this, h2]
theorem by3 (hp : ag9 c.Pz = true) (hr : c.Rz = 1 ∨ c.Rz = 2) : bo7 c = at5 c := by
 unfold ag9 at hp
 simp only [or_eq_true, decide_eq_true_eq] at hp
 have n0 : ¬ (ai4 = aE3) := by decide
 have n1 : ¬ (aE3 = ai4) := by decide
 have n2 : ¬ (ap7 = ai4) := by decide
 have n3 : ¬ (ap7 = aE3) := by decide
 have hu : (0 : Int) ≤ ((usr c).length : Int) + 2 := by omega
 have d : tmod 0 2 = 0 ∧ tmod 1 2 = 1 ∧ tmod 2 2 = 0 := by decide
 rcases hp with h | h | h <;> rcases hr with r | r <;> simp [bo7, at5, kb, bp6, aR0, bo5, h, r, n0, n1, n2, n3, hu, d]
variable {c : aa3} {a : aa2}
def bo8 (c : aa3) : Bool := !decide (c.Id < 0) && (!decide (1048575 < c.Id) && (ag9 c.Pz && ((decide (c.Rz = 1) || decide (c.Rz = 2)) && (by0 c.Key && (decide ((List.length c.Own : Int) = 32) && (!decide (c.Step < 0) && !decide (aQ9 c.Pz < c.Step)))))))
def bd2 (c : aa3) : Bool := decide (c.Hz = 4) && decide (phS c = 2)
def stB (c : aa3) : Bool := (bd2 c || decide (c.Hz = phS c)) && (decide (c.Uz = if phS c = 3 then usr c else []) && decide (c.Err = if bd2 c = true then 28 else 0))
def a50 (c : aa3) : Bool := if at5 c = true then decide ((List.length c.Ez : Int) = 32) else decide (c.Ez = [])
def af9 (c : aa3) : Bool := bo8 c && (stB c && a50 c)
theorem by4 (p : Str) : aQ9 p ≤ 3 := by
 unfold aQ9
 split
 ·omega
 ·split
  ·omega
  ·split <;> omega
theorem b53 {c : aa3} (h : by0 c.Key = true) : (usr c).length ≤ 32 ∧ 1 ≤ (usr c).length ∧ (sec c).length ≤ 64 ∧ 1 ≤ (sec c).length := by
 unfold by0 bh8 at h
 simp only [and_eq_true, decide_eq_true_eq] at h
 unfold usr sec
 omega
theorem bQ2 (hk : Sh c.Key) : aN1 c = some (af9 c) := by
 have hl := hk.le
 unfold aN1 af9
 by_cases h1 : c.Id < 0
 ·simp [h1, bo8]
 by_cases h2 : 1048575 < c.Id
 ·simp [h1, h2, bo8]
 by_cases h3 : ag9 c.Pz = true
 case neg =>
  rw [not_eq_true] at h3
  simp [h1, h2, h3, bo8, as3, bh7]
 by_cases h4 : c.Rz = 1 ∨ c.Rz = 2
 case neg =>
  have r1 : ¬ c.Rz = 1 := fun h => h4 (.inl h)
  have r2 : ¬ c.Rz = 2 := fun h => h4 (.inr h)
  simp [h1, h2, h3, r1, r2, bo8, as3, bh7]
 have e4 : (if (!decide (c.Rz = 1)) = true then some (!decide (c.Rz = 2)) else some false) = some false := by
  rcases h4 with h | h <;> simp [h]
 simp only [h1, h2, decide_false, false_eq_true, if_false, as3, Option.bind_some, bh7, h3, Bool.not_true, e4, br6 hk.ok]
 by_cases h5 : by0 c.Key = true
 case neg =>
  rw [not_eq_true] at h5
  have : (if (!decide (aW5 c.Key = 0)) = true then some true else (aN0 c.Key).bind fun x11 => if (!x11) = true then some true else if (!decide ((List.length c.Own : Int) = 32)) = true then some true else if decide (c.Step < 0) = true then some true else (aP5 c.Pz).bind fun x15 => some (decide (x15 < c.Step))) = some true := by
   unfold by0 at h5
   by_cases hc : aW5 c.Key = 0
   ·simp only [hc, decide_true, Bool.true_and] at h5
    simp [hc, bx9 hl, h5]
   ·simp [hc]
  simp only [this, Option.bind_some, if_true]
  simp [bo8, h5]
 have h5' := h5
 unfold by0 at h5'
 simp only [and_eq_true, decide_eq_true_eq] at h5'
 simp only [h5'.1, decide_true, Bool.not_true, false_eq_true, if_false, bx9 hl, h5'.2, Option.bind_some]
 by_cases h6 : (List.length c.Own : Int) = 32
 case neg => simp [h6, bo8]
 by_cases h7 : c.Step < 0
 ·simp [h6, h7, bo8]
 by_cases h8 : aQ9 c.Pz < c.Step
 ·simp [h6, h7, h8, bo8, bx7 h3]
 simp only [h6, h7, h8, decide_true, decide_false, Bool.not_true, false_eq_true, if_false, bx7 h3, Option.bind_some, a86 h3 hl]
 have hpre : bo8 c = true := by
  have e4' : (decide (c.Rz = 1) || decide (c.Rz = 2)) = true := by simpa using h4
  simp [bo8, h1, h2, h3, e4', h5, h6, h7, h8]
 have hm := by4 c.Pz
 obtain ⟨u1, _⟩ := b53 h5
 rw [hpre, Bool.true_and]
 have eK : aV0 c = some (at5 c) := by rw [cw0 (by omega) (by omega) hl (by omega), by3 h3 h4]
 have eP : (by2 c).Hz = phS c := rfl
 have eU : (by2 c).Uz = if phS c = 3 then usr c else [] := rfl
 rw [eP, eU, eK]
 have eF : (decide (c.Hz = 4) && decide (phS c = 2)) = bd2 c := rfl
 rw [eF]
 have key : (if (!bd2 c) = true then if (!decide (c.Hz = phS c)) = true then some true else if (!decide (c.Uz = if phS c = 3 then usr c else [])) = true then some true else if (!decide (bd2 c = decide (c.Err = 28))) = true then some true else some (!decide (c.Err = 0)) else if (!decide (c.Uz = if phS c = 3 then usr c else [])) = true then some true else if (!decide (bd2 c = decide (c.Err = 28))) = true then some true else some false) = some (!stB c) := by
  unfold stB
  generalize (if phS c = 3 then usr c else []) = X
  cases hf : bd2 c with
  | true =>
   by_cases q : c.Uz = X
   ·by_cases e : c.Err = 28
    ·simp [q, e]
    ·simp [q, e]
   ·simp [q]
  | false =>
   by_cases p : c.Hz = phS c
   ·by_cases q : c.Uz = X
    ·by_cases e : c.Err = 28
     ·simp [p, q, e]
     ·by_cases z : c.Err = 0
      ·simp [p, q, z]
      ·simp [p, q, e, z]
    ·simp [p, q]
   ·simp [p]
 rw [key, Option.bind_some]
 unfold a50
 cases stB c with
 | false => simp
 | true => simp only [Bool.not_true, false_eq_true, if_false, Option.bind_some, Bool.true_and]; cases at5 c <;> rfl
theorem bW7 (hk : Sh c.Key) : aA7 c = some (af9 c) := by
 have hl := hk.le
 obtain ⟨e, he, hd, _⟩ := by1 hk
 unfold aA7
 have hpre : (if decide (c.Id < 0) = true then some true else if decide (1048575 < c.Id) = true then some true else (ah8 c.Pz).bind fun x3 => if decide (x3 = 0) = true then some true else if (!decide (c.Rz = 1)) = true then if (!decide (c.Rz = 2)) = true then some true else if (!decide ((List.length c.Own : Int) = 32)) = true then some true else if decide (c.Step < 0) = true then some true else (ah8 c.Pz).bind fun x9 => if decide (x9 < c.Step) = true then some true else (ak7 c.Key).bind fun x11 => some (!decide (x11 = 0)) else if (!decide ((List.length c.Own : Int) = 32)) = true then some true else if decide (c.Step < 0) = true then some true else (ah8 c.Pz).bind fun x14 => if decide (x14 < c.Step) = true then some true else (ak7 c.Key).bind fun x16 => some (!decide (x16 = 0))) = some (!bo8 c) := by
  simp only [bd0, Option.bind_some, bo6, he, hd]
  unfold bo8
  by_cases h1 : c.Id < 0
  ·simp [h1]
  by_cases h2 : 1048575 < c.Id
  ·simp [h1, h2]
  by_cases h3 : ag9 c.Pz = true
  case neg => rw [not_eq_true] at h3; simp [h1, h2, h3]
  by_cases h6 : (List.length c.Own : Int) = 32
  case neg =>
   by_cases r1 : c.Rz = 1
   ·simp [h1, h2, h3, h6, r1]
   ·by_cases r2 : c.Rz = 2
    ·simp [h1, h2, h3, h6, r1, r2]
    ·simp [h1, h2, h3, h6, r1, r2]
  by_cases h7 : c.Step < 0
  ·by_cases r1 : c.Rz = 1
   ·simp [h1, h2, h3, h6, h7, r1]
   ·by_cases r2 : c.Rz = 2
    ·simp [h1, h2, h3, h6, h7, r1, r2]
    ·simp [h1, h2, h3, h6, h7, r1, r2]
  by_cases h8 : aQ9 c.Pz < c.Step
  ·by_cases r1 : c.Rz = 1
   ·simp [h1, h2, h3, h6, h7, h8, r1]
   ·by_cases r2 : c.Rz = 2
    ·simp [h1, h2, h3, h6, h7, h8, r1, r2]
    ·simp [h1, h2, h3, h6, h7, h8, r1, r2]
  by_cases r1 : c.Rz = 1
  ·simp [h1, h2, h3, h6, h7, h8, r1]
  ·by_cases r2 : c.Rz = 2
   ·simp [h1, h2, h3, h6, h7, h8, r1, r2]
   ·simp [h1, h2, h3, h6, h7, h8, r1, r2]
 rw [hpre, Option.bind_some]
 unfold af9
 cases bo8 c with
 | false => rfl
 | true =>
  simp only [Bool.not_true, false_eq_true, if_false, bd1, Option.bind_some, Bool.true_and]
  have hP : (if at5 c = true then if (!decide ((List.length c.Ez : Int) = 32)) = true then some true else if (!at5 c) = true then some (!decide (c.Ez = [])) else some false else if (!at5 c) = true then some (!decide (c.Ez = [])) else some false) = some (!a50 c) := by
   unfold a50
   cases at5 c with
   | true => by_cases q : (List.length c.Ez : Int) = 32 <;> simp [q]
   | false => simp
  rw [hP, Option.bind_some]
  cases a50 c with
  | false => simp
  | true =>
   simp only [Bool.not_true, false_eq_true, if_false, bx6, Option.bind_some, Bool.and_true]
   have hK : ∀ p e : Int, aw1 c p e = some (decide (c.Hz = p) && (decide (c.Uz = if p = 3 then usr c else []) && decide (c.Err = e))) := by
    intro p e
    unfold aw1
    by_cases h : p = 3
    ·simp only [h, decide_true, if_true, a49 hl, Option.bind_some]; rfl
    ·simp only [h, decide_false, false_eq_true, if_false]; rfl
   rw [hK, hK]
   unfold stB bd2
   by_cases p : phS c = 2
   ·by_cases q : c.Hz = 4
    ·simp [p, q]
    ·simp [p, q]
   ·simp [p]
def ao7 (c : aa3) : Bool := (decide (c.Pz = [])) && ((decide (c.Rz = 0)) && ((decide (c.Hz = 0)) && ((decide (c.Step = 0)) && ((decide (c.Key = [])) && ((decide (c.Own = [])) && ((decide (c.Ez = [])) && ((decide (c.Uz = [])) && (decide (c.Err = 0)))))))))
theorem bJ9 (c : aa3) : aw8 c = some (ao7 c) := by
 unfold aw8 ao7
 have : decide ((List.length c.Key : Int) = 0) = decide (c.Key = []) := by
  rw [decide_eq_decide]
  constructor
  ·intro h; exact List.eq_nil_of_length_eq_zero (by omega)
  ·intro h; rw [h]; rfl
 rw [this]
theorem bd3 (h : c.Key.length ≤ 1000000) : av9 c = some (ao7 c) := by
 unfold av9 at9 ao7
 simp only [ck3 h, Option.bind_some, decide_true, if_true]
 by_cases h1 : c.Pz = []
 case neg => simp [h1]
 by_cases h2 : c.Rz = 0
 case neg => simp [h1, h2]
 by_cases h3 : c.Hz = 0
 case neg => simp [h1, h2, h3]
 by_cases h4 : c.Step = 0
 case neg => simp [h1, h2, h3, h4]
 by_cases h5 : c.Key = []
 case neg => simp [h1, h2, h3, h4, h5]
 by_cases h6 : c.Own = []
 case neg => simp [h1, h2, h3, h4, h5, h6]
 by_cases h7 : c.Ez = []
 case neg => simp [h1, h2, h3, h4, h5, h6, h7]
 by_cases h8 : c.Uz = []
 case neg => simp [h1, h2, h3, h4, h5, h6, h7, h8]
 simp [h1, h2, h3, h4, h5, h6, h7, h8]
def bW8 (l : List (List aa1)) (i : Nat) (k : List aa1) : Bool := b50 k && !((l.take i).any fun o => decide (pub o = pub k))
theorem ck7 {l : List (List aa1)} {k : List aa1} (hl : l.length ≤ 1000000) (h : ∀ o ∈ l, o.length ≤ 1000000) (hk : k.length ≤ 1000000) : ad6 l k = some (l.any fun o => decide (pub o = pub k)) := by
 unfold ad6
 have : ae9 l k = some (bj0 (fun o => decide (pub o = pub k)) l) := by
  unfold ae9
  refine aZ4 hl (fun i hi => ?_) ?_
  ·simp only [ad5, dlt hi, if_true, aa6 hi, Option.bind_some, a36, b48 (h _ (getElem_mem hi)) hk]
  ·simp [ad5]
 rw [this, Option.bind_some, bJ0]
theorem cG1 (h : Lim a) : aU9 a = some (bA0 (bW8 a.Kz) 0 a.Kz && decide ((List.length a.Kz : Int) ≤ 64)) := by
 have h1 := h.keys
 unfold aU9
 refine (bf9 a.Kz (bW8 a.Kz) false (decide ((List.length a.Kz : Int) ≤ 64)) _ (fun i hi => ?_) ?_).trans ?_
 ·have hk := h.key _ (getElem_mem hi)
  have hc : cut a.Kz 0 (i : Int) = some (a.Kz.take i) := aO5 (by omega)
  simp only [aH5, dlt hi, if_true, aa6 hi, Option.bind_some, cA9 hk, hc, ck7 (show (a.Kz.take i).length ≤ 1000000 by simp; omega) (fun o ho => (h.key o (List.mem_of_mem_take ho)).le) hk.le]
  rw [ab0 (by omega)]
  unfold bW8
  cases b50 a.Kz[i] <;> cases ((a.Kz.take i).any fun o => decide (pub o = pub a.Kz[i])) <;> rfl
 ·simp [aH5]
 ·cases bA0 (bW8 a.Kz) 0 a.Kz <;> rfl
theorem ck8 {l : List (List aa1)} {i : Nat} (hi : i < l.length) : decide (ixF (fun k => decide (pub k = pub l[i])) l 0 = (i : Int)) = !((l.take i).any fun o => decide (pub o = pub l[i])) := by
 rw [Bool.eq_iff_iff]
 simp only [decide_eq_true_eq, not_eq_true', List.any_eq_false]
 rcases bf7 (fun k => decide (pub k = pub l[i])) l 0 with ⟨h1, h2⟩ | ⟨x, k, y, h1, h2, h3, h4⟩
 ·have := h1 _ (getElem_mem hi)
  simp at this
 ·rw [h4]
  constructor
  ·intro e o ho
   have e' : x.length = i := by simp at e; omega
   have : l.take i = x := by rw [h1, ← e', List.take_left]
   rw [this] at ho
   simpa using h3 o ho
  ·intro e
   have hle : x.length ≤ i := by
    rcases Nat.lt_or_ge i x.length with q | q
    ·exfalso
     have hx : l[i] = x[i] := by
      have : l[i]? = x[i]? := by rw [h1, List.getElem?_append_left q]
      simpa [hi, q] using this
     have := h3 _ (getElem_mem q)
     rw [← hx] at this
     simp at this
    ·exact q
   rcases Nat.lt_or_ge x.length i with q | q
   ·exfalso
    have hm : k ∈ l.take i := by
     rw [h1, List.take_append]
     refine List.mem_append_right _ ?_
     rw [show i - x.length = (i - x.length - 1) + 1 by omega, List.take_succ_cons]
     exact List.mem_cons_self
    have := e k hm
    simp only [decide_eq_true_eq] at h2
    simp [h2] at this
   ·simp; omega
def a52 (a : aa2) (i : Nat) (c : aa3) : Bool := !decide (c.Id < 1) && (!decide (a.Xz ≤ c.Id) && ((match i with | 0 => true | k + 1 => match a.Cz[k]? with | some p => !decide (c.Id ≤ p.Id) | none => false) && (ao7 c || af9 c)))
def bB1 (a : aa2) : Bool := !((decide (a.Oz = [])) || ((decide (32 < (List.length a.Oz : Int))) || ((decide (1024 < (List.length a.Sz : Int))) || ((decide (a.Xz < 1)) || ((decide (1048560 < a.Xz)) || ((decide (a.Nz < 0)) || (decide (9007199254740991 < a.Nz))))))))
def a54 (a : aa2) : Bool := bB1 a && (!decide (32 < (List.length a.Cz : Int)) && (!decide (64 < (List.length a.Kz : Int)) && (bA0 (bW8 a.Kz) 0 a.Kz && bA0 (a52 a) 0 a.Cz)))
theorem bQ3 {β : Type} {i : Nat} (hi : i < a.Cz.length) (hl : a.Cz.length ≤ 1000000) (F : aa3 → Option Bool) (hF : F a.Cz[i] = some (ao7 a.Cz[i] || af9 a.Cz[i])) (f g : aa3 → Option Bool)
  (hf : f a.Cz[i] = some (ao7 a.Cz[i])) (hg : g a.Cz[i] = some (af9 a.Cz[i])) :
  (if (decide ((a.Cz[i]).Id < 1)) then some true else if (decide (a.Xz ≤ (a.Cz[i]).Id)) then some true else if (decide (0 < (i : Int))) then (ae2 a.Cz (wrap .i64 ((i : Int) - 1))).bind fun x30 => if (decide ((a.Cz[i]).Id ≤ x30.Id)) then some true else (f a.Cz[i]).bind fun x32 => if (!x32) then (g a.Cz[i]).bind fun x34 => some (!x34) else some false else (f a.Cz[i]).bind fun x35 => if (!x35) then (g a.Cz[i]).bind fun x37 => some (!x37) else some false) = some (!a52 a i a.Cz[i]) := by
 unfold a52
 have hfg : ((f a.Cz[i]).bind fun x32 => if (!x32) then (g a.Cz[i]).bind fun x34 => some (!x34) else some false) = some (!(ao7 a.Cz[i] || af9 a.Cz[i])) := by
  rw [hf, hg, Option.bind_some]
  cases ao7 a.Cz[i] <;> simp
 simp only [hfg]
 by_cases h1 : (a.Cz[i]).Id < 1
 ·simp [h1]
 by_cases h2 : a.Xz ≤ (a.Cz[i]).Id
 ·simp [h1, h2]
 simp only [h1, h2, decide_false, false_eq_true, if_false, Bool.not_false, Bool.true_and]
 cases i with
 | zero => simp
 | succ k =>
  have hk : k < a.Cz.length := by omega
  have hw : wrap .i64 (((k + 1 : Nat) : Int) - 1) = (k : Int) := by rw [ab3 (by omega) (by omega)]; omega
  have hp : (0 : Int) < ((k + 1 : Nat) : Int) := by omega
  rw [hw, aa6 hk]
  simp only [hp, decide_true, if_true, Option.bind_some, List.getElem?_eq_getElem hk]
  by_cases h3 : (a.Cz[k + 1]).Id ≤ (a.Cz[k]).Id
  ·simp [h3]
  ·simp [h3]
theorem cw1 (h : Lim a) : ax0 a = some (a54 a) := by
 have h1 := h.keys
 have h2 := h.convs
 unfold ax0 a54
 have eb : ((decide (a.Oz = [])) || ((decide (32 < (List.length a.Oz : Int))) || ((decide (1024 < (List.length a.Sz : Int))) || ((decide (a.Xz < 1)) || ((decide (1048560 < a.Xz)) || ((decide (a.Nz < 0)) || (decide (9007199254740991 < a.Nz)))))))) = !bB1 a := by unfold bB1; rw [Bool.not_not]
 rw [eb]
 cases bB1 a with
 | false => rfl
 | true =>
  simp only [Bool.not_true, false_eq_true, if_false, Bool.true_and]
  by_cases q1 : (32 : Int) < (List.length a.Cz : Int)
  ·simp [q1]
  by_cases q2 : (64 : Int) < (List.length a.Kz : Int)
  ·simp [q1, q2]
  have q2' : decide ((List.length a.Kz : Int) ≤ 64) = true := by simp; omega
  simp only [q1, q2, decide_false, false_eq_true, if_false, cG1 h, q2', Option.bind_some, Bool.and_true, Bool.not_false, Bool.true_and]
  cases bA0 (bW8 a.Kz) 0 a.Kz with
  | false => rfl
  | true =>
   simp only [Bool.not_true, false_eq_true, if_false, Bool.true_and]
   refine (bf9 a.Cz (a52 a) false true _ (fun i hi => ?_) ?_).trans ?_
   ·have hs := (h.conv _ (getElem_mem hi)).key
    simp only [aD7, dlt hi, if_true, aa6 hi, Option.bind_some]
    rw [bQ3 (β := Unit) hi (by omega) (fun _ => some (ao7 a.Cz[i] || af9 a.Cz[i])) rfl aw8 aN1 (bJ9 _) (bQ2 hs), Option.bind_some, ab0 (by omega)]
    cases a52 a i a.Cz[i] <;> rfl
   ·simp [aD7]
   ·cases bA0 (a52 a) 0 a.Cz <;> rfl
theorem bW9 (h : Lim a) : aw4 a = some (a54 a) := by
 have h1 := h.keys
 have h2 := h.convs
 have hC : ab1 (fun s => aw2 a s) 0 = some (bA0 (a52 a) 0 a.Cz) := by
  refine (bf9 a.Cz (a52 a) false true _ (fun i hi => ?_) ?_).trans ?_
  ·have hs := (h.conv _ (getElem_mem hi)).key
   simp only [aw2, dlt hi, if_true, aa6 hi, Option.bind_some]
   rw [bQ3 (β := Unit) hi (by omega) (fun _ => some (ao7 a.Cz[i] || af9 a.Cz[i])) rfl av9 aA7 (bd3 hs.le) (bW7 hs), Option.bind_some, ab0 (by omega)]
   cases a52 a i a.Cz[i] <;> rfl
  ·simp [aw2]
  ·cases bA0 (a52 a) 0 a.Cz <;> rfl
 have hK : ab1 (fun s => aw3 a s) 0 = some (bA0 (bW8 a.Kz) 0 a.Kz && bA0 (a52 a) 0 a.Cz) := by
  refine (bf9 a.Kz (bW8 a.Kz) false (bA0 (a52 a) 0 a.Cz) _ (fun i hi => ?_) ?_).trans ?_
  ·have hk := h.key _ (getElem_mem hi)
   have hp := ck8 hi
   have := @b49 a.Kz (pub a.Kz[i]) (by omega) (fun k hk => (h.key k hk).le)
   unfold pub at this
   simp only [aw3, dlt hi, if_true, aa6 hi, Option.bind_some, b51 hk, aS4 hk.le, this]
   rw [ab0 (by omega)]
   unfold pub at hp
   rw [hp]
   unfold bW8 pub
   cases b50 a.Kz[i] <;> cases ((a.Kz.take i).any fun o => decide ((o.filter fun a => !ak4 a.Mz) = (a.Kz[i]).filter fun a => !ak4 a.Mz)) <;> rfl
  ·simp [aw3, hC]
  ·cases bA0 (bW8 a.Kz) 0 a.Kz <;> rfl
 unfold aw4 a54 bB1
 rw [hK]
 unfold a28
 by_cases q1 : a.Oz = []
 ·simp [q1]
 by_cases q2 : (32 : Int) < (List.length a.Oz : Int)
 ·simp [q1, q2]
 by_cases q3 : (1024 : Int) < (List.length a.Sz : Int)
 ·simp [q1, q2, q3]
 by_cases q4 : (64 : Int) < (List.length a.Kz : Int)
 ·simp [q1, q2, q3, q4]
 by_cases q5 : (32 : Int) < (List.length a.Cz : Int)
 ·simp [q1, q2, q3, q4, q5]
 simp only [q1, q2, q3, q4, q5, decide_false, Bool.or_self, false_eq_true, if_false, Option.bind_some, decide_true, Bool.not_true, Bool.or_false, Bool.false_or, Bool.not_false, Bool.true_and]
 cases ((decide (a.Xz < 1)) || ((decide (1048560 < a.Xz)) || ((decide (a.Nz < 0)) || (decide (9007199254740991 < a.Nz))))) <;> rfl
structure Val (a : aa2) : Prop where
 lim : Lim a
 ok : a54 a = true
theorem Val.base (v : Val a) : a.Oz ≠ [] ∧ a.Oz.length ≤ 32 ∧ a.Sz.length ≤ 1024 ∧ 1 ≤ a.Xz ∧ a.Xz ≤ 1048560 ∧ 0 ≤ a.Nz ∧ a.Nz ≤ 9007199254740991 ∧ a.Cz.length ≤ 32 ∧ a.Kz.length ≤ 64 := by
 have h := v.ok
 unfold a54 bB1 at h
 simp only [and_eq_true, not_eq_true', or_eq_false_iff, decide_eq_false_iff_not] at h
 obtain ⟨⟨h1, h2, h3, h4, h5, h6, h7⟩, h8, h9, _⟩ := h
 exact ⟨h1, by omega, by omega, by omega, by omega, by omega, by omega, by omega, by omega⟩
theorem Val.convAt (v : Val a) {i : Nat} (hi : i < a.Cz.length) : 1 ≤ (a.Cz[i]).Id ∧ (a.Cz[i]).Id < a.Xz ∧ (ao7 a.Cz[i] = true ∨ af9 a.Cz[i] = true) := by
 have h := v.ok
 unfold a54 at h
 simp only [and_eq_true] at h
 have := bf8.1 h.2.2.2.2 i hi
 unfold a52 at this
 simp only [and_eq_true, not_eq_true', decide_eq_false_iff_not, or_eq_true] at this
 exact ⟨by omega, by omega, this.2.2.2⟩
theorem Val.conv (v : Val a) {c : aa3} (hc : c ∈ a.Cz) : 1 ≤ c.Id ∧ c.Id < 1048560 := by
 obtain ⟨i, hi, rfl⟩ := List.getElem_of_mem hc
 have := v.convAt hi
 have := v.base
 omega
theorem Val.key (v : Val a) {k : List aa1} (hk : k ∈ a.Kz) : b50 k = true := by
 obtain ⟨i, hi, rfl⟩ := List.getElem_of_mem hk
 have h := v.ok
 unfold a54 at h
 simp only [and_eq_true] at h
 have := bf8.1 h.2.2.2.1 i hi
 unfold bW8 at this
 simp only [and_eq_true] at this
 exact this.1
def aM5 (a : aa2) (id : Int) : Int := ixF (fun c => decide (c.Id = id - 16)) a.Cz 0
theorem ck9 {c : aa3} {id : Int} (w : -9223372036854775808 ≤ id ∧ id ≤ 9223372036854775807) (h : 1 ≤ c.Id ∧ c.Id < 1048560) : decide (c.Id = wrap .i64 (id - 16)) = decide (c.Id = id - 16) := by
 by_cases q : -9223372036854775792 ≤ id
 ·rw [ab3 (by omega) (by omega)]
 ·have : wrap .i64 (id - 16) = id - 16 + 18446744073709551616 := by
   have e : wrap .i64 (id - 16) = if 9223372036854775808 ≤ (id - 16) % 18446744073709551616 then (id - 16) % 18446744073709551616 - 18446744073709551616 else (id - 16) % 18446744073709551616 := by simp [wrap, IntKind.bits, signed]
   rw [e]
   split <;> omega
  rw [this, decide_eq_decide]
  omega
theorem by5 (v : Val a) {id : Int} (w : -9223372036854775808 ≤ id ∧ id ≤ 9223372036854775807) : aB4 a id = some (aM5 a id) := by
 have hb := v.base
 unfold aB4 ah6
 have : ab1 (fun s => ab6 a.Cz id s) 0 = some (aM5 a id) := by
  refine bw3 a.Cz _ _ (fun i hi => ?_) ?_
  ·simp only [ab6, dlt hi, if_true, aa6 hi, Option.bind_some, a33, ck9 w (v.conv (getElem_mem hi))]
   rw [ab0 (by omega)]
   cases decide ((a.Cz[i]).Id = id - 16) <;> rfl
  ·simp [ab6]
 rw [this]; rfl
theorem aN6 (v : Val a) {id : Int} (w : -9223372036854775808 ≤ id ∧ id ≤ 9223372036854775807) : aB7 a id = some (aM5 a id) := by
 have hb := v.base
 unfold aB7
 refine bw3 a.Cz _ _ (fun i hi => ?_) ?_
 ·have hc := v.conv (getElem_mem hi)
  simp only [aM0, dlt hi, if_true, aa6 hi, Option.bind_some, ck9 w hc]
  rw [ab0 (by omega)]
  by_cases q : 16 < id
  ·simp only [q, decide_true, if_true, Option.bind_some]
   cases decide ((a.Cz[i]).Id = id - 16) <;> rfl
  ·have : ¬ ((a.Cz[i]).Id = id - 16) := by omega
   simp [q, this]
 ·simp [aM0]
def an3 (a : aa2) (id : Int) : Bool := (decide (1 ≤ id) && decide (id ≤ 4)) || decide (0 ≤ aM5 a id)
theorem bi0 (v : Val a) {id : Int} (w : -9223372036854775808 ≤ id ∧ id ≤ 9223372036854775807) : an7 a id = some (an3 a id) := by
 unfold an7 an3
 rw [by5 v w]
 cases decide (1 ≤ id) <;> cases decide (id ≤ 4) <;> simp
theorem aS5 (v : Val a) {id : Int} (w : -9223372036854775808 ≤ id ∧ id ≤ 9223372036854775807) : ao1 a id = some (an3 a id) := by
 unfold ao1 an3
 rw [aN6 v w]
 cases decide (1 ≤ id) <;> cases decide (id ≤ 4) <;> simp
theorem aB0 (v : Val a) (id : Int) : aM5 a id = -1 ∨ ∃ i, ∃ h : i < a.Cz.length, aM5 a id = (i : Int) ∧ (a.Cz[i]).Id = id - 16 ∧ 17 ≤ id ∧ id < 1048576 := by
 rcases bf7 (fun c => decide (c.Id = id - 16)) a.Cz 0 with ⟨h1, h2⟩ | ⟨x, k, y, h1, h2, h3, h4⟩
 ·exact .inl h2
 ·refine .inr ⟨x.length, by rw [h1]; simp, by unfold aM5; rw [h4]; simp, ?_⟩
  have hk : a.Cz[x.length]? = some k := by rw [h1]; simp
  have hi : x.length < a.Cz.length := by rw [h1]; simp
  have e : a.Cz[x.length] = k := by
   rw [List.getElem?_eq_getElem hi] at hk
   exact Option.some.inj hk
  have hid := of_decide_eq_true h2
  have := v.conv (c := k) (by rw [h1]; simp)
  rw [e]
  omega
def bo9 (p : List aa1) : List (List aa1) → List aa1 × Bool
 | [] => ([], false)
 | k :: r => if p.all (aL4 k) = true then (k, true) else bo9 p r
theorem cO7 (h : Lim a) {p : List aa1} (hp : p.length ≤ 1000000) : aU8 a p = some (bo9 p a.Kz) := by
 have h1 := h.keys
 unfold aU8
 refine (ad1 a.Kz.length (fun (_ : Unit) i => i) (fun s => aI8 a p s) (fun i _ => bo9 p (a.Kz.drop i)) (fun _ _ => True) (s0 := ()) trivial ?_ ?_)
 ·intro _ i hi _
  have hk := (h.key _ (getElem_mem hi)).le
  simp only [aI8, dlt hi, if_true, aa6 hi, Option.bind_some, bl7 hk hp, aM3 hk]
  rw [drop_eq_getElem_cons hi]
  cases q : p.all (aL4 a.Kz[i]) with
  | true => right; simp [bo9, q]
  | false => left; exact ⟨(), by rw [ab0 (by omega)]; simp, by simp [bo9, q], trivial⟩
 ·intro _ _
  simp [aI8, bo9]
theorem cl0 (h : Lim a) {p : List aa1} (hp : p.length ≤ 1000000) : aV3 a p = some (bo9 p a.Kz) := by
 have h1 := h.keys
 unfold aV3
 refine (ad1 a.Kz.length (fun (_ : Unit) i => i) (fun s => aJ4 a p s) (fun i _ => bo9 p (a.Kz.drop i)) (fun _ _ => True) (s0 := ()) trivial ?_ ?_)
 ·intro _ i hi _
  have hk := (h.key _ (getElem_mem hi)).le
  have hap : aE5 40 ([] : List aa1) a.Kz[i] = some a.Kz[i] := by rw [af3 (by simp; omega) (by simp; omega)]; simp
  simp only [aJ4, dlt hi, if_true, aa6 hi, Option.bind_some, bh5 hk hp, hap]
  rw [drop_eq_getElem_cons hi]
  cases q : p.all (aL4 a.Kz[i]) with
  | true => right; simp [bo9, q]
  | false => left; exact ⟨(), by rw [ab0 (by omega)]; simp, by simp [bo9, q], trivial⟩
 ·intro _ _
  simp [aJ4, bo9]
theorem br8 {p : List aa1} : ∀ {l : List (List aa1)}, (bo9 p l).2 = true → (bo9 p l).1 ∈ l
 | k :: r, h => by
  unfold bo9 at h ⊢
  split
  ·simp
  ·rename_i q
   rw [if_neg q] at h
   exact List.mem_cons_of_mem _ (br8 h)
variable {c : aa3} {a : aa2} {id : Int}
def bm9 (a : aa2) : List Int := [2, 3, 4] ++ a.Cz.map fun c => 16 + c.Id
def bB2 (k : List aa1) : Str := [107, 101, 121, 32] ++ (if aW5 (pub k) = 0 then aQ7 (pub k) else []) ++ [10]
def bm0 (a : aa2) (id : Int) : Str := if id = 2 then (a.Kz.map bB2).flatten else if id = 3 then ai4 ++ [10] ++ (aE3 ++ [10]) ++ (ap7 ++ [10]) else []
theorem by6 {k : List aa1} (h : Sh k) : (bB2 k).length ≤ 31000000 := by
 have hp := ck4 h
 have h1 : (aQ7 (pub k)).length ≤ 2000 * 15004 + 10 := by
  unfold aQ7
  have := b41 (K := 15003) (sep := [32]) (l := (pub k).map bj1) (fun x hx => by
   obtain ⟨y, hy, rfl⟩ := List.mem_map.1 hx
   exact b40 (hp.ok.2 y hy))
  have h2 := hp.len
  simp only [List.length_map] at this
  have h3 : (pub k).length * (15003 + List.length ([32] : Str)) ≤ 2000 * 15004 := Nat.mul_le_mul h2 (by simp)
  omega
 unfold bB2
 split <;> simp <;> omega
theorem b54 : ∀ {l : List (List aa1)}, (∀ k ∈ l, Sh k) → (l.map bB2).flatten.length ≤ l.length * 31000000
 | [], _ => by simp
 | k :: r, h => by
  have h1 := by6 (h k (by simp))
  have h2 := b54 (l := r) fun x hx => h x (by simp [hx])
  simp only [map_cons, flatten_cons, length_append, List.length_cons]
  omega
theorem bQ4 (v : Val a) : (bm0 a id).length ≤ 2300000000 := by
 have hb := v.base
 unfold bm0
 split
 ·have := b54 (l := a.Kz) v.lim.key
  omega
 ·split
  ·decide
  ·simp
theorem bX0 (v : Val a) : aH1 a id = some (bm0 a id) := by
 have hb := v.base
 unfold aH1 bm0
 by_cases h2 : id = 2
 ·simp only [h2, decide_true, if_true]
  refine (ad1 a.Kz.length (fun (s : Str) i => (i, s)) (fun s => ao0 a s.1 s.2) (fun i s => s ++ ((a.Kz.drop i).map bB2).flatten) (fun i s => s.length ≤ i * 31000000) (s0 := []) (by simp) ?_ ?_).trans rfl
  ·intro s i hi hs
   left
   have hk := v.lim.key _ (getElem_mem hi)
   have hl := by6 hk
   have hp := cv1 (ck4 hk).ok
   unfold pub at hp
   refine ⟨s ++ bB2 a.Kz[i], ?_, ?_, ?_⟩
   ·simp only [ao0, dlt hi, if_true, aa6 hi, Option.bind_some, bx4 hk.le, hp]
    have e : (if aW5 (List.filter (fun a => !ak4 a.Mz) a.Kz[i]) = 0 then (aQ7 (List.filter (fun a => !ak4 a.Mz) a.Kz[i]), (0 : Int)) else ([], aW5 (List.filter (fun a => !ak4 a.Mz) a.Kz[i]))).1 = (if aW5 (pub a.Kz[i]) = 0 then aQ7 (pub a.Kz[i]) else []) := by
     unfold pub; split <;> rfl
    rw [e]
    unfold bB2 at hl ⊢
    generalize (if aW5 (pub a.Kz[i]) = 0 then aQ7 (pub a.Kz[i]) else []) = X at hl ⊢
    have hX : X.length ≤ 31000000 := by simp at hl; omega
    have c1 : aj2 [107, 101, 121, 32] X = some ([107, 101, 121, 32] ++ X) := by unfold aj2; rw [if_pos (by simp; omega)]
    have c2 : aj2 ([107, 101, 121, 32] ++ X) [10] = some ([107, 101, 121, 32] ++ X ++ [10]) := by unfold aj2; rw [if_pos (by simp; omega)]
    have c3 : bAdd s ([107, 101, 121, 32] ++ X ++ [10]) = some (s ++ ([107, 101, 121, 32] ++ X ++ [10])) := by unfold bAdd; rw [if_pos (by simp; omega)]
    rw [c1, Option.bind_some, c2, Option.bind_some, c3, Option.bind_some, ab0 (by omega)]
   ·rw [drop_eq_getElem_cons hi, map_cons, flatten_cons, append_assoc]
   ·simp only [length_append]; omega
  ·intro s hs
   simp [ao0, aq5]
 ·by_cases h3 : id = 3
  ·subst h3
   have n2 : ¬ (3 : Int) = 2 := by decide
   simp only [n2, decide_true, decide_false, if_true, false_eq_true, if_false, as3, Option.bind_some]
   have b1 : aj7 [[99, 104, 97, 108], [109, 117, 116, 117, 97, 108], [112, 108, 97, 105, 110]] 0 [] = some (.cont (1, ai4 ++ [10])) := by kernel_rfl
   have b2 : aj7 [[99, 104, 97, 108], [109, 117, 116, 117, 97, 108], [112, 108, 97, 105, 110]] 1 (ai4 ++ [10]) = some (.cont (2, ai4 ++ [10] ++ (aE3 ++ [10]))) := by kernel_rfl
   have b3 : aj7 [[99, 104, 97, 108], [109, 117, 116, 117, 97, 108], [112, 108, 97, 105, 110]] 2 (ai4 ++ [10] ++ (aE3 ++ [10])) = some (.cont (3, ai4 ++ [10] ++ (aE3 ++ [10]) ++ (ap7 ++ [10]))) := by kernel_rfl
   have b4 : aj7 [[99, 104, 97, 108], [109, 117, 116, 117, 97, 108], [112, 108, 97, 105, 110]] 3 (ai4 ++ [10] ++ (aE3 ++ [10]) ++ (ap7 ++ [10])) = some (.done (ai4 ++ [10] ++ (aE3 ++ [10]) ++ (ap7 ++ [10]))) := by kernel_rfl
   rw [ah2 (s' := (1, ai4 ++ [10])) b1, ah2 (s' := (2, ai4 ++ [10] ++ (aE3 ++ [10]))) b2, ah2 (s' := (3, ai4 ++ [10] ++ (aE3 ++ [10]) ++ (ap7 ++ [10]))) b3, ay1 b4]
  ·simp only [h2, h3, decide_false, false_eq_true, if_false]; rfl
theorem aa7 {x y : Str} (h : x.length + y.length ≤ 9223372036854775807) : aj2 x y = some (x ++ y) := by unfold aj2; rw [if_pos h]
theorem bB3 (v : Val a) : aH8 a id = some (bm0 a id) := by
 have hb := v.base
 unfold aH8 bm0
 by_cases h2 : id = 2
 ·subst h2
  have n3 : ¬ (2 : Int) = 3 := by decide
  simp only [decide_true, if_true]
  refine (ad1 a.Kz.length (fun (s : Str) i => (s, i)) (fun s => ao2 a 2 s.1 s.2) (fun i s => s ++ ((a.Kz.drop i).map bB2).flatten) (fun i s => s.length ≤ i * 31000000) (s0 := []) (by simp) ?_ ?_).trans rfl
  ·intro s i hi hs
   left
   have hk := v.lim.key _ (getElem_mem hi)
   have hl := by6 hk
   have hp := bW3 (ck4 hk).ok
   unfold pub at hp
   refine ⟨s ++ bB2 a.Kz[i], ?_, ?_, ?_⟩
   ·simp only [ao2, dlt hi, if_true, aa6 hi, Option.bind_some, aS4 hk.le, hp]
    have e : (if aW5 (List.filter (fun a => !ak4 a.Mz) a.Kz[i]) = 0 then (aQ7 (List.filter (fun a => !ak4 a.Mz) a.Kz[i]), (0 : Int)) else ([], aW5 (List.filter (fun a => !ak4 a.Mz) a.Kz[i]))).1 = (if aW5 (pub a.Kz[i]) = 0 then aQ7 (pub a.Kz[i]) else []) := by
     unfold pub; split <;> rfl
    rw [e]
    unfold bB2 at hl ⊢
    generalize (if aW5 (pub a.Kz[i]) = 0 then aQ7 (pub a.Kz[i]) else []) = X at hl ⊢
    have hX : X.length ≤ 31000000 := by simp at hl; omega
    rw [aa7 (by simp; omega), Option.bind_some, aa7 (by simp; omega), Option.bind_some, aa7 (by simp; omega), Option.bind_some, ab0 (by omega)]
    simp only [append_assoc]
   ·rw [drop_eq_getElem_cons hi, map_cons, flatten_cons, append_assoc]
   ·simp only [length_append]; omega
  ·intro s hs
   simp [ao2, am1, n3]
 ·by_cases h3 : id = 3
  ·subst h3
   have n2 : ¬ (3 : Int) = 2 := by decide
   unfold am1 a38
   simp only [n2, decide_true, decide_false, if_true, false_eq_true, if_false, Option.bind_some]
   have b1 : aj9 [[99, 104, 97, 108], [109, 117, 116, 117, 97, 108], [112, 108, 97, 105, 110]] [] 0 = some (.cont (ai4 ++ [10], 1)) := by kernel_rfl
   have b2 : aj9 [[99, 104, 97, 108], [109, 117, 116, 117, 97, 108], [112, 108, 97, 105, 110]] (ai4 ++ [10]) 1 = some (.cont (ai4 ++ [10] ++ (aE3 ++ [10]), 2)) := by kernel_rfl
   have b3 : aj9 [[99, 104, 97, 108], [109, 117, 116, 117, 97, 108], [112, 108, 97, 105, 110]] (ai4 ++ [10] ++ (aE3 ++ [10])) 2 = some (.cont (ai4 ++ [10] ++ (aE3 ++ [10]) ++ (ap7 ++ [10]), 3)) := by kernel_rfl
   have b4 : aj9 [[99, 104, 97, 108], [109, 117, 116, 117, 97, 108], [112, 108, 97, 105, 110]] (ai4 ++ [10] ++ (aE3 ++ [10]) ++ (ap7 ++ [10])) 3 = some (.done (ai4 ++ [10] ++ (aE3 ++ [10]) ++ (ap7 ++ [10]))) := by kernel_rfl
   rw [ah2 (s' := (ai4 ++ [10], 1)) b1, ah2 (s' := (ai4 ++ [10] ++ (aE3 ++ [10]), 2)) b2, ah2 (s' := (ai4 ++ [10] ++ (aE3 ++ [10]) ++ (ap7 ++ [10]), 3)) b3, ay1 b4]
  ·unfold am1
   simp only [h2, h3, decide_false, false_eq_true, if_false]
def cb4 (s : Str) (off cnt : Int) : Str := (s.drop (min off.toNat s.length)).take cnt.toNat
theorem cG2 {s : Str} {off cnt : Int} (h0 : 0 ≤ off) (h1 : 0 ≤ cnt) (hs : s.length ≤ 10000000000) :
  ((cut s (min off (List.length s : Int)) (List.length s : Int)).bind fun x => cut x 0 (min (min cnt 65536) (List.length x : Int))) = some (cb4 s off (min cnt 65536)) := by
 have e1 : min off (List.length s : Int) = ((min off.toNat s.length : Nat) : Int) := by omega
 rw [e1, ay2 (by omega), Option.bind_some]
 generalize hk : min off.toNat s.length = k
 have e2 : min (min cnt 65536) (List.length (s.drop k) : Int) = ((min (min cnt 65536).toNat (s.drop k).length : Nat) : Int) := by omega
 rw [e2, aO5 (by omega)]
 unfold cb4
 rw [hk]
 congr 1
 rcases Nat.le_total (min cnt 65536).toNat (s.drop k).length with q | q
 ·rw [Nat.min_eq_left q]
 ·rw [Nat.min_eq_right q, take_of_length_le (Nat.le_refl _), take_of_length_le q]
theorem cb5 {s : Str} {off cnt : Int} (h0 : 0 ≤ off) (h1 : 0 ≤ cnt) (hs : s.length ≤ 10000000000) :
  cut s (min off (List.length s : Int)) (wrap .i64 ((min off (List.length s : Int)) + (min (min cnt 65536) (wrap .i64 ((List.length s : Int) - (min off (List.length s : Int))))))) = some (cb4 s off (min cnt 65536)) := by
 have e1 : min off (List.length s : Int) = ((min off.toNat s.length : Nat) : Int) := by omega
 rw [e1]
 unfold cb4
 generalize hk : min off.toNat s.length = k
 have hkl : k ≤ s.length := by omega
 rw [ab3 (n := (List.length s : Int) - (k : Int)) (by omega) (by omega), ab3 (by omega) (by omega)]
 generalize hm : (min cnt 65536).toNat = m
 have e3 : (k : Int) + min (min cnt 65536) ((List.length s : Int) - (k : Int)) = ((k + min m (s.length - k) : Nat) : Int) := by omega
 rw [e3]
 unfold cut
 rw [if_pos ⟨by omega, by omega, by omega⟩]
 simp only [Int.toNat_natCast]
 congr 1
 rw [List.drop_take, show k + min m (s.length - k) - k = min m (s.length - k) by omega]
 rcases Nat.le_total m (s.length - k) with q | q
 ·rw [Nat.min_eq_left q]
 ·rw [Nat.min_eq_right q, take_of_length_le (by simp), take_of_length_le (by simp; omega)]
def cb6 (a : aa2) (id off cnt : Int) : aa2 × Str × Int :=
 if an3 a id = true then (if id = 1 then (a, [], 10) else if off < 0 ∨ cnt < 0 then (a, [], 1) else (a, cb4 (bm0 a id) off (min cnt 65536), 0)) else (a, [], 8)
theorem cw2 (v : Val a) (w : -9223372036854775808 ≤ id ∧ id ≤ 9223372036854775807) (hc : aM5 a id = -1) (off cnt : Int) : ai5 a id off cnt = some (cb6 a id off cnt) := by
 unfold ai5 cb6
 rw [ap9 v.lim, Option.bind_some, bi0 v w, Option.bind_some]
 cases he : an3 a id with
 | false => rfl
 | true =>
  by_cases h1 : id = 1
  ·simp [h1]
  ·by_cases h2 : off < 0 ∨ cnt < 0
   ·have : (decide (off < 0) || decide (cnt < 0)) = true := by simpa using h2
    simp [h1, h2, this]
   ·have h2' : (decide (off < 0) || decide (cnt < 0)) = false := by
     rw [or_eq_false_iff, decide_eq_false_iff_not, decide_eq_false_iff_not]; omega
    have hl := bQ4 (id := id) v
    have hp := cG2 (s := bm0 a id) (off := off) (cnt := cnt) (by omega) (by omega) (by omega)
    have hn : ¬ (0 : Int) ≤ -1 := by omega
    simp only [h1, h2, h2', decide_false, Bool.not_true, false_eq_true, if_false, if_true, by5 v w, hc, hn, Option.bind_some, bX0 v]
    cases hcut : cut (bm0 a id) (min off (List.length (bm0 a id) : Int)) (List.length (bm0 a id) : Int) with
    | none => rw [hcut] at hp; cases hp
    | some x =>
     rw [hcut, Option.bind_some] at hp
     rw [Option.bind_some, hp]; rfl
theorem bX1 (v : Val a) (w : -9223372036854775808 ≤ id ∧ id ≤ 9223372036854775807) (hc : aM5 a id = -1) (off cnt : Int) : aB8 a id off cnt = some (cb6 a id off cnt) := by
 unfold aB8 cb6
 rw [aS5 v w, Option.bind_some]
 cases he : an3 a id with
 | false => rfl
 | true =>
  by_cases h1 : id = 1
  ·simp [h1]
  ·by_cases h2 : off < 0 ∨ cnt < 0
   ·have : (decide (off < 0) || decide (cnt < 0)) = true := by simpa using h2
    simp [h1, h2, this]
   ·have h2' : (decide (off < 0) || decide (cnt < 0)) = false := by
     rw [or_eq_false_iff, decide_eq_false_iff_not, decide_eq_false_iff_not]; omega
    have hl := bQ4 (id := id) v
    have hp := cb5 (s := bm0 a id) (off := off) (cnt := cnt) (by omega) (by omega) (by omega)
    have hn : (-1 : Int) < 0 := by omega
    simp only [h1, h2, h2', decide_false, decide_true, Bool.not_true, false_eq_true, if_false, if_true, aN6 v w, hc, hn, Option.bind_some, bB3 v, hp]
theorem cw3 (v : Val a) (h : id ≤ 16) : aM5 a id = -1 := by
 rcases aB0 v id with q | ⟨i, hi, _, _, q, _⟩
 ·exact q
 ·omega
end Go.Proofs.YtiliognepodhnaaGreatDoor
