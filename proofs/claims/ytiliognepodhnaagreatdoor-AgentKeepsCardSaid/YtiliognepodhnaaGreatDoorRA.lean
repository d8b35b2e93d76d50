import Derived.Test.YtiliognepodhnaaGreatDoorPA
import Derived.Test.YtiliognepodhnaaGreatDoorVmR
open Bool (and_eq_false_iff and_eq_true false_eq_true not_eq_true' or_eq_true)
open Int (tdiv tmod)
open Go.IntKind (signed wrap)
open List (append_assoc drop drop_eq_getElem_cons filter flatten_cons getElem_mem length_append map_cons take_of_length_le)
open Nat (le_trans)
namespace Go.Proofs.YtiliognepodhnaaGreatDoor
open Go.Vm
set_option linter.unusedVariables false
set_option linter.unusedSimpArgs false
set_option maxRecDepth 100000
theorem wfI {n : Int} (h : (Lit.int .i64 n).wf = true) : -9223372036854775808 ≤ n ∧ n ≤ 9223372036854775807 := by
 have h2 : IntKind.i64.min ≤ n ∧ n ≤ IntKind.i64.max := by simpa [Lit.wf] using h
 exact h2
structure Sh (l : List aa1) : Prop where
 len : l.length ≤ 2000
 at_ : ∀ a ∈ l, a.Mz.length ≤ 5000 ∧ a.Value.length ≤ 5000
theorem Sh.ok {l : List aa1} (h : Sh l) : okL l := ⟨by have := h.len; omega, fun a ha => h.at_ a ha⟩
theorem Sh.le {l : List aa1} (h : Sh l) : l.length ≤ 1000000 := by have := h.len; omega
structure ShC (c : aa3) : Prop where
 key : Sh c.Key
structure Lim (a : aa2) : Prop where
 owner : a.Oz.length ≤ 1000
 seed : a.Sz.length ≤ 2000
 keys : a.Kz.length ≤ 70
 key : ∀ k ∈ a.Kz, Sh k
 convs : a.Cz.length ≤ 40
 conv : ∀ c ∈ a.Cz, ShC c
theorem b26 {α : Type} {l : List α} {i : Nat} (h : i < l.length) : l.set i l[i] = l := by simp
theorem ch9 {l : List (List aa1)} (h : l.length ≤ 1000000) : ab4 l = some l := by
 unfold ab4
 rw [af3 (by simp; omega) (by simp; omega)]; simp
theorem b89 {l : List aa3} (h : l.length ≤ 1000000) : ab9 l = some l := by
 unfold ab9
 rw [af3 (by simp; omega) (by simp; omega)]; simp
theorem aq0 {a : aa2} (h : Lim a) : ag2 a = some a := by
 have h1 := h.keys
 have h2 := h.convs
 unfold ag2
 rw [ch9 (by omega), Option.bind_some]
 refine (ad1 a.Kz.length (fun (v : List (List aa1)) i => (i, v)) (fun s => ay8 a a.Kz s.1 s.2) (fun _ _ => a) (fun _ v => v = a.Kz) (s0 := a.Kz) rfl ?_ ?_)
 ·rintro v i hi rfl
  left
  refine ⟨a.Kz, ?_, rfl, rfl⟩
  simp only [ay8, dlt hi, if_true, aa8 hi, Option.bind_some, aL3 (h.key _ (getElem_mem hi)).le, Int.toNat_natCast, b26 hi]
  rw [ab0 (by omega)]
 ·rintro v rfl
  have : ab1 (fun s => aq4 a a.Kz a.Cz s.1 s.2) (0, a.Cz) = some a := by
   refine (ad1 a.Cz.length (fun (v : List aa3) i => (i, v)) (fun s => aq4 a a.Kz a.Cz s.1 s.2) (fun _ _ => a) (fun _ v => v = a.Cz) (s0 := a.Cz) rfl ?_ ?_)
   ·rintro v i hi rfl
    left
    refine ⟨a.Cz, ?_, rfl, rfl⟩
    simp only [aq4, dlt hi, if_true, aa8 hi, Option.bind_some, aL3 (h.conv _ (getElem_mem hi)).key.le, Int.toNat_natCast]
    rw [ab0 (by omega), show ({a.Cz[i] with Key := (a.Cz[i]).Key} : aa3) = a.Cz[i] from rfl, b26 hi]
   ·rintro v rfl
    simp [aq4]
  simp only [ay8, dge, false_eq_true, if_false, aO2, b89 (show a.Cz.length ≤ 1000000 by omega), Option.bind_some, this, Option.map_some]
theorem bO2 {l : List aa1} (h : l.length ≤ 1000000) : at8 l l = some true := by
 unfold at8
 simp only [decide_true, Bool.not_true, false_eq_true, if_false]
 refine (b15 l (fun _ => true) _ (fun i hi => ?_) ?_).trans (by simp)
 ·simp only [as3, dlt hi, if_true, aa8 hi, Option.bind_some, decide_true, Bool.and_self, Bool.not_true, false_eq_true, if_false]
  rw [ab0 (by omega)]
 ·simp [as3]
theorem bI1 {c : aa3} (h : c.Key.length ≤ 1000000) : at9 c c = some true := by
 unfold at9
 simp [bO2 h]
theorem aH5 {a : aa2} (h1 : a.Kz.length ≤ 1000000) (h2 : ∀ k ∈ a.Kz, k.length ≤ 1000000) (h3 : a.Cz.length ≤ 1000000) (h4 : ∀ c ∈ a.Cz, c.Key.length ≤ 1000000) : af9 a a = some true := by
 have hC : ab1 (fun s => am7 a a s) 0 = some true := by
  refine (b15 a.Cz (fun _ => true) _ (fun i hi => ?_) ?_).trans (by simp)
  ·simp only [am7, dlt hi, if_true, aa8 hi, Option.bind_some, bI1 (h4 _ (getElem_mem hi)), Bool.not_true, false_eq_true, if_false]
   rw [ab0 (by omega)]
  ·simp [am7]
 unfold af9
 simp only [decide_true, Bool.not_true, Bool.or_self, false_eq_true, if_false]
 refine (bN0 a.Kz (fun _ => true) false true _ (fun i hi => ?_) ?_).trans (by simp)
 ·simp only [at0, dlt hi, if_true, aa8 hi, Option.bind_some, bO2 (h2 _ (getElem_mem hi)), Bool.not_true, false_eq_true, if_false]
  rw [ab0 (by omega)]
 ·simp [at0, hC]
theorem Lim.same {a : aa2} (h : Lim a) : af9 a a = some true :=
 aH5 (by have := h.keys; omega) (fun k hk => (h.key k hk).le) (by have := h.convs; omega) (fun c hc => (h.conv c hc).key.le)
instance : DecidableEq aa1 := fun x y => decidable_of_iff (x.Mz = y.Mz ∧ x.Value = y.Value ∧ x.Qz = y.Qz) (by cases x; cases y; simp)
theorem ci0 {x y : aa1} : (!(decide (x.Mz = y.Mz) && (decide (x.Value = y.Value) && (decide (x.Qz = y.Qz) && true)))) = !decide (x = y) := by
 congr 1
 rw [Bool.eq_iff_iff]
 cases x; cases y; simp
theorem ci1 {a b : List aa1} (ha : a.length ≤ 1000000) : at8 a b = some (decide (a = b)) := by
 unfold at8
 by_cases hl : a.length = b.length
 ·simp only [hl, decide_true, Bool.not_true, false_eq_true, if_false]
  refine (ad1 a.length (fun (_ : Unit) i => i) (fun s => as3 a b s) (fun i _ => decide (a.drop i = b.drop i)) (fun _ _ => True) (s0 := ()) trivial ?_ ?_).trans (by simp)
  ·intro _ i hi _
   have hj : i < b.length := by omega
   simp only [as3, dlt hi, if_true, aa8 hi, aa8 hj, Option.bind_some, ci0]
   by_cases h : a[i] = b[i]
   ·left
    refine ⟨(), ?_, ?_, trivial⟩
    ·simp only [h, decide_true, Bool.not_true, false_eq_true, if_false]
     rw [ab0 (by omega)]
    ·rw [drop_eq_getElem_cons hi, drop_eq_getElem_cons hj, h, decide_eq_decide]
     exact ⟨fun e => (List.cons.inj e).2, fun e => by rw [e]⟩
   ·right
    rw [drop_eq_getElem_cons hi, drop_eq_getElem_cons hj]
    have hn : ¬ (a[i] :: drop (i + 1) a = b[i] :: drop (i + 1) b) := fun e => h (List.cons.inj e).1
    simp only [h, hn, decide_false, Bool.not_false, if_true]
  ·intro _ _
   simp [as3, hl]
 ·have h1 : ¬ ((List.length a : Int) = (List.length b : Int)) := by omega
  have h2 : ¬ (a = b) := fun h => hl (by rw [h])
  simp [h1, h2]
theorem ct7 {a b : List aa1} (ha : a.length ≤ 1000000) : ah7 a b = some (decide (a = b)) := by
 unfold ah7
 by_cases hl : a.length = b.length
 ·simp only [hl, decide_true, Bool.not_true, false_eq_true, if_false]
  refine (ad1 a.length (fun (_ : Unit) i => i) (fun s => ae5 a b s) (fun i _ => decide (a.drop i = b.drop i)) (fun _ _ => True) (s0 := ()) trivial ?_ ?_).trans (by simp)
  ·intro _ i hi _
   have hj : i < b.length := by omega
   simp only [ae5, dlt hi, if_true, aa8 hi, aa8 hj, Option.bind_some, ci0]
   by_cases h : a[i] = b[i]
   ·left
    refine ⟨(), ?_, ?_, trivial⟩
    ·simp only [h, decide_true, Bool.not_true, false_eq_true, if_false]
     rw [ab0 (by omega)]
    ·rw [drop_eq_getElem_cons hi, drop_eq_getElem_cons hj, h, decide_eq_decide]
     exact ⟨fun e => (List.cons.inj e).2, fun e => by rw [e]⟩
   ·right
    rw [drop_eq_getElem_cons hi, drop_eq_getElem_cons hj]
    have hn : ¬ (a[i] :: drop (i + 1) a = b[i] :: drop (i + 1) b) := fun e => h (List.cons.inj e).1
    simp only [h, hn, decide_false, Bool.not_false, if_true]
  ·intro _ _
   simp [ae5, hl]
 ·have h1 : ¬ ((List.length a : Int) = (List.length b : Int)) := by omega
  have h2 : ¬ (a = b) := fun h => hl (by rw [h])
  simp [h1, h2]
def pub (l : List aa1) : List aa1 := l.filter fun a => !an3 a.Mz
theorem bU8 {l : List aa1} : (pub l).length ≤ l.length := List.length_filter_le _ _
theorem ci2 {l : List aa1} (h : Sh l) : Sh (pub l) := ⟨le_trans bU8 h.len, fun a ha => h.at_ a (List.mem_filter.1 ha).1⟩
theorem b27 {a b : List aa1} (ha : a.length ≤ 1000000) (hb : b.length ≤ 1000000) : aO3 a b = some (decide (pub a = pub b)) := by
 unfold aO3
 rw [bv7 ha, Option.bind_some, bv7 hb, Option.bind_some]
 have := @ct7 (pub a) (pub b) (le_trans bU8 ha)
 unfold pub at this
 rw [this]; rfl
theorem ct8 {l : List (List aa1)} {p : List aa1} (hl : l.length ≤ 1000000) (h : ∀ k ∈ l, k.length ≤ 1000000) : aE5 l p = some (ixF (fun k => decide (pub k = p)) l 0) := by
 unfold aE5
 refine bu8 l _ _ (fun i hi => ?_) ?_
 ·have hk := h _ (getElem_mem hi)
  have := @ci1 (pub l[i]) p (le_trans bU8 hk)
  unfold pub at this
  simp only [aG3, dlt hi, if_true, aa8 hi, Option.bind_some, a39 hk, this]
  rw [ab0 (by omega)]
  by_cases q : pub l[i] = p
  ·have q' := q; unfold pub at q'; simp [q, q']
  ·have q' := q; unfold pub at q'; simp [q, q']
 ·simp [aG3]
theorem ci3 {α : Type} (p : α → Bool) : ∀ l : List α, (l.all fun a => !p a) = !(l.any p)
 | [] => rfl
 | a :: r => by simp only [List.all_cons, List.any_cons, ci3 p r, Bool.not_or]
def a41 : Str := [117, 115, 101, 114]
def bO3 : Str := [33, 115, 101, 99, 114, 101, 116]
def aF8 (n : Str) (l : List aa1) : Str := (aj3 n l).1
theorem bv8 {n : Str} : ∀ {l : List aa1}, (aj3 n l).2 = false → (aj3 n l).1 = []
 | [], _ => rfl
 | a :: r, h => by
  by_cases q : bo0 n a = true
  ·rw [bO1 q] at h; cases h
  ·rw [bC9 q] at h ⊢; exact bv8 h
def b90 (l : List aa1) : Bool := decide (aV5 l = 0) && (!(l.any fun a => a.Qz) && (decide (1 ≤ (List.length (aF8 a41 l) : Int)) && (decide ((List.length (aF8 a41 l) : Int) ≤ 32) && (decide (1 ≤ (List.length (aF8 bO3 l) : Int)) && decide ((List.length (aF8 bO3 l) : Int) ≤ 64)))))
theorem ct9 {l : List aa1} (h : Sh l) : aE4 l = some (b90 l) := by
 have hl := h.le
 unfold aE4 b90
 rw [bb6 h.ok, Option.bind_some]
 by_cases hc : aV5 l = 0
 ·simp only [hc, decide_true, Bool.not_true, false_eq_true, if_false, Bool.true_and]
  have hA : aC4 l = some (decide (1 ≤ (List.length (aF8 a41 l) : Int)) && (decide ((List.length (aF8 a41 l) : Int) ≤ 32) && (decide (1 ≤ (List.length (aF8 bO3 l) : Int)) && decide ((List.length (aF8 bO3 l) : Int) ≤ 64)))) := by
   unfold aC4 ay0
   simp only [aM5 hl, Option.bind_some]
   rfl
  refine (bN0 l (fun a => !a.Qz) false (decide (1 ≤ (List.length (aF8 a41 l) : Int)) && (decide ((List.length (aF8 a41 l) : Int) ≤ 32) && (decide (1 ≤ (List.length (aF8 bO3 l) : Int)) && decide ((List.length (aF8 bO3 l) : Int) ≤ 64)))) _ (fun i hi => ?_) ?_).trans ?_
  ·simp only [aG2, dlt hi, if_true, aa8 hi, Option.bind_some]
   rw [ab0 (by omega)]
   cases l[i].Qz <;> rfl
  ·simp [aG2, hA]
  ·rw [ci3 (fun (a : aa1) => a.Qz) l]
   cases (l.any fun a => a.Qz) <;> rfl
 ·simp [hc]
theorem cy8 {l : List aa1} (h : Sh l) : a25 l = some (b90 l) := by
 have hl := h.le
 unfold a25 b90
 rw [bq0 h.ok, Option.bind_some]
 by_cases hc : aV5 l = 0
 ·have hq : ac4 l = some (l.any fun a => a.Qz) := by
   unfold ac4
   have : ad9 l = some (bh6 (fun a => a.Qz) l) := by
    unfold ad9
    refine aY5 hl (fun i hi => ?_) ?_
    ·simp only [ac3, dlt hi, if_true, aa8 hi, Option.bind_some, bb2]
    ·simp [ac3]
   rw [this, Option.bind_some, bH3]
  simp only [hc, decide_true, Bool.not_true, false_eq_true, if_false, hq, Option.bind_some, Bool.true_and]
  cases hb : l.any fun a => a.Qz with
  | true => rfl
  | false =>
   simp only [false_eq_true, if_false, bk2 hl, Option.bind_some, Bool.not_false, Bool.true_and]
   congr 1
   have aux : ∀ (n : Str) (K : Int), ((aj3 n l).2 && ((!decide ((aj3 n l).1 = [])) && decide ((List.length (aj3 n l).1 : Int) ≤ K))) = (decide (1 ≤ (List.length (aF8 n l) : Int)) && decide ((List.length (aF8 n l) : Int) ≤ K)) := by
    intro n K
    unfold aF8
    cases hf : (aj3 n l).2 with
    | false => rw [bv8 hf]; rfl
    | true =>
     rw [Bool.true_and]
     congr 1
     cases (aj3 n l).1 with
     | nil => rfl
     | cons c r => simp; omega
   have h1 := aux a41 32
   have h2 := aux bO3 64
   unfold a41 at h1
   unfold bO3 at h2
   show _ = (decide (1 ≤ (List.length (aF8 [117, 115, 101, 114] l) : Int)) && (decide ((List.length (aF8 [117, 115, 101, 114] l) : Int) ≤ 32) && (decide (1 ≤ (List.length (aF8 [33, 115, 101, 99, 114, 101, 116] l) : Int)) && decide ((List.length (aF8 [33, 115, 101, 99, 114, 101, 116] l) : Int) ≤ 64))))
   rw [← Bool.and_assoc (decide (1 ≤ (List.length (aF8 [117, 115, 101, 114] l) : Int))), ← h1, ← h2]
   generalize (aj3 [117, 115, 101, 114] l) = U
   generalize (aj3 [33, 115, 101, 99, 114, 101, 116] l) = V
   cases U.2 <;> cases V.2 <;> simp [Bool.and_assoc]
 ·simp [hc]
def bD1 (s : Str) : Str := [UInt8.ofNat (s.length % 256), UInt8.ofNat (s.length / 256)] ++ s
theorem aL4 (s : Str) : (bD1 s).length = s.length + 2 := by simp [bD1]
theorem bb8 (z : Int) : wrap .u8 z = z % 256 := by simp [wrap, IntKind.bits, signed]
theorem cM4 {n : Nat} (h : n ≤ 65535) : a27 (n : Int) 2 = some ([UInt8.ofNat (n % 256), UInt8.ofNat (n / 256)], 0) := by
 have w16 : wrap .i64 (8 * 2) = 16 := by decide
 have s16 : bt4 .i64 (n : Int) 16 = some 0 := by
  unfold bt4
  rw [if_neg (by omega)]
  have : min (Int.toNat 16) (IntKind.bits .i64) = 16 := by decide
  rw [this]
  congr 1
  rw [Int.fdiv_eq_ediv_of_nonneg _ (by decide)]
  have : ((2 : Int) ^ 16) = 65536 := by decide
  rw [this]; omega
 have hm : mkC 1 (0 : Int) 2 2 = some [0, 0] := by decide
 have s0 : bt4 .i64 (n : Int) 0 = some (n : Int) := by
  unfold bt4
  rw [if_neg (by omega)]
  have : min (Int.toNat 0) (IntKind.bits .i64) = 0 := by decide
  rw [this]
  congr 1
  simp
 have s8 : bt4 .i64 (n : Int) 8 = some ((n / 256 : Nat) : Int) := by
  unfold bt4
  rw [if_neg (by omega)]
  have : min (Int.toNat 8) (IntKind.bits .i64) = 8 := by decide
  rw [this]
  congr 1
  rw [Int.fdiv_eq_ediv_of_nonneg _ (by decide)]
  have : ((2 : Int) ^ 8) = 256 := by decide
  rw [this]; omega
 have w0 : wrap .i64 (8 * 0) = 0 := by decide
 have w8 : wrap .i64 (8 * 1) = 8 := by decide
 have b1 : an9 (n : Int) [0, 0] 0 [0, 0] = some (.cont (1, [((n : Int) % 256), 0])) := by
  have q0 : wrap .i64 0 = 0 := by decide
  have q1 : wrap .i64 1 = 1 := by decide
  simp [an9, q0, q1, s0, ae2, bb8]
 have b2 : an9 (n : Int) [0, 0] 1 [((n : Int) % 256), 0] = some (.cont (2, [((n : Int) % 256), (((n / 256 : Nat) : Int) % 256)])) := by
  have q0 : wrap .i64 8 = 8 := by decide
  have q1 : wrap .i64 2 = 2 := by decide
  simp [an9, q0, q1, s8, ae2, bb8]
 have b3 : an9 (n : Int) [0, 0] 2 [((n : Int) % 256), (((n / 256 : Nat) : Int) % 256)] = some (.done ([UInt8.ofNat (n % 256), UInt8.ofNat (n / 256)], 0)) := by
  have e1 : Int.toNat ((n : Int) % 256) = n % 256 := by omega
  have e2 : Int.toNat (((n / 256 : Nat) : Int) % 256) = n / 256 := by omega
  simp only [an9, bG6, map_cons, List.map_nil, e1, e2]
  simp
 unfold a27
 have hn : ¬ ((n : Int) < 0) := by omega
 simp only [hn, decide_false, false_eq_true, if_false, show decide ((2 : Int) < 1) = false from by decide, show decide ((8 : Int) < 2) = false from by decide, show decide ((2 : Int) < 8) = true from by decide, Bool.or_self, if_true, w16, s16, Option.bind_some, show decide ((0 : Int) < 0) = false from by decide, hm]
 rw [ah2 (s' := (1, [((n : Int) % 256), 0])) b1, ah2 (s' := (2, [((n : Int) % 256), (((n / 256 : Nat) : Int) % 256)])) b2]
 exact ax5 b3
theorem aV0 {s : Str} (h : s.length ≤ 65535) : ar6 s = some (bD1 s) := by
 unfold ar6 aX2
 have h1 : ¬ ((65535 : Int) < (List.length s : Int)) := by omega
 simp only [h1, decide_false, false_eq_true, if_false, cM4 h, Option.bind_some]
 have : aj1 [UInt8.ofNat (List.length s % 256), UInt8.ofNat (List.length s / 256)] s = some (bD1 s) := by
  unfold aj1; rw [if_pos (by simp; omega)]; rfl
 rw [this]; rfl
theorem ci4 {n : Nat} (h : n ≤ 65535) : a32 (n : Int) 2 = some ([UInt8.ofNat (n % 256), UInt8.ofNat (n / 256)], 0) := by
 have q0 : wrap .i64 1 = 1 := by decide
 have q1 : wrap .i64 2 = 2 := by decide
 have m0 : tmod (n : Int) 256 = ((n % 256 : Nat) : Int) := by rw [Int.tmod_eq_emod_of_nonneg (by omega)]; omega
 have d0 : tdiv (n : Int) 256 = ((n / 256 : Nat) : Int) := by rw [Int.tdiv_eq_ediv_of_nonneg (by omega)]; omega
 have m1 : tmod ((n / 256 : Nat) : Int) 256 = ((n / 256 : Nat) : Int) := by rw [Int.tmod_eq_emod_of_nonneg (by omega)]; omega
 have d1 : tdiv ((n / 256 : Nat) : Int) 256 = 0 := by rw [Int.tdiv_eq_ediv_of_nonneg (by omega)]; omega
 have e1 : Int.toNat (wrap .u8 ((n % 256 : Nat) : Int)) = n % 256 := by rw [bb8]; omega
 have e2 : Int.toNat (wrap .u8 ((n / 256 : Nat) : Int)) = n / 256 := by rw [bb8]; omega
 have b1 : ao4 2 [] (n : Int) 0 = some (.cont ([UInt8.ofNat (n % 256)], ((n / 256 : Nat) : Int), 1)) := by
  have h0 : (0 : Int) ≤ (n : Int) := by omega
  have hw : wrap .i64 ((n / 256 : Nat) : Int) = ((n / 256 : Nat) : Int) := ab3 (by omega) (by omega)
  simp only [ao4, h0, decide_true, Bool.and_true, show decide ((0 : Int) < 2) = true from by decide, if_true, m0, d0, e1, hw]
  have : aj1 [] [UInt8.ofNat (n % 256)] = some [UInt8.ofNat (n % 256)] := rfl
  rw [this, Option.bind_some, show wrap .i64 (0 + 1) = 1 from by decide]
 have b2 : ao4 2 [UInt8.ofNat (n % 256)] ((n / 256 : Nat) : Int) 1 = some (.cont ([UInt8.ofNat (n % 256), UInt8.ofNat (n / 256)], 0, 2)) := by
  have h0 : (0 : Int) ≤ ((n / 256 : Nat) : Int) := by omega
  simp only [ao4, h0, decide_true, Bool.and_true, show decide ((1 : Int) < 2) = true from by decide, if_true, m1, d1, e2]
  have : aj1 [UInt8.ofNat (n % 256)] [UInt8.ofNat (n / 256)] = some [UInt8.ofNat (n % 256), UInt8.ofNat (n / 256)] := rfl
  rw [this, Option.bind_some, show wrap .i64 (1 + 1) = 2 from by decide, show wrap .i64 0 = 0 from by decide]
 have b3 : ao4 2 [UInt8.ofNat (n % 256), UInt8.ofNat (n / 256)] 0 2 = some (.done ([UInt8.ofNat (n % 256), UInt8.ofNat (n / 256)], 0)) := by
  simp [ao4, aX7]
 unfold a32 bb4
 simp only [Option.bind_some, show (!(decide ((1 : Int) ≤ 2) && decide ((2 : Int) ≤ 8))) = false from by decide, false_eq_true, if_false]
 rw [ah2 (s' := ([UInt8.ofNat (n % 256)], ((n / 256 : Nat) : Int), 1)) b1, ah2 (s' := ([UInt8.ofNat (n % 256), UInt8.ofNat (n / 256)], 0, 2)) b2]
 exact ax5 b3
theorem cy9 {s : Str} (h : s.length ≤ 65535) : aD2 s = some (bD1 s) := by
 unfold aD2 aX8
 have : aj1 [UInt8.ofNat (List.length s % 256), UInt8.ofNat (List.length s / 256)] s = some (bD1 s) := by
  unfold aj1; rw [if_pos (by simp; omega)]; rfl
 simp only [ci4 h, Option.bind_some, decide_true, Bool.not_true, false_eq_true, if_false, this]
def ai3 : Str := [99, 104, 97, 108]
def aD6 : Str := [109, 117, 116, 117, 97, 108]
def ap7 : Str := [112, 108, 97, 105, 110]
def aQ6 (p : Str) : Int := if p = ai3 then 3 else if p = aD6 then 3 else if p = ap7 then 2 else 0
def bn1 (p : Str) : Int := if p = ai3 then 2 else 1
def aQ0 (p : Str) (role n : Int) : Bool := decide ((decide (tmod n 2 = 0)) = decide (role = bn1 p))
def phS (c : aa3) : Int := if c.Step = aQ6 c.Pz then 3 else if aQ0 c.Pz c.Rz c.Step = true then 1 else 2
theorem bv9 (p : Str) : ak6 p = some (aQ6 p) := by
 unfold ak6 ay1 aQ6 ai3 aD6 ap7
 by_cases h1 : p = [99, 104, 97, 108]
 ·simp [h1]
 ·by_cases h2 : p = [109, 117, 116, 117, 97, 108]
  ·simp [h2]
  ·by_cases h3 : p = [112, 108, 97, 105, 110]
   ·simp [h3]
   ·simp [h1, h2, h3]
theorem cu0 (p : Str) : aW8 p = some (bn1 p) := by
 unfold aW8 bn1 ai3
 by_cases h1 : p = [99, 104, 97, 108] <;> simp [h1]
theorem b28 (p : Str) (role n : Int) : aT7 p role n = some (aQ0 p role n) := by
 unfold aT7 aK8 aQ0 bn1 ai3
 by_cases h1 : p = [99, 104, 97, 108] <;> simp [h1]
theorem bU9 (c : aa3) : aN9 c = some (phS c) := by
 unfold aN9 phS
 rw [bv9, Option.bind_some]
 by_cases h : c.Step = aQ6 c.Pz
 ·simp [h]
 ·simp only [h, decide_false, false_eq_true, if_false, cu0, Option.bind_some]
  unfold aQ0
  cases decide (decide (tmod c.Step 2 = 0) = decide (c.Rz = bn1 c.Pz)) <;> rfl
def ah1 (p : Str) : Bool := decide (p = ai3) || (decide (p = aD6) || decide (p = ap7))
theorem bw0 {p : Str} (h : ah1 p = true) : aO7 p = some (aQ6 p) := by
 unfold ah1 at h
 simp only [or_eq_true, decide_eq_true_eq] at h
 rcases h with rfl | rfl | rfl <;> rfl
theorem cu1 {c : aa3} (h : ah1 c.Pz = true) : aT8 c = some (phS c) := by
 unfold aT8 phS
 rw [bw0 h, Option.bind_some]
 by_cases h2 : c.Step = aQ6 c.Pz
 ·simp [h2]
 ·simp only [h2, decide_false, false_eq_true, if_false, b28, Option.bind_some]
  cases aQ0 c.Pz c.Rz c.Step <;> rfl
theorem bO4 (p : Str) : decide (aQ6 p = 0) = !ah1 p := by
 unfold aQ6 ah1
 by_cases h1 : p = ai3
 ·simp [h1]
 ·by_cases h2 : p = aD6
  ·simp [h2]
  ·by_cases h3 : p = ap7
   ·subst h3; decide
   ·simp [h1, h2, h3]
theorem bg0 (p : Str) : ag4 [[99, 104, 97, 108], [109, 117, 116, 117, 97, 108], [112, 108, 97, 105, 110]] p = some (ah1 p) := by
 unfold ag4 an2
 have : ab1 (fun s => ag3 [[99, 104, 97, 108], [109, 117, 116, 117, 97, 108], [112, 108, 97, 105, 110]] p s) 0 = some (ixF (fun x => decide (p = x)) [ai3, aD6, ap7] 0) := by
  refine bu8 [ai3, aD6, ap7] _ _ (fun i hi => ?_) ?_
  ·have hi' : i < [([99, 104, 97, 108] : Str), [109, 117, 116, 117, 97, 108], [112, 108, 97, 105, 110]].length := hi
   have hi3 : i < 3 := hi
   simp only [ag3, dlt hi', if_true, aa8 hi', Option.bind_some]
   rw [ab0 (by omega)]
   show (if decide (p = [ai3, aD6, ap7][i]) = true then _ else _) = _
   cases decide (p = [ai3, aD6, ap7][i]) <;> rfl
  ·simp [ag3]
 rw [this, Option.bind_some]
 unfold ah1
 by_cases h1 : p = ai3
 ·simp [ixF, h1]
 ·by_cases h2 : p = aD6
  ·have : ¬ (aD6 = ai3) := by decide
   simp [ixF, h2, this]
  ·by_cases h3 : p = ap7
   ·have e1 : ¬ (ap7 = ai3) := by decide
    have e2 : ¬ (ap7 = aD6) := by decide
    simp [ixF, h3, e1, e2]
   ·simp [ixF, h1, h2, h3]
variable {c : aa3}
def usr (c : aa3) : Str := aF8 a41 c.Key
def sec (c : aa3) : Str := aF8 bO3 c.Key
def bg1 (l : List aa1) : Bool := (decide (1 ≤ (List.length (aF8 a41 l) : Int)) && (decide ((List.length (aF8 a41 l) : Int) ≤ 32) && (decide (1 ≤ (List.length (aF8 bO3 l) : Int)) && decide ((List.length (aF8 bO3 l) : Int) ≤ 64))))
theorem bg2 {t : aa4} {n : Str} (h : t.Conv.Key.length ≤ 1000000) : ad7 t n = some (aF8 n t.Conv.Key) := by
 unfold ad7 aF8
 rw [bk2 h]; rfl
theorem bg3 {l : List aa1} (h : l.length ≤ 1000000) : ak7 l = some (aF8 a41 l) := by
 unfold ak7 aF8 a41
 rw [aM5 h]; rfl
theorem bw1 {l : List aa1} (h : l.length ≤ 1000000) : au0 l = some (aF8 bO3 l) := by
 unfold au0 aF8 bO3
 rw [aM5 h]; rfl
theorem bw2 {l : List aa1} (hl : l.length ≤ 1000000) : aM0 l = some (bg1 l) := by
 unfold aM0
 simp only [bk2 hl, Option.bind_some]
 congr 1
 have aux : ∀ (n : Str) (K : Int), ((aj3 n l).2 && (decide (1 ≤ (List.length (aj3 n l).1 : Int)) && decide ((List.length (aj3 n l).1 : Int) ≤ K))) = (decide (1 ≤ (List.length (aF8 n l) : Int)) && decide ((List.length (aF8 n l) : Int) ≤ K)) := by
  intro n K
  unfold aF8
  cases hf : (aj3 n l).2 with
  | false => rw [bv8 hf]; rfl
  | true => rw [Bool.true_and]
 have h1 := aux a41 32
 have h2 := aux bO3 64
 unfold a41 at h1
 unfold bO3 at h2
 show _ = (decide (1 ≤ (List.length (aF8 [117, 115, 101, 114] l) : Int)) && (decide ((List.length (aF8 [117, 115, 101, 114] l) : Int) ≤ 32) && (decide (1 ≤ (List.length (aF8 [33, 115, 101, 99, 114, 101, 116] l) : Int)) && decide ((List.length (aF8 [33, 115, 101, 99, 114, 101, 116] l) : Int) ≤ 64))))
 rw [← Bool.and_assoc (decide (1 ≤ (List.length (aF8 [117, 115, 101, 114] l) : Int))), ← h1, ← h2]
 generalize (aj3 [117, 115, 101, 114] l) = U
 generalize (aj3 [33, 115, 101, 99, 114, 101, 116] l) = V
 cases U.2 <;> cases V.2 <;> simp [Bool.and_assoc]
def bw3 (l : List aa1) : Bool := decide (aV5 l = 0) && bg1 l
theorem bV0 {l : List aa1} (h : Sh l) : ∃ e, au1 l = some e ∧ decide (e = 0) = bw3 l ∧ (e = 0 ∨ e = aV5 l ∧ aV5 l ≠ 0 ∨ e = 52 ∧ aV5 l = 0) := by
 unfold au1 bw3
 rw [bb6 h.ok, Option.bind_some]
 by_cases hc : aV5 l = 0
 ·simp only [hc, decide_true, Bool.not_true, false_eq_true, if_false, bg3 h.le, bw1 h.le, Option.bind_some, Bool.true_and]
  have e : ((decide ((List.length (aF8 a41 l) : Int) < 1)) || ((decide (32 < (List.length (aF8 a41 l) : Int))) || ((decide ((List.length (aF8 bO3 l) : Int) < 1)) || (decide (64 < (List.length (aF8 bO3 l) : Int)))))) = !bg1 l := by
   unfold bg1
   rw [Bool.eq_iff_iff]
   simp only [or_eq_true, decide_eq_true_eq, not_eq_true', and_eq_false_iff, decide_eq_false_iff_not]
   omega
  rw [e]
  cases bg1 l with
  | true => exact ⟨0, rfl, rfl, .inl rfl⟩
  | false => exact ⟨52, rfl, rfl, .inr (.inr ⟨rfl, trivial⟩)⟩
 ·refine ⟨aV5 l, by simp [hc], by simp [hc], .inr (.inl ⟨rfl, hc⟩)⟩
def bw4 (c : aa3) : aa3 := {c with Hz := phS c, Uz := if phS c = 3 then usr c else []}
theorem a74 (hp : ah1 c.Pz = true) (hk : c.Key.length ≤ 1000000) : ao0 c = some (bw4 c) := by
 unfold ao0 bw4
 rw [aL3 hk, Option.bind_some]
 have h1 : aT8 {c with Key := c.Key} = some (phS c) := cu1 hp
 rw [h1, Option.bind_some]
 by_cases h : phS c = 3
 ·have hv : ad7 (aa4.mk {c with Hz := phS c, Key := c.Key, Uz := []}) [117, 115, 101, 114] = some (usr c) := bg2 hk
  simp only [h, decide_true, if_true] at hv ⊢
  rw [hv]; rfl
 ·simp [h]
def bo1 (c : aa3) (n : Int) : Int := if c.Pz = ai3 ∧ n = 0 then 0 else if c.Pz = aD6 ∧ n = 1 then 0 else if c.Pz = aD6 ∧ n = 0 then ((usr c).length : Int) + 2 else -1
theorem bk5 {n : Int} (hk : c.Key.length ≤ 1000000) (hu : (usr c).length ≤ 65535) : aB0 c n = some (bo1 c n) := by
 have hv : ad7 (aa4.mk c) [117, 115, 101, 114] = some (usr c) := bg2 hk
 have hK : ∀ (n : Int) (b : Bool), aw3 c n b = some (if b = true then 0 else if c.Pz = aD6 ∧ n = 0 then ((usr c).length : Int) + 2 else -1) := by
  intro n b
  unfold aw3
  cases b with
  | true => rfl
  | false =>
   by_cases h : c.Pz = aD6 ∧ n = 0
   ·have h' := h.1; unfold aD6 at h'
    simp only [false_eq_true, if_false, h', h.2, decide_true, Bool.and_self, if_true, hv, Option.bind_some, aV0 hu, aL4]
    simp [aD6]
   ·have : (decide (c.Pz = [109, 117, 116, 117, 97, 108]) && decide (n = 0)) = false := by
     rw [and_eq_false_iff, decide_eq_false_iff_not, decide_eq_false_iff_not]
     rcases Classical.not_and_iff_not_or_not.1 h with h | h
     ·exact .inl h
     ·exact .inr h
    simp only [this, false_eq_true, if_false, h]
 unfold aB0 bo1
 by_cases h1 : c.Pz = ai3 ∧ n = 0
 ·have h' := h1.1; unfold ai3 at h'
  simp only [h', h1.2, decide_true, Bool.and_self, if_true, hK]
  simp [ai3]
 ·have : (decide (c.Pz = [99, 104, 97, 108]) && decide (n = 0)) = false := by
   rw [and_eq_false_iff, decide_eq_false_iff_not, decide_eq_false_iff_not]
   rcases Classical.not_and_iff_not_or_not.1 h1 with h | h
   ·exact .inl h
   ·exact .inr h
  simp only [this, false_eq_true, if_false, h1, hK]
  congr 1
  by_cases h2 : c.Pz = aD6 ∧ n = 1
  ·have h' := h2.1; unfold aD6 at h'
   simp only [h', h2.2, decide_true, Bool.and_self, if_true]
   simp [aD6]
  ·have : (decide (c.Pz = [109, 117, 116, 117, 97, 108]) && decide (n = 1)) = false := by
    rw [and_eq_false_iff, decide_eq_false_iff_not, decide_eq_false_iff_not]
    rcases Classical.not_and_iff_not_or_not.1 h2 with h | h
    ·exact .inl h
    ·exact .inr h
   simp only [this, false_eq_true, if_false, h2]
def kb (c : aa3) (n : Int) : Bool := decide (0 ≤ bo1 c n) && !aQ0 c.Pz c.Rz n
theorem bD2 {n : Nat} (hn : n ≤ 3) (hk : c.Key.length ≤ 1000000) (hu : (usr c).length ≤ 65535) : aC9 c n = some (if (n : Int) < c.Step then (if kb c n = true then .done true else .cont ((n : Int) + 1)) else .done false) := by
 unfold aC9
 by_cases h : (n : Int) < c.Step
 ·simp only [h, decide_true, if_true, bk5 hk hu, Option.bind_some, b28]
  unfold kb
  rw [ab0 (by omega)]
  by_cases q : 0 ≤ bo1 c n
  ·simp only [q, decide_true, if_true, Option.bind_some, Bool.true_and]
   cases aQ0 c.Pz c.Rz n <;> rfl
  ·simp [q]
 ·simp [h]
def bn2 (c : aa3) : Bool := (decide (0 < c.Step) && kb c 0) || ((decide (1 < c.Step) && kb c 1) || (decide (2 < c.Step) && kb c 2))
theorem cu2 (h0 : 0 ≤ c.Step) (h3 : c.Step ≤ 3) (hk : c.Key.length ≤ 1000000) (hu : (usr c).length ≤ 65535) : aU1 c = some (bn2 c) := by
 unfold aU1
 refine (ad1 3 (fun (_ : Unit) i => i) (fun s => aC9 c s) (fun i _ => match i with
   | 0 => bn2 c
   | 1 => (decide (1 < c.Step) && kb c 1) || (decide (2 < c.Step) && kb c 2)
   | 2 => decide (2 < c.Step) && kb c 2
   | _ => false) (fun i _ => (i : Int) ≤ 3) (s0 := ()) (by omega) ?_ ?_)
 ·intro _ i hi _
  rw [bD2 (by omega) hk hu]
  have hc : i = 0 ∨ i = 1 ∨ i = 2 := by omega
  by_cases hs : (i : Int) < c.Step
  ·simp only [hs, if_true]
   rcases hc with rfl | rfl | rfl
   ·have hs' : (0 : Int) < c.Step := hs
    have e : kb c ((0 : Nat) : Int) = kb c 0 := rfl
    cases hb : kb c 0 with
    | true =>
     right
     first | rw [e, hb] | skip
     simp [bn2, hs', hb]
    | false =>
     left
     first | rw [e, hb] | skip
     exact ⟨(), rfl, by simp [bn2, hs', hb], by omega⟩
   ·have hs' : (1 : Int) < c.Step := hs
    have e : kb c ((1 : Nat) : Int) = kb c 1 := rfl
    cases hb : kb c 1 with
    | true =>
     right
     first | rw [e, hb] | skip
     simp [hs', hb]
    | false =>
     left
     first | rw [e, hb] | skip
     exact ⟨(), rfl, by simp [hs', hb], by omega⟩
   ·have hs' : (2 : Int) < c.Step := hs
    have e : kb c ((2 : Nat) : Int) = kb c 2 := rfl
    cases hb : kb c 2 with
    | true =>
     right
     first | rw [e, hb] | skip
     simp [hs', hb]
    | false =>
     left
     first | rw [e, hb] | skip
     exact ⟨(), rfl, by simp [hs', hb], by omega⟩
  ·right
   simp only [hs, if_false]
   rcases hc with rfl | rfl | rfl
   ·have a1 : ¬ (0 : Int) < c.Step := hs
    have a2 : ¬ (1 : Int) < c.Step := by omega
    have a3 : ¬ (2 : Int) < c.Step := by omega
    simp [bn2, a1, a2, a3]
   ·have a2 : ¬ (1 : Int) < c.Step := hs
    have a3 : ¬ (2 : Int) < c.Step := by omega
    simp [a2, a3]
   ·have a3 : ¬ (2 : Int) < c.Step := hs
    simp [a3]
 ·intro _ _
  rw [bD2 (n := 3) (by omega) hk hu]
  have : ¬ ((3 : Nat) : Int) < c.Step := by omega
  simp only [this, if_false]
def az6 (c : aa3) : Bool := if c.Pz = ai3 then (decide (c.Rz = 1) && decide (0 < c.Step)) else if c.Pz = aD6 ∧ c.Rz = 2 then decide (0 < c.Step) else (decide (c.Pz = aD6) && decide (1 < c.Step))
theorem bw5 (c : aa3) : av9 c = some (az6 c) := by
 unfold av9 az6 ai3 aD6
 by_cases h1 : c.Pz = [99, 104, 97, 108]
 ·simp [h1]
 ·by_cases h2 : c.Pz = [109, 117, 116, 117, 97, 108] ∧ c.Rz = 2
  ·simp [h2.1, h2.2]
  ·have : (decide (c.Pz = [109, 117, 116, 117, 97, 108]) && decide (c.Rz = 2)) = false := by
    rw [and_eq_false_iff, decide_eq_false_iff_not, decide_eq_false_iff_not]
    rcases Classical.not_and_iff_not_or_not.1 h2 with h | h
    ·exact .inl h
    ·exact .inr h
   simp only [h1, decide_false, false_eq_true, if_false, this, h2]
theorem bw6 (hp : ah1 c.Pz = true) (hr : c.Rz = 1 ∨ c.Rz = 2) : bn2 c = az6 c := by
 unfold ah1 at hp
 simp only [or_eq_true, decide_eq_true_eq] at hp
 have n0 : ¬ (ai3 = aD6) := by decide
 have n1 : ¬ (aD6 = ai3) := by decide
 have n2 : ¬ (ap7 = ai3) := by decide
 have n3 : ¬ (ap7 = aD6) := by decide
 have hu : (0 : Int) ≤ ((usr c).length : Int) + 2 := by omega
 have d : tmod 0 2 = 0 ∧ tmod 1 2 = 1 ∧ tmod 2 2 = 0 := by decide
 rcases hp with h | h | h <;> rcases hr with r | r <;> simp [bn2, az6, kb, bo1, aQ0, bn1, h, r, n0, n1, n2, n3, hu, d]
variable {c : aa3} {a : aa2}
def bw7 (c : aa3) : Bool := !decide (c.Id < 0) && (!decide (1048575 < c.Id) && (ah1 c.Pz && ((decide (c.Rz = 1) || decide (c.Rz = 2)) && (bw3 c.Key && (decide ((List.length c.Own : Int) = 32) && (!decide (c.Step < 0) && !decide (aQ6 c.Pz < c.Step)))))))
def bg4 (c : aa3) : Bool := decide (c.Hz = 4) && decide (phS c = 2)
def stB (c : aa3) : Bool := (bg4 c || decide (c.Hz = phS c)) && (decide (c.Uz = if phS c = 3 then usr c else []) && decide (c.Err = if bg4 c = true then 28 else 0))
def bg5 (c : aa3) : Bool := if az6 c = true then decide ((List.length c.Ez : Int) = 32) else decide (c.Ez = [])
def ag5 (c : aa3) : Bool := bw7 c && (stB c && bg5 c)
theorem bw8 (p : Str) : aQ6 p ≤ 3 := by
 unfold aQ6
 split
 ·omega
 ·split
  ·omega
  ·split <;> omega
theorem b29 {c : aa3} (h : bw3 c.Key = true) : (usr c).length ≤ 32 ∧ 1 ≤ (usr c).length ∧ (sec c).length ≤ 64 ∧ 1 ≤ (sec c).length := by
 unfold bw3 bg1 at h
 simp only [and_eq_true, decide_eq_true_eq] at h
 unfold usr sec
 omega
theorem bO5 (hk : Sh c.Key) : aM1 c = some (ag5 c) := by
 have hl := hk.le
 unfold aM1 ag5
 by_cases h1 : c.Id < 0
 ·simp [h1, bw7]
 by_cases h2 : 1048575 < c.Id
 ·simp [h1, h2, bw7]
 by_cases h3 : ah1 c.Pz = true
 case neg =>
  rw [Bool.not_eq_true] at h3
  simp [h1, h2, h3, bw7, as4, bg0]
 by_cases h4 : c.Rz = 1 ∨ c.Rz = 2
 case neg =>
  have r1 : ¬ c.Rz = 1 := fun h => h4 (.inl h)
  have r2 : ¬ c.Rz = 2 := fun h => h4 (.inr h)
  simp [h1, h2, h3, r1, r2, bw7, as4, bg0]
 have e4 : (if (!decide (c.Rz = 1)) = true then some (!decide (c.Rz = 2)) else some false) = some false := by
  rcases h4 with h | h <;> simp [h]
 simp only [h1, h2, decide_false, false_eq_true, if_false, as4, Option.bind_some, bg0, h3, Bool.not_true, e4, bq0 hk.ok]
 by_cases h5 : bw3 c.Key = true
 case neg =>
  rw [Bool.not_eq_true] at h5
  have : (if (!decide (aV5 c.Key = 0)) = true then some true else (aM0 c.Key).bind fun x11 => if (!x11) = true then some true else if (!decide ((List.length c.Own : Int) = 32)) = true then some true else if decide (c.Step < 0) = true then some true else (aO7 c.Pz).bind fun x15 => some (decide (x15 < c.Step))) = some true := by
   unfold bw3 at h5
   by_cases hc : aV5 c.Key = 0
   ·simp only [hc, decide_true, Bool.true_and] at h5
    simp [hc, bw2 hl, h5]
   ·simp [hc]
  simp only [this, Option.bind_some, if_true]
  simp [bw7, h5]
 have h5' := h5
 unfold bw3 at h5'
 simp only [and_eq_true, decide_eq_true_eq] at h5'
 simp only [h5'.1, decide_true, Bool.not_true, false_eq_true, if_false, bw2 hl, h5'.2, Option.bind_some]
 by_cases h6 : (List.length c.Own : Int) = 32
 case neg => simp [h6, bw7]
 by_cases h7 : c.Step < 0
 ·simp [h6, h7, bw7]
 by_cases h8 : aQ6 c.Pz < c.Step
 ·simp [h6, h7, h8, bw7, bw0 h3]
 simp only [h6, h7, h8, decide_true, decide_false, Bool.not_true, false_eq_true, if_false, bw0 h3, Option.bind_some, a74 h3 hl]
 have hpre : bw7 c = true := by
  have e4' : (decide (c.Rz = 1) || decide (c.Rz = 2)) = true := by simpa using h4
  simp [bw7, h1, h2, h3, e4', h5, h6, h7, h8]
 have hm := bw8 c.Pz
 obtain ⟨u1, _⟩ := b29 h5
 rw [hpre, Bool.true_and]
 have eK : aU1 c = some (az6 c) := by rw [cu2 (by omega) (by omega) hl (by omega), bw6 h3 h4]
 have eP : (bw4 c).Hz = phS c := rfl
 have eU : (bw4 c).Uz = if phS c = 3 then usr c else [] := rfl
 rw [eP, eU, eK]
 have eF : (decide (c.Hz = 4) && decide (phS c = 2)) = bg4 c := rfl
 rw [eF]
 have key : (if (!bg4 c) = true then if (!decide (c.Hz = phS c)) = true then some true else if (!decide (c.Uz = if phS c = 3 then usr c else [])) = true then some true else if (!decide (bg4 c = decide (c.Err = 28))) = true then some true else some (!decide (c.Err = 0)) else if (!decide (c.Uz = if phS c = 3 then usr c else [])) = true then some true else if (!decide (bg4 c = decide (c.Err = 28))) = true then some true else some false) = some (!stB c) := by
  unfold stB
  generalize (if phS c = 3 then usr c else []) = X
  cases hf : bg4 c with
  | true =>
   by_cases q : c.Uz = X
   ·by_cases e : c.Err = 28
    ·simp [q, e]
    ·simp [q, e]
   ·simp [q]
  | false =>
   by_cases p : c.Hz = phS c
   ·by_cases q : c.Uz = X
    ·by_cases e : c.Err = 28
     ·simp [p, q, e]
     ·by_cases z : c.Err = 0
      ·simp [p, q, z]
      ·simp [p, q, e, z]
    ·simp [p, q]
   ·simp [p]
 rw [key, Option.bind_some]
 unfold bg5
 cases stB c with
 | false => simp
 | true => simp only [Bool.not_true, false_eq_true, if_false, Option.bind_some, Bool.true_and]; cases az6 c <;> rfl
def ap8 (c : aa3) : Bool := (decide (c.Pz = [])) && ((decide (c.Rz = 0)) && ((decide (c.Hz = 0)) && ((decide (c.Step = 0)) && ((decide (c.Key = [])) && ((decide (c.Own = [])) && ((decide (c.Ez = [])) && ((decide (c.Uz = [])) && (decide (c.Err = 0)))))))))
theorem bI2 (c : aa3) : aw2 c = some (ap8 c) := by
 unfold aw2 ap8
 have : decide ((List.length c.Key : Int) = 0) = decide (c.Key = []) := by
  rw [decide_eq_decide]
  constructor
  ·intro h; exact List.eq_nil_of_length_eq_zero (by omega)
  ·intro h; rw [h]; rfl
 rw [this]
theorem bw9 (h : c.Key.length ≤ 1000000) : aA1 c = some (ap8 c) := by
 unfold aA1 at9 ap8
 simp only [ci1 h, Option.bind_some, decide_true, if_true]
 by_cases h1 : c.Pz = []
 case neg => simp [h1]
 by_cases h2 : c.Rz = 0
 case neg => simp [h1, h2]
 by_cases h3 : c.Hz = 0
 case neg => simp [h1, h2, h3]
 by_cases h4 : c.Step = 0
 case neg => simp [h1, h2, h3, h4]
 by_cases h5 : c.Key = []
 case neg => simp [h1, h2, h3, h4, h5]
 by_cases h6 : c.Own = []
 case neg => simp [h1, h2, h3, h4, h5, h6]
 by_cases h7 : c.Ez = []
 case neg => simp [h1, h2, h3, h4, h5, h6, h7]
 by_cases h8 : c.Uz = []
 case neg => simp [h1, h2, h3, h4, h5, h6, h7, h8]
 simp [h1, h2, h3, h4, h5, h6, h7, h8]
theorem cM5 (o s : Str) : ak2 o s = aT3 o s := rfl
def ci5 (l : List (List aa1)) (i : Nat) (k : List aa1) : Bool := b90 k && !((l.take i).any fun o => decide (pub o = pub k))
theorem ci6 {l : List (List aa1)} {k : List aa1} (hl : l.length ≤ 1000000) (h : ∀ o ∈ l, o.length ≤ 1000000) (hk : k.length ≤ 1000000) : ad6 l k = some (l.any fun o => decide (pub o = pub k)) := by
 unfold ad6
 have : ae9 l k = some (bh6 (fun o => decide (pub o = pub k)) l) := by
  unfold ae9
  refine aY5 hl (fun i hi => ?_) ?_
  ·simp only [ad5, dlt hi, if_true, aa8 hi, Option.bind_some, a29, b27 (h _ (getElem_mem hi)) hk]
  ·simp [ad5]
 rw [this, Option.bind_some, bH3]
theorem cE0 (h : Lim a) : aU0 a = some (bQ1 (ci5 a.Kz) 0 a.Kz && decide ((List.length a.Kz : Int) ≤ 64)) := by
 have h1 := h.keys
 unfold aU0
 refine (bN1 a.Kz (ci5 a.Kz) false (decide ((List.length a.Kz : Int) ≤ 64)) _ (fun i hi => ?_) ?_).trans ?_
 ·have hk := h.key _ (getElem_mem hi)
  have hc : cut a.Kz 0 (i : Int) = some (a.Kz.take i) := aN5 (by omega)
  simp only [aG8, dlt hi, if_true, aa8 hi, Option.bind_some, cy8 hk, hc, ci6 (show (a.Kz.take i).length ≤ 1000000 by simp; omega) (fun o ho => (h.key o (List.mem_of_mem_take ho)).le) hk.le]
  rw [ab0 (by omega)]
  unfold ci5
  cases b90 a.Kz[i] <;> cases ((a.Kz.take i).any fun o => decide (pub o = pub a.Kz[i])) <;> rfl
 ·simp [aG8]
 ·cases bQ1 (ci5 a.Kz) 0 a.Kz <;> rfl
def bx0 (a : aa2) (i : Nat) (c : aa3) : Bool := !decide (c.Id < 1) && (!decide (a.Xz ≤ c.Id) && ((match i with | 0 => true | k + 1 => match a.Cz[k]? with | some p => !decide (c.Id ≤ p.Id) | none => false) && (ap8 c || ag5 c)))
def bI3 (a : aa2) : Bool := !((decide (a.Oz = [])) || ((decide (32 < (List.length a.Oz : Int))) || ((decide (1024 < (List.length a.Sz : Int))) || ((decide (a.Xz < 1)) || ((decide (1048560 < a.Xz)) || ((decide (a.Nz < 0)) || (decide (9007199254740991 < a.Nz))))))))
def bn3 (a : aa2) : Bool := bI3 a && (!decide (32 < (List.length a.Cz : Int)) && (!decide (64 < (List.length a.Kz : Int)) && (bQ1 (ci5 a.Kz) 0 a.Kz && bQ1 (bx0 a) 0 a.Cz)))
theorem ci7 {β : Type} {i : Nat} (hi : i < a.Cz.length) (hl : a.Cz.length ≤ 1000000) (F : aa3 → Option Bool) (hF : F a.Cz[i] = some (ap8 a.Cz[i] || ag5 a.Cz[i])) (f g : aa3 → Option Bool)
  (hf : f a.Cz[i] = some (ap8 a.Cz[i])) (hg : g a.Cz[i] = some (ag5 a.Cz[i])) :
  (if (decide ((a.Cz[i]).Id < 1)) then some true else if (decide (a.Xz ≤ (a.Cz[i]).Id)) then some true else if (decide (0 < (i : Int))) then (ae2 a.Cz (wrap .i64 ((i : Int) - 1))).bind fun x30 => if (decide ((a.Cz[i]).Id ≤ x30.Id)) then some true else (f a.Cz[i]).bind fun x32 => if (!x32) then (g a.Cz[i]).bind fun x34 => some (!x34) else some false else (f a.Cz[i]).bind fun x35 => if (!x35) then (g a.Cz[i]).bind fun x37 => some (!x37) else some false) = some (!bx0 a i a.Cz[i]) := by
 unfold bx0
 have hfg : ((f a.Cz[i]).bind fun x32 => if (!x32) then (g a.Cz[i]).bind fun x34 => some (!x34) else some false) = some (!(ap8 a.Cz[i] || ag5 a.Cz[i])) := by
  rw [hf, hg, Option.bind_some]
  cases ap8 a.Cz[i] <;> simp
 simp only [hfg]
 by_cases h1 : (a.Cz[i]).Id < 1
 ·simp [h1]
 by_cases h2 : a.Xz ≤ (a.Cz[i]).Id
 ·simp [h1, h2]
 simp only [h1, h2, decide_false, false_eq_true, if_false, Bool.not_false, Bool.true_and]
 cases i with
 | zero => simp
 | succ k =>
  have hk : k < a.Cz.length := by omega
  have hw : wrap .i64 (((k + 1 : Nat) : Int) - 1) = (k : Int) := by rw [ab3 (by omega) (by omega)]; omega
  have hp : (0 : Int) < ((k + 1 : Nat) : Int) := by omega
  rw [hw, aa8 hk]
  simp only [hp, decide_true, if_true, Option.bind_some, List.getElem?_eq_getElem hk]
  by_cases h3 : (a.Cz[k + 1]).Id ≤ (a.Cz[k]).Id
  ·simp [h3]
  ·simp [h3]
theorem b30 (h : Lim a) : aw4 a = some (bn3 a) := by
 have h1 := h.keys
 have h2 := h.convs
 unfold aw4 bn3
 have eb : ((decide (a.Oz = [])) || ((decide (32 < (List.length a.Oz : Int))) || ((decide (1024 < (List.length a.Sz : Int))) || ((decide (a.Xz < 1)) || ((decide (1048560 < a.Xz)) || ((decide (a.Nz < 0)) || (decide (9007199254740991 < a.Nz)))))))) = !bI3 a := by unfold bI3; rw [Bool.not_not]
 rw [eb]
 cases bI3 a with
 | false => rfl
 | true =>
  simp only [Bool.not_true, false_eq_true, if_false, Bool.true_and]
  by_cases q1 : (32 : Int) < (List.length a.Cz : Int)
  ·simp [q1]
  by_cases q2 : (64 : Int) < (List.length a.Kz : Int)
  ·simp [q1, q2]
  have q2' : decide ((List.length a.Kz : Int) ≤ 64) = true := by simp; omega
  simp only [q1, q2, decide_false, false_eq_true, if_false, cE0 h, q2', Option.bind_some, Bool.and_true, Bool.not_false, Bool.true_and]
  cases bQ1 (ci5 a.Kz) 0 a.Kz with
  | false => rfl
  | true =>
   simp only [Bool.not_true, false_eq_true, if_false, Bool.true_and]
   refine (bN1 a.Cz (bx0 a) false true _ (fun i hi => ?_) ?_).trans ?_
   ·have hs := (h.conv _ (getElem_mem hi)).key
    simp only [aD0, dlt hi, if_true, aa8 hi, Option.bind_some]
    rw [ci7 (β := Unit) hi (by omega) (fun _ => some (ap8 a.Cz[i] || ag5 a.Cz[i])) rfl aw2 aM1 (bI2 _) (bO5 hs), Option.bind_some, ab0 (by omega)]
    cases bx0 a i a.Cz[i] <;> rfl
   ·simp [aD0]
   ·cases bQ1 (bx0 a) 0 a.Cz <;> rfl
structure Val (a : aa2) : Prop where
 lim : Lim a
 ok : bn3 a = true
theorem Val.base (v : Val a) : a.Oz ≠ [] ∧ a.Oz.length ≤ 32 ∧ a.Sz.length ≤ 1024 ∧ 1 ≤ a.Xz ∧ a.Xz ≤ 1048560 ∧ 0 ≤ a.Nz ∧ a.Nz ≤ 9007199254740991 ∧ a.Cz.length ≤ 32 ∧ a.Kz.length ≤ 64 := by
 have h := v.ok
 unfold bn3 bI3 at h
 simp only [and_eq_true, not_eq_true', Bool.or_eq_false_iff, decide_eq_false_iff_not] at h
 obtain ⟨⟨h1, h2, h3, h4, h5, h6, h7⟩, h8, h9, _⟩ := h
 exact ⟨h1, by omega, by omega, by omega, by omega, by omega, by omega, by omega, by omega⟩
theorem Val.convAt (v : Val a) {i : Nat} (hi : i < a.Cz.length) : 1 ≤ (a.Cz[i]).Id ∧ (a.Cz[i]).Id < a.Xz ∧ (ap8 a.Cz[i] = true ∨ ag5 a.Cz[i] = true) := by
 have h := v.ok
 unfold bn3 at h
 simp only [and_eq_true] at h
 have := be2.1 h.2.2.2.2 i hi
 unfold bx0 at this
 simp only [and_eq_true, not_eq_true', decide_eq_false_iff_not, or_eq_true] at this
 exact ⟨by omega, by omega, this.2.2.2⟩
theorem Val.conv (v : Val a) {c : aa3} (hc : c ∈ a.Cz) : 1 ≤ c.Id ∧ c.Id < 1048560 := by
 obtain ⟨i, hi, rfl⟩ := List.getElem_of_mem hc
 have := v.convAt hi
 have := v.base
 omega
theorem Val.key (v : Val a) {k : List aa1} (hk : k ∈ a.Kz) : b90 k = true := by
 obtain ⟨i, hi, rfl⟩ := List.getElem_of_mem hk
 have h := v.ok
 unfold bn3 at h
 simp only [and_eq_true] at h
 have := be2.1 h.2.2.2.1 i hi
 unfold ci5 at this
 simp only [and_eq_true] at this
 exact this.1
def aL5 (a : aa2) (id : Int) : Int := ixF (fun c => decide (c.Id = id - 16)) a.Cz 0
theorem ci8 {c : aa3} {id : Int} (w : -9223372036854775808 ≤ id ∧ id ≤ 9223372036854775807) (h : 1 ≤ c.Id ∧ c.Id < 1048560) : decide (c.Id = wrap .i64 (id - 16)) = decide (c.Id = id - 16) := by
 by_cases q : -9223372036854775792 ≤ id
 ·rw [ab3 (by omega) (by omega)]
 ·have : wrap .i64 (id - 16) = id - 16 + 18446744073709551616 := by
   have e : wrap .i64 (id - 16) = if 9223372036854775808 ≤ (id - 16) % 18446744073709551616 then (id - 16) % 18446744073709551616 - 18446744073709551616 else (id - 16) % 18446744073709551616 := by simp [wrap, IntKind.bits, signed]
   rw [e]
   split <;> omega
  rw [this, decide_eq_decide]
  omega
theorem bx1 (v : Val a) {id : Int} (w : -9223372036854775808 ≤ id ∧ id ≤ 9223372036854775807) : aA8 a id = some (aL5 a id) := by
 have hb := v.base
 unfold aA8 ah6
 have : ab1 (fun s => ab6 a.Cz id s) 0 = some (aL5 a id) := by
  refine bu8 a.Cz _ _ (fun i hi => ?_) ?_
  ·simp only [ab6, dlt hi, if_true, aa8 hi, Option.bind_some, a26, ci8 w (v.conv (getElem_mem hi))]
   rw [ab0 (by omega)]
   cases decide ((a.Cz[i]).Id = id - 16) <;> rfl
  ·simp [ab6]
 rw [this]; rfl
theorem aM6 (v : Val a) {id : Int} (w : -9223372036854775808 ≤ id ∧ id ≤ 9223372036854775807) : aB1 a id = some (aL5 a id) := by
 have hb := v.base
 unfold aB1
 refine bu8 a.Cz _ _ (fun i hi => ?_) ?_
 ·have hc := v.conv (getElem_mem hi)
  simp only [aL0, dlt hi, if_true, aa8 hi, Option.bind_some, ci8 w hc]
  rw [ab0 (by omega)]
  by_cases q : 16 < id
  ·simp only [q, decide_true, if_true, Option.bind_some]
   cases decide ((a.Cz[i]).Id = id - 16) <;> rfl
  ·have : ¬ ((a.Cz[i]).Id = id - 16) := by omega
   simp [q, this]
 ·simp [aL0]
def an4 (a : aa2) (id : Int) : Bool := (decide (1 ≤ id) && decide (id ≤ 4)) || decide (0 ≤ aL5 a id)
theorem bg6 (v : Val a) {id : Int} (w : -9223372036854775808 ≤ id ∧ id ≤ 9223372036854775807) : an8 a id = some (an4 a id) := by
 unfold an8 an4
 rw [bx1 v w]
 cases decide (1 ≤ id) <;> cases decide (id ≤ 4) <;> simp
theorem aR5 (v : Val a) {id : Int} (w : -9223372036854775808 ≤ id ∧ id ≤ 9223372036854775807) : ao2 a id = some (an4 a id) := by
 unfold ao2 an4
 rw [aM6 v w]
 cases decide (1 ≤ id) <;> cases decide (id ≤ 4) <;> simp
theorem aA4 (v : Val a) (id : Int) : aL5 a id = -1 ∨ ∃ i, ∃ h : i < a.Cz.length, aL5 a id = (i : Int) ∧ (a.Cz[i]).Id = id - 16 ∧ 17 ≤ id ∧ id < 1048576 := by
 rcases bu7 (fun c => decide (c.Id = id - 16)) a.Cz 0 with ⟨h1, h2⟩ | ⟨x, k, y, h1, h2, h3, h4⟩
 ·exact .inl h2
 ·refine .inr ⟨x.length, by rw [h1]; simp, by unfold aL5; rw [h4]; simp, ?_⟩
  have hk : a.Cz[x.length]? = some k := by rw [h1]; simp
  have hi : x.length < a.Cz.length := by rw [h1]; simp
  have e : a.Cz[x.length] = k := by
   rw [List.getElem?_eq_getElem hi] at hk
   exact Option.some.inj hk
  have hid := of_decide_eq_true h2
  have := v.conv (c := k) (by rw [h1]; simp)
  rw [e]
  omega
def bn4 (p : List aa1) : List (List aa1) → List aa1 × Bool
 | [] => ([], false)
 | k :: r => if p.all (aK4 k) = true then (k, true) else bn4 p r
theorem cM6 (h : Lim a) {p : List aa1} (hp : p.length ≤ 1000000) : aT9 a p = some (bn4 p a.Kz) := by
 have h1 := h.keys
 unfold aT9
 refine (ad1 a.Kz.length (fun (_ : Unit) i => i) (fun s => aI2 a p s) (fun i _ => bn4 p (a.Kz.drop i)) (fun _ _ => True) (s0 := ()) trivial ?_ ?_)
 ·intro _ i hi _
  have hk := (h.key _ (getElem_mem hi)).le
  simp only [aI2, dlt hi, if_true, aa8 hi, Option.bind_some, bk3 hk hp, aL3 hk]
  rw [drop_eq_getElem_cons hi]
  cases q : p.all (aK4 a.Kz[i]) with
  | true => right; simp [bn4, q]
  | false => left; exact ⟨(), by rw [ab0 (by omega)]; simp, by simp [bn4, q], trivial⟩
 ·intro _ _
  simp [aI2, bn4]
theorem ci9 (h : Lim a) {p : List aa1} (hp : p.length ≤ 1000000) : aU4 a p = some (bn4 p a.Kz) := by
 have h1 := h.keys
 unfold aU4
 refine (ad1 a.Kz.length (fun (_ : Unit) i => i) (fun s => aI8 a p s) (fun i _ => bn4 p (a.Kz.drop i)) (fun _ _ => True) (s0 := ()) trivial ?_ ?_)
 ·intro _ i hi _
  have hk := (h.key _ (getElem_mem hi)).le
  have hap : aD8 40 ([] : List aa1) a.Kz[i] = some a.Kz[i] := by rw [af3 (by simp; omega) (by simp; omega)]; simp
  simp only [aI8, dlt hi, if_true, aa8 hi, Option.bind_some, bf8 hk hp, hap]
  rw [drop_eq_getElem_cons hi]
  cases q : p.all (aK4 a.Kz[i]) with
  | true => right; simp [bn4, q]
  | false => left; exact ⟨(), by rw [ab0 (by omega)]; simp, by simp [bn4, q], trivial⟩
 ·intro _ _
  simp [aI8, bn4]
theorem bq2 {p : List aa1} : ∀ {l : List (List aa1)}, (bn4 p l).2 = true → (bn4 p l).1 ∈ l
 | k :: r, h => by
  unfold bn4 at h ⊢
  split
  ·simp
  ·rename_i q
   rw [if_neg q] at h
   exact List.mem_cons_of_mem _ (bq2 h)
variable {c : aa3} {a : aa2} {id : Int}
def bl5 (a : aa2) : List Int := [2, 3, 4] ++ a.Cz.map fun c => 16 + c.Id
def bz5 (k : List aa1) : Str := [107, 101, 121, 32] ++ (if aV5 (pub k) = 0 then aP8 (pub k) else []) ++ [10]
def bk6 (a : aa2) (id : Int) : Str := if id = 2 then (a.Kz.map bz5).flatten else if id = 3 then ai3 ++ [10] ++ (aD6 ++ [10]) ++ (ap7 ++ [10]) else []
theorem bx2 {k : List aa1} (h : Sh k) : (bz5 k).length ≤ 31000000 := by
 have hp := ci2 h
 have h1 : (aP8 (pub k)).length ≤ 2000 * 15004 + 10 := by
  unfold aP8
  have := b23 (K := 15003) (sep := [32]) (l := (pub k).map bh7) (fun x hx => by
   obtain ⟨y, hy, rfl⟩ := List.mem_map.1 hx
   exact b22 (hp.ok.2 y hy))
  have h2 := hp.len
  simp only [List.length_map] at this
  have h3 : (pub k).length * (15003 + List.length ([32] : Str)) ≤ 2000 * 15004 := Nat.mul_le_mul h2 (by simp)
  omega
 unfold bz5
 split <;> simp <;> omega
theorem b31 : ∀ {l : List (List aa1)}, (∀ k ∈ l, Sh k) → (l.map bz5).flatten.length ≤ l.length * 31000000
 | [], _ => by simp
 | k :: r, h => by
  have h1 := bx2 (h k (by simp))
  have h2 := b31 (l := r) fun x hx => h x (by simp [hx])
  simp only [map_cons, flatten_cons, length_append, List.length_cons]
  omega
theorem bO6 (v : Val a) : (bk6 a id).length ≤ 2300000000 := by
 have hb := v.base
 unfold bk6
 split
 ·have := b31 (l := a.Kz) v.lim.key
  omega
 ·split
  ·decide
  ·simp
theorem bV1 (v : Val a) : aG4 a id = some (bk6 a id) := by
 have hb := v.base
 unfold aG4 bk6
 by_cases h2 : id = 2
 ·simp only [h2, decide_true, if_true]
  refine (ad1 a.Kz.length (fun (s : Str) i => (i, s)) (fun s => ao1 a s.1 s.2) (fun i s => s ++ ((a.Kz.drop i).map bz5).flatten) (fun i s => s.length ≤ i * 31000000) (s0 := []) (by simp) ?_ ?_).trans rfl
  ·intro s i hi hs
   left
   have hk := v.lim.key _ (getElem_mem hi)
   have hl := bx2 hk
   have hp := ct2 (ci2 hk).ok
   unfold pub at hp
   refine ⟨s ++ bz5 a.Kz[i], ?_, ?_, ?_⟩
   ·simp only [ao1, dlt hi, if_true, aa8 hi, Option.bind_some, bv7 hk.le, hp]
    have e : (if aV5 (filter (fun a => !an3 a.Mz) a.Kz[i]) = 0 then (aP8 (filter (fun a => !an3 a.Mz) a.Kz[i]), (0 : Int)) else ([], aV5 (filter (fun a => !an3 a.Mz) a.Kz[i]))).1 = (if aV5 (pub a.Kz[i]) = 0 then aP8 (pub a.Kz[i]) else []) := by
     unfold pub; split <;> rfl
    rw [e]
    unfold bz5 at hl ⊢
    generalize (if aV5 (pub a.Kz[i]) = 0 then aP8 (pub a.Kz[i]) else []) = X at hl ⊢
    have hX : X.length ≤ 31000000 := by simp at hl; omega
    have c1 : aj1 [107, 101, 121, 32] X = some ([107, 101, 121, 32] ++ X) := by unfold aj1; rw [if_pos (by simp; omega)]
    have c2 : aj1 ([107, 101, 121, 32] ++ X) [10] = some ([107, 101, 121, 32] ++ X ++ [10]) := by unfold aj1; rw [if_pos (by simp; omega)]
    have c3 : bAdd s ([107, 101, 121, 32] ++ X ++ [10]) = some (s ++ ([107, 101, 121, 32] ++ X ++ [10])) := by unfold bAdd; rw [if_pos (by simp; omega)]
    rw [c1, Option.bind_some, c2, Option.bind_some, c3, Option.bind_some, ab0 (by omega)]
   ·rw [drop_eq_getElem_cons hi, map_cons, flatten_cons, append_assoc]
   ·simp only [length_append]; omega
  ·intro s hs
   simp [ao1, aq6]
 ·by_cases h3 : id = 3
  ·subst h3
   have n2 : ¬ (3 : Int) = 2 := by decide
   simp only [n2, decide_true, decide_false, if_true, false_eq_true, if_false, as4, Option.bind_some]
   have b1 : aj6 [[99, 104, 97, 108], [109, 117, 116, 117, 97, 108], [112, 108, 97, 105, 110]] 0 [] = some (.cont (1, ai3 ++ [10])) := by kernel_rfl
   have b2 : aj6 [[99, 104, 97, 108], [109, 117, 116, 117, 97, 108], [112, 108, 97, 105, 110]] 1 (ai3 ++ [10]) = some (.cont (2, ai3 ++ [10] ++ (aD6 ++ [10]))) := by kernel_rfl
   have b3 : aj6 [[99, 104, 97, 108], [109, 117, 116, 117, 97, 108], [112, 108, 97, 105, 110]] 2 (ai3 ++ [10] ++ (aD6 ++ [10])) = some (.cont (3, ai3 ++ [10] ++ (aD6 ++ [10]) ++ (ap7 ++ [10]))) := by kernel_rfl
   have b4 : aj6 [[99, 104, 97, 108], [109, 117, 116, 117, 97, 108], [112, 108, 97, 105, 110]] 3 (ai3 ++ [10] ++ (aD6 ++ [10]) ++ (ap7 ++ [10])) = some (.done (ai3 ++ [10] ++ (aD6 ++ [10]) ++ (ap7 ++ [10]))) := by kernel_rfl
   rw [ah2 (s' := (1, ai3 ++ [10])) b1, ah2 (s' := (2, ai3 ++ [10] ++ (aD6 ++ [10]))) b2, ah2 (s' := (3, ai3 ++ [10] ++ (aD6 ++ [10]) ++ (ap7 ++ [10]))) b3, ax5 b4]
  ·simp only [h2, h3, decide_false, false_eq_true, if_false]; rfl
theorem aa6 {x y : Str} (h : x.length + y.length ≤ 9223372036854775807) : aj1 x y = some (x ++ y) := by unfold aj1; rw [if_pos h]
theorem bz6 (v : Val a) : aH1 a id = some (bk6 a id) := by
 have hb := v.base
 unfold aH1 bk6
 by_cases h2 : id = 2
 ·subst h2
  have n3 : ¬ (2 : Int) = 3 := by decide
  simp only [decide_true, if_true]
  refine (ad1 a.Kz.length (fun (s : Str) i => (s, i)) (fun s => ao3 a 2 s.1 s.2) (fun i s => s ++ ((a.Kz.drop i).map bz5).flatten) (fun i s => s.length ≤ i * 31000000) (s0 := []) (by simp) ?_ ?_).trans rfl
  ·intro s i hi hs
   left
   have hk := v.lim.key _ (getElem_mem hi)
   have hl := bx2 hk
   have hp := bU5 (ci2 hk).ok
   unfold pub at hp
   refine ⟨s ++ bz5 a.Kz[i], ?_, ?_, ?_⟩
   ·simp only [ao3, dlt hi, if_true, aa8 hi, Option.bind_some, a39 hk.le, hp]
    have e : (if aV5 (filter (fun a => !an3 a.Mz) a.Kz[i]) = 0 then (aP8 (filter (fun a => !an3 a.Mz) a.Kz[i]), (0 : Int)) else ([], aV5 (filter (fun a => !an3 a.Mz) a.Kz[i]))).1 = (if aV5 (pub a.Kz[i]) = 0 then aP8 (pub a.Kz[i]) else []) := by
     unfold pub; split <;> rfl
    rw [e]
    unfold bz5 at hl ⊢
    generalize (if aV5 (pub a.Kz[i]) = 0 then aP8 (pub a.Kz[i]) else []) = X at hl ⊢
    have hX : X.length ≤ 31000000 := by simp at hl; omega
    rw [aa6 (by simp; omega), Option.bind_some, aa6 (by simp; omega), Option.bind_some, aa6 (by simp; omega), Option.bind_some, ab0 (by omega)]
    simp only [append_assoc]
   ·rw [drop_eq_getElem_cons hi, map_cons, flatten_cons, append_assoc]
   ·simp only [length_append]; omega
  ·intro s hs
   simp [ao3, am1, n3]
 ·by_cases h3 : id = 3
  ·subst h3
   have n2 : ¬ (3 : Int) = 2 := by decide
   unfold am1 a30
   simp only [n2, decide_true, decide_false, if_true, false_eq_true, if_false, Option.bind_some]
   have b1 : aj8 [[99, 104, 97, 108], [109, 117, 116, 117, 97, 108], [112, 108, 97, 105, 110]] [] 0 = some (.cont (ai3 ++ [10], 1)) := by kernel_rfl
   have b2 : aj8 [[99, 104, 97, 108], [109, 117, 116, 117, 97, 108], [112, 108, 97, 105, 110]] (ai3 ++ [10]) 1 = some (.cont (ai3 ++ [10] ++ (aD6 ++ [10]), 2)) := by kernel_rfl
   have b3 : aj8 [[99, 104, 97, 108], [109, 117, 116, 117, 97, 108], [112, 108, 97, 105, 110]] (ai3 ++ [10] ++ (aD6 ++ [10])) 2 = some (.cont (ai3 ++ [10] ++ (aD6 ++ [10]) ++ (ap7 ++ [10]), 3)) := by kernel_rfl
   have b4 : aj8 [[99, 104, 97, 108], [109, 117, 116, 117, 97, 108], [112, 108, 97, 105, 110]] (ai3 ++ [10] ++ (aD6 ++ [10]) ++ (ap7 ++ [10])) 3 = some (.done (ai3 ++ [10] ++ (aD6 ++ [10]) ++ (ap7 ++ [10]))) := by kernel_rfl
   rw [ah2 (s' := (ai3 ++ [10], 1)) b1, ah2 (s' := (ai3 ++ [10] ++ (aD6 ++ [10]), 2)) b2, ah2 (s' := (ai3 ++ [10] ++ (aD6 ++ [10]) ++ (ap7 ++ [10]), 3)) b3, ax5 b4]
  ·unfold am1
   simp only [h2, h3, decide_false, false_eq_true, if_false]
def b91 (s : Str) (off cnt : Int) : Str := (s.drop (min off.toNat s.length)).take cnt.toNat
theorem cE1 {s : Str} {off cnt : Int} (h0 : 0 ≤ off) (h1 : 0 ≤ cnt) (hs : s.length ≤ 10000000000) :
  ((cut s (min off (List.length s : Int)) (List.length s : Int)).bind fun x => cut x 0 (min (min cnt 65536) (List.length x : Int))) = some (b91 s off (min cnt 65536)) := by
 have e1 : min off (List.length s : Int) = ((min off.toNat s.length : Nat) : Int) := by omega
 rw [e1, ax6 (by omega), Option.bind_some]
 generalize hk : min off.toNat s.length = k
 have e2 : min (min cnt 65536) (List.length (s.drop k) : Int) = ((min (min cnt 65536).toNat (s.drop k).length : Nat) : Int) := by omega
 rw [e2, aN5 (by omega)]
 unfold b91
 rw [hk]
 congr 1
 rcases Nat.le_total (min cnt 65536).toNat (s.drop k).length with q | q
 ·rw [Nat.min_eq_left q]
 ·rw [Nat.min_eq_right q, take_of_length_le (Nat.le_refl _), take_of_length_le q]
theorem b92 {s : Str} {off cnt : Int} (h0 : 0 ≤ off) (h1 : 0 ≤ cnt) (hs : s.length ≤ 10000000000) :
  cut s (min off (List.length s : Int)) (wrap .i64 ((min off (List.length s : Int)) + (min (min cnt 65536) (wrap .i64 ((List.length s : Int) - (min off (List.length s : Int))))))) = some (b91 s off (min cnt 65536)) := by
 have e1 : min off (List.length s : Int) = ((min off.toNat s.length : Nat) : Int) := by omega
 rw [e1]
 unfold b91
 generalize hk : min off.toNat s.length = k
 have hkl : k ≤ s.length := by omega
 rw [ab3 (n := (List.length s : Int) - (k : Int)) (by omega) (by omega), ab3 (by omega) (by omega)]
 generalize hm : (min cnt 65536).toNat = m
 have e3 : (k : Int) + min (min cnt 65536) ((List.length s : Int) - (k : Int)) = ((k + min m (s.length - k) : Nat) : Int) := by omega
 rw [e3]
 unfold cut
 rw [if_pos ⟨by omega, by omega, by omega⟩]
 simp only [Int.toNat_natCast]
 congr 1
 rw [List.drop_take, show k + min m (s.length - k) - k = min m (s.length - k) by omega]
 rcases Nat.le_total m (s.length - k) with q | q
 ·rw [Nat.min_eq_left q]
 ·rw [Nat.min_eq_right q, take_of_length_le (by simp), take_of_length_le (by simp; omega)]
def b94 (a : aa2) (id off cnt : Int) : aa2 × Str × Int :=
 if an4 a id = true then (if id = 1 then (a, [], 10) else if off < 0 ∨ cnt < 0 then (a, [], 1) else (a, b91 (bk6 a id) off (min cnt 65536), 0)) else (a, [], 8)
theorem cu3 (v : Val a) (w : -9223372036854775808 ≤ id ∧ id ≤ 9223372036854775807) (hc : aL5 a id = -1) (off cnt : Int) : ai4 a id off cnt = some (b94 a id off cnt) := by
 unfold ai4 b94
 rw [aq0 v.lim, Option.bind_some, bg6 v w, Option.bind_some]
 cases he : an4 a id with
 | false => rfl
 | true =>
  by_cases h1 : id = 1
  ·simp [h1]
  ·by_cases h2 : off < 0 ∨ cnt < 0
   ·have : (decide (off < 0) || decide (cnt < 0)) = true := by simpa using h2
    simp [h1, h2, this]
   ·have h2' : (decide (off < 0) || decide (cnt < 0)) = false := by
     rw [Bool.or_eq_false_iff, decide_eq_false_iff_not, decide_eq_false_iff_not]; omega
    have hl := bO6 (id := id) v
    have hp := cE1 (s := bk6 a id) (off := off) (cnt := cnt) (by omega) (by omega) (by omega)
    have hn : ¬ (0 : Int) ≤ -1 := by omega
    simp only [h1, h2, h2', decide_false, Bool.not_true, false_eq_true, if_false, if_true, bx1 v w, hc, hn, Option.bind_some, bV1 v]
    cases hcut : cut (bk6 a id) (min off (List.length (bk6 a id) : Int)) (List.length (bk6 a id) : Int) with
    | none => rw [hcut] at hp; cases hp
    | some x =>
     rw [hcut, Option.bind_some] at hp
     rw [Option.bind_some, hp]; rfl
theorem bV2 (v : Val a) (w : -9223372036854775808 ≤ id ∧ id ≤ 9223372036854775807) (hc : aL5 a id = -1) (off cnt : Int) : aB2 a id off cnt = some (b94 a id off cnt) := by
 unfold aB2 b94
 rw [aR5 v w, Option.bind_some]
 cases he : an4 a id with
 | false => rfl
 | true =>
  by_cases h1 : id = 1
  ·simp [h1]
  ·by_cases h2 : off < 0 ∨ cnt < 0
   ·have : (decide (off < 0) || decide (cnt < 0)) = true := by simpa using h2
    simp [h1, h2, this]
   ·have h2' : (decide (off < 0) || decide (cnt < 0)) = false := by
     rw [Bool.or_eq_false_iff, decide_eq_false_iff_not, decide_eq_false_iff_not]; omega
    have hl := bO6 (id := id) v
    have hp := b92 (s := bk6 a id) (off := off) (cnt := cnt) (by omega) (by omega) (by omega)
    have hn : (-1 : Int) < 0 := by omega
    simp only [h1, h2, h2', decide_false, decide_true, Bool.not_true, false_eq_true, if_false, if_true, aM6 v w, hc, hn, Option.bind_some, bz6 v, hp]
theorem cu4 (v : Val a) (h : id ≤ 16) : aL5 a id = -1 := by
 rcases aA4 v id with q | ⟨i, hi, _, _, q, _⟩
 ·exact q
 ·omega
end Go.Proofs.YtiliognepodhnaaGreatDoor
