import Derived.Test.YtiliognepodhnaaGreatDoorPA
import Derived.Test.YtiliognepodhnaaGreatDoorVmR
import Derived.KernelRfl
namespace Go.Proofs.YtiliognepodhnaaGreatDoor
open Go.Vm
set_option autoImplicit false
set_option linter.unusedVariables false
set_option linter.unusedSimpArgs false
set_option maxRecDepth 100000
def wA (a : aa1) : Nat := min a.Name.length 10000 + min a.Value.length 10000
structure Sh (l : List aa1) : Prop where
 len : l.length ≤ 2000
 at_ : ∀ a ∈ l, a.Name.length ≤ 5000 ∧ a.Value.length ≤ 5000
theorem Sh.ok {l : List aa1} (h : Sh l) : okL l := ⟨by have := h.len; omega, fun a ha => h.at_ a ha⟩
theorem Sh.le {l : List aa1} (h : Sh l) : l.length ≤ 1000000 := by have := h.len; omega
structure ShC (c : aa3) : Prop where
 key : Sh c.Key
structure Lim (a : aa2) : Prop where
 owner : a.Owner.length ≤ 1000
 seed : a.Seed.length ≤ 2000
 keys : a.Keys.length ≤ 70
 key : ∀ k ∈ a.Keys, Sh k
 convs : a.Convs.length ≤ 40
 conv : ∀ c ∈ a.Convs, ShC c
theorem bU2 {α : Type} {l : List α} {i : Nat} (h : i < l.length) : l.set i l[i] = l := by simp
theorem b88 {l : List (List aa1)} (h : l.length ≤ 1000000) : ab0 l = some l := by
 unfold ab0
 rw [au1 (by simp; omega) (by simp; omega)]; simp
theorem b02 {l : List aa3} (h : l.length ≤ 1000000) : ab5 l = some l := by
 unfold ab5
 rw [au1 (by simp; omega) (by simp; omega)]; simp
theorem an6 {a : aa2} (h : Lim a) : af4 a = some a := by
 have h1 := h.keys
 have h2 := h.convs
 unfold af4
 rw [b88 (by omega), Option.bind_some]
 refine (ai8 a.Keys.length (fun (v : List (List aa1)) i => (i, v)) (fun s => at3 a a.Keys s.1 s.2) (fun _ _ => a) (fun _ v => v = a.Keys) (s0 := a.Keys) rfl ?_ ?_)
 ·rintro v i hi rfl
  left
  refine ⟨a.Keys, ?_, rfl, rfl⟩
  simp only [at3, dlt hi, if_true, ab6 hi, Option.bind_some, aD0 (h.key _ (List.getElem_mem hi)).le, Int.toNat_natCast, bU2 hi]
  rw [ag2 (by omega)]
 ·rintro v rfl
  have : aa8 (fun s => ao1 a a.Keys a.Convs s.1 s.2) (0, a.Convs) = some a := by
   refine (ai8 a.Convs.length (fun (v : List aa3) i => (i, v)) (fun s => ao1 a a.Keys a.Convs s.1 s.2) (fun _ _ => a) (fun _ v => v = a.Convs) (s0 := a.Convs) rfl ?_ ?_)
   ·rintro v i hi rfl
    left
    refine ⟨a.Convs, ?_, rfl, rfl⟩
    simp only [ao1, dlt hi, if_true, ab6 hi, Option.bind_some, aD0 (h.conv _ (List.getElem_mem hi)).key.le, Int.toNat_natCast]
    rw [ag2 (by omega), show ({a.Convs[i] with Key := (a.Convs[i]).Key} : aa3) = a.Convs[i] from rfl, bU2 hi]
   ·rintro v rfl
    simp [ao1]
  simp only [at3, dge, Bool.false_eq_true, if_false, aF3, b02 (show a.Convs.length ≤ 1000000 by omega), Option.bind_some, this, Option.map_some]
theorem bH3 {l : List aa1} (h : l.length ≤ 1000000) : au2 l l = some true := by
 unfold au2
 simp only [decide_true, Bool.not_true, Bool.false_eq_true, if_false]
 refine (bT3 l (fun _ => true) _ (fun i hi => ?_) ?_).trans (by simp)
 ·simp only [aC5, dlt hi, if_true, ab6 hi, Option.bind_some, decide_true, Bool.and_self, Bool.not_true, Bool.false_eq_true, if_false]
  rw [ag2 (by omega)]
 ·simp [aC5]
theorem bB7 {c : aa3} (h : c.Key.length ≤ 1000000) : at2 c c = some true := by
 unfold at2
 simp [bH3 h]
theorem bt3 {a : aa2} (h1 : a.Keys.length ≤ 1000000) (h2 : ∀ k ∈ a.Keys, k.length ≤ 1000000) (h3 : a.Convs.length ≤ 1000000) (h4 : ∀ c ∈ a.Convs, c.Key.length ≤ 1000000) : af7 a a = some true := by
 have hC : aa8 (fun s => ak4 a a s) 0 = some true := by
  refine (bT3 a.Convs (fun _ => true) _ (fun i hi => ?_) ?_).trans (by simp)
  ·simp only [ak4, dlt hi, if_true, ab6 hi, Option.bind_some, bB7 (h4 _ (List.getElem_mem hi)), Bool.not_true, Bool.false_eq_true, if_false]
   rw [ag2 (by omega)]
  ·simp [ak4]
 unfold af7
 simp only [decide_true, Bool.not_true, Bool.or_self, Bool.false_eq_true, if_false]
 refine (b76 a.Keys (fun _ => true) false true _ (fun i hi => ?_) ?_).trans (by simp)
 ·simp only [aq0, dlt hi, if_true, ab6 hi, Option.bind_some, bH3 (h2 _ (List.getElem_mem hi)), Bool.not_true, Bool.false_eq_true, if_false]
  rw [ag2 (by omega)]
 ·simp [aq0, hC]
theorem Lim.same {a : aa2} (h : Lim a) : af7 a a = some true :=
 bt3 (by have := h.keys; omega) (fun k hk => (h.key k hk).le) (by have := h.convs; omega) (fun c hc => (h.conv c hc).key.le)
instance : DecidableEq aa1 := fun x y => decidable_of_iff (x.Name = y.Name ∧ x.Value = y.Value ∧ x.Query = y.Query) (by cases x; cases y; simp)
theorem cu8 {x y : aa1} : (!(decide (x.Name = y.Name) && (decide (x.Value = y.Value) && (decide (x.Query = y.Query) && true)))) = !decide (x = y) := by
 congr 1
 rw [Bool.eq_iff_iff]
 cases x; cases y; simp
theorem ck7 {a b : List aa1} (ha : a.length ≤ 1000000) : ag9 a b = some (decide (a = b)) := by
 unfold ag9
 by_cases hl : a.length = b.length
 ·simp only [hl, decide_true, Bool.not_true, Bool.false_eq_true, if_false]
  refine (ai8 a.length (fun (_ : Unit) i => i) (fun s => ae2 a b s) (fun i _ => decide (a.drop i = b.drop i)) (fun _ _ => True) (s0 := ()) trivial ?_ ?_).trans (by simp)
  ·intro _ i hi _
   have hj : i < b.length := by omega
   simp only [ae2, dlt hi, if_true, ab6 hi, ab6 hj, Option.bind_some, cu8]
   by_cases h : a[i] = b[i]
   ·left
    refine ⟨(), ?_, ?_, trivial⟩
    ·simp only [h, decide_true, Bool.not_true, Bool.false_eq_true, if_false]
     rw [ag2 (by omega)]
    ·rw [List.drop_eq_getElem_cons hi, List.drop_eq_getElem_cons hj, h, decide_eq_decide]
     exact ⟨fun e => (List.cons.inj e).2, fun e => by rw [e]⟩
   ·right
    rw [List.drop_eq_getElem_cons hi, List.drop_eq_getElem_cons hj]
    have hn : ¬ (a[i] :: List.drop (i + 1) a = b[i] :: List.drop (i + 1) b) := fun e => h (List.cons.inj e).1
    simp only [h, hn, decide_false, Bool.not_false, if_true]
  ·intro _ _
   simp [ae2, hl]
 ·have h1 : ¬ ((List.length a : Int) = (List.length b : Int)) := by omega
  have h2 : ¬ (a = b) := fun h => hl (by rw [h])
  simp [h1, h2]
def pub (l : List aa1) : List aa1 := l.filter fun a => !aG4 a.Name
theorem b89 {l : List aa1} : (pub l).length ≤ l.length := List.length_filter_le _ _
theorem cp8 {l : List aa1} (h : Sh l) : Sh (pub l) := ⟨Nat.le_trans b89 h.len, fun a ha => h.at_ a (List.mem_filter.1 ha).1⟩
theorem bU3 {a b : List aa1} (ha : a.length ≤ 1000000) (hb : b.length ≤ 1000000) : aF4 a b = some (decide (pub a = pub b)) := by
 unfold aF4
 rw [bp8 ha, Option.bind_some, bp8 hb, Option.bind_some]
 have := @ck7 (pub a) (pub b) (Nat.le_trans b89 ha)
 unfold pub at this
 rw [this]; rfl
def bB8 : Str := [117, 115, 101, 114]
def b21 : Str := [33, 115, 101, 99, 114, 101, 116]
def aY1 (n : Str) (l : List aa1) : Str := (an4 n l).1
theorem bp9 {n : Str} : ∀ {l : List aa1}, (an4 n l).2 = false → (an4 n l).1 = []
 | [], _ => rfl
 | a :: r, h => by
  by_cases q : bB6 n a = true
  ·rw [b87 q] at h; cases h
  ·rw [b00 q] at h ⊢; exact bp9 h
def cf5 (l : List aa1) : Bool := decide (bp4 l = 0) && (!(l.any fun a => a.Query) && (decide (1 ≤ (List.length (aY1 bB8 l) : Int)) && (decide ((List.length (aY1 bB8 l) : Int) ≤ 32) && (decide (1 ≤ (List.length (aY1 b21 l) : Int)) && decide ((List.length (aY1 b21 l) : Int) ≤ 64)))))
theorem cp9 {l : List aa1} (h : Sh l) : aS8 l = some (cf5 l) := by
 have hl := h.le
 unfold aS8 cf5
 rw [bi8 h.ok, Option.bind_some]
 by_cases hc : bp4 l = 0
 ·have hq : ac1 l = some (l.any fun a => a.Query) := by
   unfold ac1
   have : ad6 l = some (ba6 (fun a => a.Query) l) := by
    unfold ad6
    refine aO2 hl (fun i hi => ?_) ?_
    ·simp only [ac0, dlt hi, if_true, ab6 hi, Option.bind_some, a36]
    ·simp [ac0]
   rw [this, Option.bind_some, bB1]
  simp only [hc, decide_true, Bool.not_true, Bool.false_eq_true, if_false, hq, Option.bind_some, Bool.true_and]
  cases hb : l.any fun a => a.Query with
  | true => rfl
  | false =>
   simp only [Bool.false_eq_true, if_false, bd1 hl, Option.bind_some, Bool.not_false, Bool.true_and]
   congr 1
   have aux : ∀ (n : Str) (K : Int), ((an4 n l).2 && ((!decide ((an4 n l).1 = [])) && decide ((List.length (an4 n l).1 : Int) ≤ K))) = (decide (1 ≤ (List.length (aY1 n l) : Int)) && decide ((List.length (aY1 n l) : Int) ≤ K)) := by
    intro n K
    unfold aY1
    cases hf : (an4 n l).2 with
    | false => rw [bp9 hf]; rfl
    | true =>
     rw [Bool.true_and]
     congr 1
     cases (an4 n l).1 with
     | nil => rfl
     | cons c r => simp; omega
   have h1 := aux bB8 32
   have h2 := aux b21 64
   unfold bB8 at h1
   unfold b21 at h2
   show _ = (decide (1 ≤ (List.length (aY1 [117, 115, 101, 114] l) : Int)) && (decide ((List.length (aY1 [117, 115, 101, 114] l) : Int) ≤ 32) && (decide (1 ≤ (List.length (aY1 [33, 115, 101, 99, 114, 101, 116] l) : Int)) && decide ((List.length (aY1 [33, 115, 101, 99, 114, 101, 116] l) : Int) ≤ 64))))
   rw [← Bool.and_assoc (decide (1 ≤ (List.length (aY1 [117, 115, 101, 114] l) : Int))), ← h1, ← h2]
   generalize (an4 [117, 115, 101, 114] l) = U
   generalize (an4 [33, 115, 101, 99, 114, 101, 116] l) = V
   cases U.2 <;> cases V.2 <;> simp [Bool.and_assoc]
 ·simp [hc]
def bN4 (s : Str) : Str := [UInt8.ofNat (s.length % 256), UInt8.ofNat (s.length / 256)] ++ s
theorem aY2 (s : Str) : (bN4 s).length = s.length + 2 := by simp [bN4]
theorem bB9 (z : Int) : IntKind.wrap .u8 z = z % 256 := by simp [IntKind.wrap, IntKind.bits, IntKind.signed]
theorem cD2 {n : Nat} (h : n ≤ 65535) : aT0 (n : Int) 2 = some ([UInt8.ofNat (n % 256), UInt8.ofNat (n / 256)], 0) := by
 have w16 : IntKind.wrap .i64 (8 * 2) = 16 := by decide
 have s16 : bm4 .i64 (n : Int) 16 = some 0 := by
  unfold bm4
  rw [if_neg (by omega)]
  have : min (Int.toNat 16) (IntKind.bits .i64) = 16 := by decide
  rw [this]
  congr 1
  rw [Int.fdiv_eq_ediv_of_nonneg _ (by decide)]
  have : ((2 : Int) ^ 16) = 65536 := by decide
  rw [this]; omega
 have hm : mkC 1 (0 : Int) 2 2 = some [0, 0] := by decide
 have s0 : bm4 .i64 (n : Int) 0 = some (n : Int) := by
  unfold bm4
  rw [if_neg (by omega)]
  have : min (Int.toNat 0) (IntKind.bits .i64) = 0 := by decide
  rw [this]
  congr 1
  simp
 have s8 : bm4 .i64 (n : Int) 8 = some ((n / 256 : Nat) : Int) := by
  unfold bm4
  rw [if_neg (by omega)]
  have : min (Int.toNat 8) (IntKind.bits .i64) = 8 := by decide
  rw [this]
  congr 1
  rw [Int.fdiv_eq_ediv_of_nonneg _ (by decide)]
  have : ((2 : Int) ^ 8) = 256 := by decide
  rw [this]; omega
 have w0 : IntKind.wrap .i64 (8 * 0) = 0 := by decide
 have w8 : IntKind.wrap .i64 (8 * 1) = 8 := by decide
 have b1 : am3 (n : Int) [0, 0] 0 [0, 0] = some (.cont (1, [((n : Int) % 256), 0])) := by
  have q0 : IntKind.wrap .i64 0 = 0 := by decide
  have q1 : IntKind.wrap .i64 1 = 1 := by decide
  simp [am3, q0, q1, s0, ad9, bB9]
 have b2 : am3 (n : Int) [0, 0] 1 [((n : Int) % 256), 0] = some (.cont (2, [((n : Int) % 256), (((n / 256 : Nat) : Int) % 256)])) := by
  have q0 : IntKind.wrap .i64 8 = 8 := by decide
  have q1 : IntKind.wrap .i64 2 = 2 := by decide
  simp [am3, q0, q1, s8, ad9, bB9]
 have b3 : am3 (n : Int) [0, 0] 2 [((n : Int) % 256), (((n / 256 : Nat) : Int) % 256)] = some (.done ([UInt8.ofNat (n % 256), UInt8.ofNat (n / 256)], 0)) := by
  have e1 : Int.toNat ((n : Int) % 256) = n % 256 := by omega
  have e2 : Int.toNat (((n / 256 : Nat) : Int) % 256) = n / 256 := by omega
  simp only [am3, bA2, List.map_cons, List.map_nil, e1, e2]
  simp
 unfold aT0
 have hn : ¬ ((n : Int) < 0) := by omega
 simp only [hn, decide_false, Bool.false_eq_true, if_false, show decide ((2 : Int) < 1) = false from by decide, show decide ((8 : Int) < 2) = false from by decide, show decide ((2 : Int) < 8) = true from by decide, Bool.or_self, if_true, w16, s16, Option.bind_some, show decide ((0 : Int) < 0) = false from by decide, hm]
 rw [ai6 (s' := (1, [((n : Int) % 256), 0])) b1, ai6 (s' := (2, [((n : Int) % 256), (((n / 256 : Nat) : Int) % 256)])) b2]
 exact ax4 b3
theorem aL1 {s : Str} (h : s.length ≤ 65535) : ao9 s = some (bN4 s) := by
 unfold ao9 aN2
 have h1 : ¬ ((65535 : Int) < (List.length s : Int)) := by omega
 simp only [h1, decide_false, Bool.false_eq_true, if_false, cD2 h, Option.bind_some]
 have : am8 [UInt8.ofNat (List.length s % 256), UInt8.ofNat (List.length s / 256)] s = some (bN4 s) := by
  unfold am8; rw [if_pos (by simp; omega)]; rfl
 rw [this]; rfl
def ah5 : Str := [99, 104, 97, 108]
def aq1 : Str := [109, 117, 116, 117, 97, 108]
def ai5 : Str := [112, 108, 97, 105, 110]
def aY9 (p : Str) : Int := if p = ah5 then 3 else if p = aq1 then 3 else if p = ai5 then 2 else 0
def bU4 (p : Str) : Int := if p = ah5 then 2 else 1
def aL2 (p : Str) (role n : Int) : Bool := decide ((decide (Int.tmod n 2 = 0)) = decide (role = bU4 p))
def phS (c : aa3) : Int := if c.Step = aY9 c.Proto then 3 else if aL2 c.Proto c.Role c.Step = true then 1 else 2
theorem bU5 (p : Str) (role n : Int) : aJ9 p role n = some (aL2 p role n) := by
 unfold aJ9 aC7 aL2 bU4 ah5
 by_cases h1 : p = [99, 104, 97, 108] <;> simp [h1]
def ai3 (p : Str) : Bool := decide (p = ah5) || (decide (p = aq1) || decide (p = ai5))
theorem bq0 {p : Str} (h : ai3 p = true) : aF8 p = some (aY9 p) := by
 unfold ai3 at h
 simp only [Bool.or_eq_true, decide_eq_true_eq] at h
 rcases h with rfl | rfl | rfl <;> rfl
theorem ck8 {c : aa3} (h : ai3 c.Proto = true) : aK0 c = some (phS c) := by
 unfold aK0 phS
 rw [bq0 h, Option.bind_some]
 by_cases h2 : c.Step = aY9 c.Proto
 ·simp [h2]
 ·simp only [h2, decide_false, Bool.false_eq_true, if_false, bU5, Option.bind_some]
  cases aL2 c.Proto c.Role c.Step <;> rfl
theorem a96 (p : Str) : af6 [[99, 104, 97, 108], [109, 117, 116, 117, 97, 108], [112, 108, 97, 105, 110]] p = some (ai3 p) := by
 unfold af6 ak9
 have : aa8 (fun s => af5 [[99, 104, 97, 108], [109, 117, 116, 117, 97, 108], [112, 108, 97, 105, 110]] p s) 0 = some (ixF (fun x => decide (p = x)) [ah5, aq1, ai5] 0) := by
  refine bM7 [ah5, aq1, ai5] _ _ (fun i hi => ?_) ?_
  ·have hi' : i < [([99, 104, 97, 108] : Str), [109, 117, 116, 117, 97, 108], [112, 108, 97, 105, 110]].length := hi
   have hi3 : i < 3 := hi
   simp only [af5, dlt hi', if_true, ab6 hi', Option.bind_some]
   rw [ag2 (by omega)]
   show (if decide (p = [ah5, aq1, ai5][i]) = true then _ else _) = _
   cases decide (p = [ah5, aq1, ai5][i]) <;> rfl
  ·simp [af5]
 rw [this, Option.bind_some]
 unfold ai3
 by_cases h1 : p = ah5
 ·simp [ixF, h1]
 ·by_cases h2 : p = aq1
  ·have : ¬ (aq1 = ah5) := by decide
   simp [ixF, h2, this]
  ·by_cases h3 : p = ai5
   ·have e1 : ¬ (ai5 = ah5) := by decide
    have e2 : ¬ (ai5 = aq1) := by decide
    simp [ixF, h3, e1, e2]
   ·simp [ixF, h1, h2, h3]
variable {c : aa3}
def usr (c : aa3) : Str := aY1 bB8 c.Key
def sec (c : aa3) : Str := aY1 b21 c.Key
def bt4 (l : List aa1) : Bool := (decide (1 ≤ (List.length (aY1 bB8 l) : Int)) && (decide ((List.length (aY1 bB8 l) : Int) ≤ 32) && (decide (1 ≤ (List.length (aY1 b21 l) : Int)) && decide ((List.length (aY1 b21 l) : Int) ≤ 64))))
theorem a97 {t : aa4} {n : Str} (h : t.Conv.Key.length ≤ 1000000) : ad3 t n = some (aY1 n t.Conv.Key) := by
 unfold ad3 aY1
 rw [bd1 h]; rfl
theorem bq1 {l : List aa1} (hl : l.length ≤ 1000000) : aD7 l = some (bt4 l) := by
 unfold aD7
 simp only [bd1 hl, Option.bind_some]
 congr 1
 have aux : ∀ (n : Str) (K : Int), ((an4 n l).2 && (decide (1 ≤ (List.length (an4 n l).1 : Int)) && decide ((List.length (an4 n l).1 : Int) ≤ K))) = (decide (1 ≤ (List.length (aY1 n l) : Int)) && decide ((List.length (aY1 n l) : Int) ≤ K)) := by
  intro n K
  unfold aY1
  cases hf : (an4 n l).2 with
  | false => rw [bp9 hf]; rfl
  | true => rw [Bool.true_and]
 have h1 := aux bB8 32
 have h2 := aux b21 64
 unfold bB8 at h1
 unfold b21 at h2
 show _ = (decide (1 ≤ (List.length (aY1 [117, 115, 101, 114] l) : Int)) && (decide ((List.length (aY1 [117, 115, 101, 114] l) : Int) ≤ 32) && (decide (1 ≤ (List.length (aY1 [33, 115, 101, 99, 114, 101, 116] l) : Int)) && decide ((List.length (aY1 [33, 115, 101, 99, 114, 101, 116] l) : Int) ≤ 64))))
 rw [← Bool.and_assoc (decide (1 ≤ (List.length (aY1 [117, 115, 101, 114] l) : Int))), ← h1, ← h2]
 generalize (an4 [117, 115, 101, 114] l) = U
 generalize (an4 [33, 115, 101, 99, 114, 101, 116] l) = V
 cases U.2 <;> cases V.2 <;> simp [Bool.and_assoc]
def bH4 (l : List aa1) : Bool := decide (bp4 l = 0) && bt4 l
def bi9 (c : aa3) : aa3 := {c with Phase := phS c, User := if phS c = 3 then usr c else []}
theorem aY3 (hp : ai3 c.Proto = true) (hk : c.Key.length ≤ 1000000) : am4 c = some (bi9 c) := by
 unfold am4 bi9
 rw [aD0 hk, Option.bind_some]
 have h1 : aK0 {c with Key := c.Key} = some (phS c) := ck8 hp
 rw [h1, Option.bind_some]
 by_cases h : phS c = 3
 ·have hv : ad3 (aa4.mk {c with Phase := phS c, Key := c.Key, User := []}) [117, 115, 101, 114] = some (usr c) := a97 hk
  simp only [h, decide_true, if_true] at hv ⊢
  rw [hv]; rfl
 ·simp [h]
def bx0 (c : aa3) (n : Int) : Int := if c.Proto = ah5 ∧ n = 0 then 0 else if c.Proto = aq1 ∧ n = 1 then 0 else if c.Proto = aq1 ∧ n = 0 then ((usr c).length : Int) + 2 else -1
theorem bd3 {n : Int} (hk : c.Key.length ≤ 1000000) (hu : (usr c).length ≤ 65535) : au7 c n = some (bx0 c n) := by
 have hv : ad3 (aa4.mk c) [117, 115, 101, 114] = some (usr c) := a97 hk
 have hK : ∀ (n : Int) (b : Bool), as1 c n b = some (if b = true then 0 else if c.Proto = aq1 ∧ n = 0 then ((usr c).length : Int) + 2 else -1) := by
  intro n b
  unfold as1
  cases b with
  | true => rfl
  | false =>
   by_cases h : c.Proto = aq1 ∧ n = 0
   ·have h' := h.1; unfold aq1 at h'
    simp only [Bool.false_eq_true, if_false, h', h.2, decide_true, Bool.and_self, if_true, hv, Option.bind_some, aL1 hu, aY2]
    simp [aq1]
   ·have : (decide (c.Proto = [109, 117, 116, 117, 97, 108]) && decide (n = 0)) = false := by
     rw [Bool.and_eq_false_iff, decide_eq_false_iff_not, decide_eq_false_iff_not]
     rcases Classical.not_and_iff_not_or_not.1 h with h | h
     ·exact .inl h
     ·exact .inr h
    simp only [this, Bool.false_eq_true, if_false, h]
 unfold au7 bx0
 by_cases h1 : c.Proto = ah5 ∧ n = 0
 ·have h' := h1.1; unfold ah5 at h'
  simp only [h', h1.2, decide_true, Bool.and_self, if_true, hK]
  simp [ah5]
 ·have : (decide (c.Proto = [99, 104, 97, 108]) && decide (n = 0)) = false := by
   rw [Bool.and_eq_false_iff, decide_eq_false_iff_not, decide_eq_false_iff_not]
   rcases Classical.not_and_iff_not_or_not.1 h1 with h | h
   ·exact .inl h
   ·exact .inr h
  simp only [this, Bool.false_eq_true, if_false, h1, hK]
  congr 1
  by_cases h2 : c.Proto = aq1 ∧ n = 1
  ·have h' := h2.1; unfold aq1 at h'
   simp only [h', h2.2, decide_true, Bool.and_self, if_true]
   simp [aq1]
  ·have : (decide (c.Proto = [109, 117, 116, 117, 97, 108]) && decide (n = 1)) = false := by
    rw [Bool.and_eq_false_iff, decide_eq_false_iff_not, decide_eq_false_iff_not]
    rcases Classical.not_and_iff_not_or_not.1 h2 with h | h
    ·exact .inl h
    ·exact .inr h
   simp only [this, Bool.false_eq_true, if_false, h2]
def kb (c : aa3) (n : Int) : Bool := decide (0 ≤ bx0 c n) && !aL2 c.Proto c.Role n
theorem bx1 {n : Nat} (hn : n ≤ 3) (hk : c.Key.length ≤ 1000000) (hu : (usr c).length ≤ 65535) : aw4 c n = some (if (n : Int) < c.Step then (if kb c n = true then .done true else .cont ((n : Int) + 1)) else .done false) := by
 unfold aw4
 by_cases h : (n : Int) < c.Step
 ·simp only [h, decide_true, if_true, bd3 hk hu, Option.bind_some, bU5]
  unfold kb
  rw [ag2 (by omega)]
  by_cases q : 0 ≤ bx0 c n
  ·simp only [q, decide_true, if_true, Option.bind_some, Bool.true_and]
   cases aL2 c.Proto c.Role n <;> rfl
  ·simp [q]
 ·simp [h]
def bg8 (c : aa3) : Bool := (decide (0 < c.Step) && kb c 0) || ((decide (1 < c.Step) && kb c 1) || (decide (2 < c.Step) && kb c 2))
theorem ck9 (h0 : 0 ≤ c.Step) (h3 : c.Step ≤ 3) (hk : c.Key.length ≤ 1000000) (hu : (usr c).length ≤ 65535) : aK3 c = some (bg8 c) := by
 unfold aK3
 refine (ai8 3 (fun (_ : Unit) i => i) (fun s => aw4 c s) (fun i _ => match i with
   | 0 => bg8 c
   | 1 => (decide (1 < c.Step) && kb c 1) || (decide (2 < c.Step) && kb c 2)
   | 2 => decide (2 < c.Step) && kb c 2
   | _ => false) (fun i _ => (i : Int) ≤ 3) (s0 := ()) (by omega) ?_ ?_)
 ·intro _ i hi _
  rw [bx1 (by omega) hk hu]
  have hc : i = 0 ∨ i = 1 ∨ i = 2 := by omega
  by_cases hs : (i : Int) < c.Step
  ·simp only [hs, if_true]
   rcases hc with rfl | rfl | rfl
   ·have hs' : (0 : Int) < c.Step := hs
    have e : kb c ((0 : Nat) : Int) = kb c 0 := rfl
    cases hb : kb c 0 with
    | true =>
     right
     first | rw [e, hb] | skip
     simp [bg8, hs', hb]
    | false =>
     left
     first | rw [e, hb] | skip
     exact ⟨(), rfl, by simp [bg8, hs', hb], by omega⟩
   ·have hs' : (1 : Int) < c.Step := hs
    have e : kb c ((1 : Nat) : Int) = kb c 1 := rfl
    cases hb : kb c 1 with
    | true =>
     right
     first | rw [e, hb] | skip
     simp [hs', hb]
    | false =>
     left
     first | rw [e, hb] | skip
     exact ⟨(), rfl, by simp [hs', hb], by omega⟩
   ·have hs' : (2 : Int) < c.Step := hs
    have e : kb c ((2 : Nat) : Int) = kb c 2 := rfl
    cases hb : kb c 2 with
    | true =>
     right
     first | rw [e, hb] | skip
     simp [hs', hb]
    | false =>
     left
     first | rw [e, hb] | skip
     exact ⟨(), rfl, by simp [hs', hb], by omega⟩
  ·right
   simp only [hs, if_false]
   rcases hc with rfl | rfl | rfl
   ·have a1 : ¬ (0 : Int) < c.Step := hs
    have a2 : ¬ (1 : Int) < c.Step := by omega
    have a3 : ¬ (2 : Int) < c.Step := by omega
    simp [bg8, a1, a2, a3]
   ·have a2 : ¬ (1 : Int) < c.Step := hs
    have a3 : ¬ (2 : Int) < c.Step := by omega
    simp [a2, a3]
   ·have a3 : ¬ (2 : Int) < c.Step := hs
    simp [a3]
 ·intro _ _
  rw [bx1 (n := 3) (by omega) hk hu]
  have : ¬ ((3 : Nat) : Int) < c.Step := by omega
  simp only [this, if_false]
def aw9 (c : aa3) : Bool := if c.Proto = ah5 then (decide (c.Role = 1) && decide (0 < c.Step)) else if c.Proto = aq1 ∧ c.Role = 2 then decide (0 < c.Step) else (decide (c.Proto = aq1) && decide (1 < c.Step))
theorem bq2 (hp : ai3 c.Proto = true) (hr : c.Role = 1 ∨ c.Role = 2) : bg8 c = aw9 c := by
 unfold ai3 at hp
 simp only [Bool.or_eq_true, decide_eq_true_eq] at hp
 have n0 : ¬ (ah5 = aq1) := by decide
 have n1 : ¬ (aq1 = ah5) := by decide
 have n2 : ¬ (ai5 = ah5) := by decide
 have n3 : ¬ (ai5 = aq1) := by decide
 have hu : (0 : Int) ≤ ((usr c).length : Int) + 2 := by omega
 have d : Int.tmod 0 2 = 0 ∧ Int.tmod 1 2 = 1 ∧ Int.tmod 2 2 = 0 := by decide
 rcases hp with h | h | h <;> rcases hr with r | r <;> simp [bg8, aw9, kb, bx0, aL2, bU4, h, r, n0, n1, n2, n3, hu, d]
variable {c : aa3} {a : aa2}
def bq3 (c : aa3) : Bool := !decide (c.Id < 0) && (!decide (1048575 < c.Id) && (ai3 c.Proto && ((decide (c.Role = 1) || decide (c.Role = 2)) && (bH4 c.Key && (decide ((List.length c.Own : Int) = 32) && (!decide (c.Step < 0) && !decide (aY9 c.Proto < c.Step)))))))
def bd4 (c : aa3) : Bool := decide (c.Phase = 4) && decide (phS c = 2)
def stB (c : aa3) : Bool := (bd4 c || decide (c.Phase = phS c)) && (decide (c.User = if phS c = 3 then usr c else []) && decide (c.Err = if bd4 c = true then 28 else 0))
def a98 (c : aa3) : Bool := if aw9 c = true then decide ((List.length c.Peer : Int) = 32) else decide (c.Peer = [])
def ag3 (c : aa3) : Bool := bq3 c && (stB c && a98 c)
theorem bC0 (p : Str) : aY9 p ≤ 3 := by
 unfold aY9
 split
 ·omega
 ·split
  ·omega
  ·split <;> omega
theorem bU6 {c : aa3} (h : bH4 c.Key = true) : (usr c).length ≤ 32 ∧ 1 ≤ (usr c).length ∧ (sec c).length ≤ 64 ∧ 1 ≤ (sec c).length := by
 unfold bH4 bt4 at h
 simp only [Bool.and_eq_true, decide_eq_true_eq] at h
 unfold usr sec
 omega
theorem bH5 (hk : Sh c.Key) : aD8 c = some (ag3 c) := by
 have hl := hk.le
 unfold aD8 ag3
 by_cases h1 : c.Id < 0
 ·simp [h1, bq3]
 by_cases h2 : 1048575 < c.Id
 ·simp [h1, h2, bq3]
 by_cases h3 : ai3 c.Proto = true
 case neg =>
  rw [Bool.not_eq_true] at h3
  simp [h1, h2, h3, bq3, ap5, a96]
 by_cases h4 : c.Role = 1 ∨ c.Role = 2
 case neg =>
  have r1 : ¬ c.Role = 1 := fun h => h4 (.inl h)
  have r2 : ¬ c.Role = 2 := fun h => h4 (.inr h)
  simp [h1, h2, h3, r1, r2, bq3, ap5, a96]
 have e4 : (if (!decide (c.Role = 1)) = true then some (!decide (c.Role = 2)) else some false) = some false := by
  rcases h4 with h | h <;> simp [h]
 simp only [h1, h2, decide_false, Bool.false_eq_true, if_false, ap5, Option.bind_some, a96, h3, Bool.not_true, e4, bi8 hk.ok]
 by_cases h5 : bH4 c.Key = true
 case neg =>
  rw [Bool.not_eq_true] at h5
  have : (if (!decide (bp4 c.Key = 0)) = true then some true else (aD7 c.Key).bind fun x11 => if (!x11) = true then some true else if (!decide ((List.length c.Own : Int) = 32)) = true then some true else if decide (c.Step < 0) = true then some true else (aF8 c.Proto).bind fun x15 => some (decide (x15 < c.Step))) = some true := by
   unfold bH4 at h5
   by_cases hc : bp4 c.Key = 0
   ·simp only [hc, decide_true, Bool.true_and] at h5
    simp [hc, bq1 hl, h5]
   ·simp [hc]
  simp only [this, Option.bind_some, if_true]
  simp [bq3, h5]
 have h5' := h5
 unfold bH4 at h5'
 simp only [Bool.and_eq_true, decide_eq_true_eq] at h5'
 simp only [h5'.1, decide_true, Bool.not_true, Bool.false_eq_true, if_false, bq1 hl, h5'.2, Option.bind_some]
 by_cases h6 : (List.length c.Own : Int) = 32
 case neg => simp [h6, bq3]
 by_cases h7 : c.Step < 0
 ·simp [h6, h7, bq3]
 by_cases h8 : aY9 c.Proto < c.Step
 ·simp [h6, h7, h8, bq3, bq0 h3]
 simp only [h6, h7, h8, decide_true, decide_false, Bool.not_true, Bool.false_eq_true, if_false, bq0 h3, Option.bind_some, aY3 h3 hl]
 have hpre : bq3 c = true := by
  have e4' : (decide (c.Role = 1) || decide (c.Role = 2)) = true := by simpa using h4
  simp [bq3, h1, h2, h3, e4', h5, h6, h7, h8]
 have hm := bC0 c.Proto
 obtain ⟨u1, _⟩ := bU6 h5
 rw [hpre, Bool.true_and]
 have eK : aK3 c = some (aw9 c) := by rw [ck9 (by omega) (by omega) hl (by omega), bq2 h3 h4]
 have eP : (bi9 c).Phase = phS c := rfl
 have eU : (bi9 c).User = if phS c = 3 then usr c else [] := rfl
 rw [eP, eU, eK]
 have eF : (decide (c.Phase = 4) && decide (phS c = 2)) = bd4 c := rfl
 rw [eF]
 have key : (if (!bd4 c) = true then if (!decide (c.Phase = phS c)) = true then some true else if (!decide (c.User = if phS c = 3 then usr c else [])) = true then some true else if (!decide (bd4 c = decide (c.Err = 28))) = true then some true else some (!decide (c.Err = 0)) else if (!decide (c.User = if phS c = 3 then usr c else [])) = true then some true else if (!decide (bd4 c = decide (c.Err = 28))) = true then some true else some false) = some (!stB c) := by
  unfold stB
  generalize (if phS c = 3 then usr c else []) = X
  cases hf : bd4 c with
  | true =>
   by_cases q : c.User = X
   ·by_cases e : c.Err = 28
    ·simp [q, e]
    ·simp [q, e]
   ·simp [q]
  | false =>
   by_cases p : c.Phase = phS c
   ·by_cases q : c.User = X
    ·by_cases e : c.Err = 28
     ·simp [p, q, e]
     ·by_cases z : c.Err = 0
      ·simp [p, q, z]
      ·simp [p, q, e, z]
    ·simp [p, q]
   ·simp [p]
 rw [key, Option.bind_some]
 unfold a98
 cases stB c with
 | false => simp
 | true => simp only [Bool.not_true, Bool.false_eq_true, if_false, Option.bind_some, Bool.true_and]; cases aw9 c <;> rfl
def ar2 (c : aa3) : Bool := (decide (c.Proto = [])) && ((decide (c.Role = 0)) && ((decide (c.Phase = 0)) && ((decide (c.Step = 0)) && ((decide (c.Key = [])) && ((decide (c.Own = [])) && ((decide (c.Peer = [])) && ((decide (c.User = [])) && (decide (c.Err = 0)))))))))
theorem bC1 (c : aa3) : as0 c = some (ar2 c) := by
 unfold as0 ar2
 have : decide ((List.length c.Key : Int) = 0) = decide (c.Key = []) := by
  rw [decide_eq_decide]
  constructor
  ·intro h; exact List.eq_nil_of_length_eq_zero (by omega)
  ·intro h; rw [h]; rfl
 rw [this]
def b90 (l : List (List aa1)) (i : Nat) (k : List aa1) : Bool := cf5 k && !((l.take i).any fun o => decide (pub o = pub k))
theorem b91 {l : List (List aa1)} {k : List aa1} (hl : l.length ≤ 1000000) (h : ∀ o ∈ l, o.length ≤ 1000000) (hk : k.length ≤ 1000000) : ad2 l k = some (l.any fun o => decide (pub o = pub k)) := by
 unfold ad2
 have : ae6 l k = some (ba6 (fun o => decide (pub o = pub k)) l) := by
  unfold ae6
  refine aO2 hl (fun i hi => ?_) ?_
  ·simp only [ad1, dlt hi, if_true, ab6 hi, Option.bind_some, aT2, bU3 (h _ (List.getElem_mem hi)) hk]
  ·simp [ad1]
 rw [this, Option.bind_some, bB1]
theorem cu9 (h : Lim a) : aK2 a = some (bI9 (b90 a.Keys) 0 a.Keys && decide ((List.length a.Keys : Int) ≤ 64)) := by
 have h1 := h.keys
 unfold aK2
 refine (bG9 a.Keys (b90 a.Keys) false (decide ((List.length a.Keys : Int) ≤ 64)) _ (fun i hi => ?_) ?_).trans ?_
 ·have hk := h.key _ (List.getElem_mem hi)
  have hc : cut a.Keys 0 (i : Int) = some (a.Keys.take i) := aP2 (by omega)
  simp only [az8, dlt hi, if_true, ab6 hi, Option.bind_some, cp9 hk, hc, b91 (show (a.Keys.take i).length ≤ 1000000 by simp; omega) (fun o ho => (h.key o (List.mem_of_mem_take ho)).le) hk.le]
  rw [ag2 (by omega)]
  unfold b90
  cases cf5 a.Keys[i] <;> cases ((a.Keys.take i).any fun o => decide (pub o = pub a.Keys[i])) <;> rfl
 ·simp [az8]
 ·cases bI9 (b90 a.Keys) 0 a.Keys <;> rfl
def bq4 (a : aa2) (i : Nat) (c : aa3) : Bool := !decide (c.Id < 1) && (!decide (a.Next ≤ c.Id) && ((match i with | 0 => true | k + 1 => match a.Convs[k]? with | some p => !decide (c.Id ≤ p.Id) | none => false) && (ar2 c || ag3 c)))
def bC2 (a : aa2) : Bool := !((decide (a.Owner = [])) || ((decide (32 < (List.length a.Owner : Int))) || ((decide (1024 < (List.length a.Seed : Int))) || ((decide (a.Next < 1)) || ((decide (1048560 < a.Next)) || ((decide (a.Count < 0)) || (decide (9007199254740991 < a.Count))))))))
def bg9 (a : aa2) : Bool := bC2 a && (!decide (32 < (List.length a.Convs : Int)) && (!decide (64 < (List.length a.Keys : Int)) && (bI9 (b90 a.Keys) 0 a.Keys && bI9 (bq4 a) 0 a.Convs)))
theorem b92 {β : Type} {i : Nat} (hi : i < a.Convs.length) (hl : a.Convs.length ≤ 1000000) (F : aa3 → Option Bool) (hF : F a.Convs[i] = some (ar2 a.Convs[i] || ag3 a.Convs[i])) (f g : aa3 → Option Bool)
  (hf : f a.Convs[i] = some (ar2 a.Convs[i])) (hg : g a.Convs[i] = some (ag3 a.Convs[i])) :
  (if (decide ((a.Convs[i]).Id < 1)) then some true else if (decide (a.Next ≤ (a.Convs[i]).Id)) then some true else if (decide (0 < (i : Int))) then (ad9 a.Convs (IntKind.wrap .i64 ((i : Int) - 1))).bind fun x30 => if (decide ((a.Convs[i]).Id ≤ x30.Id)) then some true else (f a.Convs[i]).bind fun x32 => if (!x32) then (g a.Convs[i]).bind fun x34 => some (!x34) else some false else (f a.Convs[i]).bind fun x35 => if (!x35) then (g a.Convs[i]).bind fun x37 => some (!x37) else some false) = some (!bq4 a i a.Convs[i]) := by
 unfold bq4
 have hfg : ((f a.Convs[i]).bind fun x32 => if (!x32) then (g a.Convs[i]).bind fun x34 => some (!x34) else some false) = some (!(ar2 a.Convs[i] || ag3 a.Convs[i])) := by
  rw [hf, hg, Option.bind_some]
  cases ar2 a.Convs[i] <;> simp
 simp only [hfg]
 by_cases h1 : (a.Convs[i]).Id < 1
 ·simp [h1]
 by_cases h2 : a.Next ≤ (a.Convs[i]).Id
 ·simp [h1, h2]
 simp only [h1, h2, decide_false, Bool.false_eq_true, if_false, Bool.not_false, Bool.true_and]
 cases i with
 | zero => simp
 | succ k =>
  have hk : k < a.Convs.length := by omega
  have hw : IntKind.wrap .i64 (((k + 1 : Nat) : Int) - 1) = (k : Int) := by rw [ah7 (by omega) (by omega)]; omega
  have hp : (0 : Int) < ((k + 1 : Nat) : Int) := by omega
  rw [hw, ab6 hk]
  simp only [hp, decide_true, if_true, Option.bind_some, List.getElem?_eq_getElem hk]
  by_cases h3 : (a.Convs[k + 1]).Id ≤ (a.Convs[k]).Id
  ·simp [h3]
  ·simp [h3]
theorem cl0 (h : Lim a) : as2 a = some (bg9 a) := by
 have h1 := h.keys
 have h2 := h.convs
 unfold as2 bg9
 have eb : ((decide (a.Owner = [])) || ((decide (32 < (List.length a.Owner : Int))) || ((decide (1024 < (List.length a.Seed : Int))) || ((decide (a.Next < 1)) || ((decide (1048560 < a.Next)) || ((decide (a.Count < 0)) || (decide (9007199254740991 < a.Count)))))))) = !bC2 a := by unfold bC2; rw [Bool.not_not]
 rw [eb]
 cases bC2 a with
 | false => rfl
 | true =>
  simp only [Bool.not_true, Bool.false_eq_true, if_false, Bool.true_and]
  by_cases q1 : (32 : Int) < (List.length a.Convs : Int)
  ·simp [q1]
  by_cases q2 : (64 : Int) < (List.length a.Keys : Int)
  ·simp [q1, q2]
  have q2' : decide ((List.length a.Keys : Int) ≤ 64) = true := by simp; omega
  simp only [q1, q2, decide_false, Bool.false_eq_true, if_false, cu9 h, q2', Option.bind_some, Bool.and_true, Bool.not_false, Bool.true_and]
  cases bI9 (b90 a.Keys) 0 a.Keys with
  | false => rfl
  | true =>
   simp only [Bool.not_true, Bool.false_eq_true, if_false, Bool.true_and]
   refine (bG9 a.Convs (bq4 a) false true _ (fun i hi => ?_) ?_).trans ?_
   ·have hs := (h.conv _ (List.getElem_mem hi)).key
    simp only [aw5, dlt hi, if_true, ab6 hi, Option.bind_some]
    rw [b92 (β := Unit) hi (by omega) (fun _ => some (ar2 a.Convs[i] || ag3 a.Convs[i])) rfl as0 aD8 (bC1 _) (bH5 hs), Option.bind_some, ag2 (by omega)]
    cases bq4 a i a.Convs[i] <;> rfl
   ·simp [aw5]
   ·cases bI9 (bq4 a) 0 a.Convs <;> rfl
structure Val (a : aa2) : Prop where
 lim : Lim a
 ok : bg9 a = true
theorem Val.base (v : Val a) : a.Owner ≠ [] ∧ a.Owner.length ≤ 32 ∧ a.Seed.length ≤ 1024 ∧ 1 ≤ a.Next ∧ a.Next ≤ 1048560 ∧ 0 ≤ a.Count ∧ a.Count ≤ 9007199254740991 ∧ a.Convs.length ≤ 32 ∧ a.Keys.length ≤ 64 := by
 have h := v.ok
 unfold bg9 bC2 at h
 simp only [Bool.and_eq_true, Bool.not_eq_true', Bool.or_eq_false_iff, decide_eq_false_iff_not] at h
 obtain ⟨⟨h1, h2, h3, h4, h5, h6, h7⟩, h8, h9, _⟩ := h
 exact ⟨h1, by omega, by omega, by omega, by omega, by omega, by omega, by omega, by omega⟩
theorem Val.convAt (v : Val a) {i : Nat} (hi : i < a.Convs.length) : 1 ≤ (a.Convs[i]).Id ∧ (a.Convs[i]).Id < a.Next ∧ (ar2 a.Convs[i] = true ∨ ag3 a.Convs[i] = true) := by
 have h := v.ok
 unfold bg9 at h
 simp only [Bool.and_eq_true] at h
 have := a65.1 h.2.2.2.2 i hi
 unfold bq4 at this
 simp only [Bool.and_eq_true, Bool.not_eq_true', decide_eq_false_iff_not, Bool.or_eq_true] at this
 exact ⟨by omega, by omega, this.2.2.2⟩
theorem Val.conv (v : Val a) {c : aa3} (hc : c ∈ a.Convs) : 1 ≤ c.Id ∧ c.Id < 1048560 := by
 obtain ⟨i, hi, rfl⟩ := List.getElem_of_mem hc
 have := v.convAt hi
 have := v.base
 omega
theorem Val.key (v : Val a) {k : List aa1} (hk : k ∈ a.Keys) : cf5 k = true := by
 obtain ⟨i, hi, rfl⟩ := List.getElem_of_mem hk
 have h := v.ok
 unfold bg9 at h
 simp only [Bool.and_eq_true] at h
 have := a65.1 h.2.2.2.1 i hi
 unfold b90 at this
 simp only [Bool.and_eq_true] at this
 exact this.1
def aI9 (a : aa2) (id : Int) : Int := ixF (fun c => decide (c.Id = id - 16)) a.Convs 0
theorem cv0 {c : aa3} {id : Int} (w : -9223372036854775808 ≤ id ∧ id ≤ 9223372036854775807) (h : 1 ≤ c.Id ∧ c.Id < 1048560) : decide (c.Id = IntKind.wrap .i64 (id - 16)) = decide (c.Id = id - 16) := by
 by_cases q : -9223372036854775792 ≤ id
 ·rw [ah7 (by omega) (by omega)]
 ·have : IntKind.wrap .i64 (id - 16) = id - 16 + 18446744073709551616 := by
   have e : IntKind.wrap .i64 (id - 16) = if 9223372036854775808 ≤ (id - 16) % 18446744073709551616 then (id - 16) % 18446744073709551616 - 18446744073709551616 else (id - 16) % 18446744073709551616 := by simp [IntKind.wrap, IntKind.bits, IntKind.signed]
   rw [e]
   split <;> omega
  rw [this, decide_eq_decide]
  omega
theorem bq5 (v : Val a) {id : Int} (w : -9223372036854775808 ≤ id ∧ id ≤ 9223372036854775807) : au5 a id = some (aI9 a id) := by
 have hb := v.base
 unfold au5 ag7
 have : aa8 (fun s => ab2 a.Convs id s) 0 = some (aI9 a id) := by
  refine bM7 a.Convs _ _ (fun i hi => ?_) ?_
  ·simp only [ab2, dlt hi, if_true, ab6 hi, Option.bind_some, aS9, cv0 w (v.conv (List.getElem_mem hi))]
   rw [ag2 (by omega)]
   cases decide ((a.Convs[i]).Id = id - 16) <;> rfl
  ·simp [ab2]
 rw [this]; rfl
def as4 (a : aa2) (id : Int) : Bool := (decide (1 ≤ id) && decide (id ≤ 4)) || decide (0 ≤ aI9 a id)
theorem a99 (v : Val a) {id : Int} (w : -9223372036854775808 ≤ id ∧ id ≤ 9223372036854775807) : am2 a id = some (as4 a id) := by
 unfold am2 as4
 rw [bq5 v w]
 cases decide (1 ≤ id) <;> cases decide (id ≤ 4) <;> simp
theorem aO4 (v : Val a) (id : Int) : aI9 a id = -1 ∨ ∃ i, ∃ h : i < a.Convs.length, aI9 a id = (i : Int) ∧ (a.Convs[i]).Id = id - 16 ∧ 17 ≤ id ∧ id < 1048576 := by
 rcases bn7 (fun c => decide (c.Id = id - 16)) a.Convs 0 with ⟨h1, h2⟩ | ⟨x, k, y, h1, h2, h3, h4⟩
 ·exact .inl h2
 ·refine .inr ⟨x.length, by rw [h1]; simp, by unfold aI9; rw [h4]; simp, ?_⟩
  have hk : a.Convs[x.length]? = some k := by rw [h1]; simp
  have hi : x.length < a.Convs.length := by rw [h1]; simp
  have e : a.Convs[x.length] = k := by
   rw [List.getElem?_eq_getElem hi] at hk
   exact Option.some.inj hk
  have hid := of_decide_eq_true h2
  have := v.conv (c := k) (by rw [h1]; simp)
  rw [e]
  omega
def bD4 (p : List aa1) : List (List aa1) → List aa1 × Bool
 | [] => ([], false)
 | k :: r => if p.all (a95 k) = true then (k, true) else bD4 p r
theorem cD3 (h : Lim a) {p : List aa1} (hp : p.length ≤ 1000000) : aK1 a p = some (bD4 p a.Keys) := by
 have h1 := h.keys
 unfold aK1
 refine (ai8 a.Keys.length (fun (_ : Unit) i => i) (fun s => aA5 a p s) (fun i _ => bD4 p (a.Keys.drop i)) (fun _ _ => True) (s0 := ()) trivial ?_ ?_)
 ·intro _ i hi _
  have hk := (h.key _ (List.getElem_mem hi)).le
  simp only [aA5, dlt hi, if_true, ab6 hi, Option.bind_some, bd2 hk hp, aD0 hk]
  rw [List.drop_eq_getElem_cons hi]
  cases q : p.all (a95 a.Keys[i]) with
  | true => right; simp [bD4, q]
  | false => left; exact ⟨(), by rw [ag2 (by omega)]; simp, by simp [bD4, q], trivial⟩
 ·intro _ _
  simp [aA5, bD4]
theorem bC3 {p : List aa1} : ∀ {l : List (List aa1)}, (bD4 p l).2 = true → (bD4 p l).1 ∈ l
 | k :: r, h => by
  unfold bD4 at h ⊢
  split
  ·simp
  ·rename_i q
   rw [if_neg q] at h
   exact List.mem_cons_of_mem _ (bC3 h)
variable {c : aa3} {a : aa2} {id : Int}
def be5 (a : aa2) : List Int := [2, 3, 4] ++ a.Convs.map fun c => 16 + c.Id
def bN5 (k : List aa1) : Str := [107, 101, 121, 32] ++ (if bp4 (pub k) = 0 then a13 (pub k) else []) ++ [10]
def bt5 (a : aa2) (id : Int) : Str := if id = 2 then (a.Keys.map bN5).flatten else if id = 3 then ah5 ++ [10] ++ (aq1 ++ [10]) ++ (ai5 ++ [10]) else []
theorem bH6 {k : List aa1} (h : Sh k) : (bN5 k).length ≤ 31000000 := by
 have hp := cp8 h
 have h1 : (a13 (pub k)).length ≤ 2000 * 15004 + 10 := by
  unfold a13
  have := bT9 (K := 15003) (sep := [32]) (l := (pub k).map bw8) (fun x hx => by
   obtain ⟨y, hy, rfl⟩ := List.mem_map.1 hx
   exact bT8 (hp.ok.2 y hy))
  have h2 := hp.len
  simp only [List.length_map] at this
  have h3 : (pub k).length * (15003 + List.length ([32] : Str)) ≤ 2000 * 15004 := Nat.mul_le_mul h2 (by simp)
  omega
 unfold bN5
 split <;> simp <;> omega
theorem bU7 : ∀ {l : List (List aa1)}, (∀ k ∈ l, Sh k) → (l.map bN5).flatten.length ≤ l.length * 31000000
 | [], _ => by simp
 | k :: r, h => by
  have h1 := bH6 (h k (by simp))
  have h2 := bU7 (l := r) fun x hx => h x (by simp [hx])
  simp only [List.map_cons, List.flatten_cons, List.length_append, List.length_cons]
  omega
theorem b94 (v : Val a) : (bt5 a id).length ≤ 2300000000 := by
 have hb := v.base
 unfold bt5
 split
 ·have := bU7 (l := a.Keys) v.lim.key
  omega
 ·split
  ·decide
  ·simp
theorem bN6 (v : Val a) : az4 a id = some (bt5 a id) := by
 have hb := v.base
 unfold az4 bt5
 by_cases h2 : id = 2
 ·simp only [h2, decide_true, if_true]
  refine (ai8 a.Keys.length (fun (s : Str) i => (i, s)) (fun s => am5 a s.1 s.2) (fun i s => s ++ ((a.Keys.drop i).map bN5).flatten) (fun i s => s.length ≤ i * 31000000) (s0 := []) (by simp) ?_ ?_).trans rfl
  ·intro s i hi hs
   left
   have hk := v.lim.key _ (List.getElem_mem hi)
   have hl := bH6 hk
   have hp := ck5 (cp8 hk).ok
   unfold pub at hp
   refine ⟨s ++ bN5 a.Keys[i], ?_, ?_, ?_⟩
   ·simp only [am5, dlt hi, if_true, ab6 hi, Option.bind_some, bp8 hk.le, hp]
    have e : (if bp4 (List.filter (fun a => !aG4 a.Name) a.Keys[i]) = 0 then (a13 (List.filter (fun a => !aG4 a.Name) a.Keys[i]), (0 : Int)) else ([], bp4 (List.filter (fun a => !aG4 a.Name) a.Keys[i]))).1 = (if bp4 (pub a.Keys[i]) = 0 then a13 (pub a.Keys[i]) else []) := by
     unfold pub; split <;> rfl
    rw [e]
    unfold bN5 at hl ⊢
    generalize (if bp4 (pub a.Keys[i]) = 0 then a13 (pub a.Keys[i]) else []) = X at hl ⊢
    have hX : X.length ≤ 31000000 := by simp at hl; omega
    have c1 : am8 [107, 101, 121, 32] X = some ([107, 101, 121, 32] ++ X) := by unfold am8; rw [if_pos (by simp; omega)]
    have c2 : am8 ([107, 101, 121, 32] ++ X) [10] = some ([107, 101, 121, 32] ++ X ++ [10]) := by unfold am8; rw [if_pos (by simp; omega)]
    have c3 : bAdd s ([107, 101, 121, 32] ++ X ++ [10]) = some (s ++ ([107, 101, 121, 32] ++ X ++ [10])) := by unfold bAdd; rw [if_pos (by simp; omega)]
    rw [c1, Option.bind_some, c2, Option.bind_some, c3, Option.bind_some, ag2 (by omega)]
   ·rw [List.drop_eq_getElem_cons hi, List.map_cons, List.flatten_cons, List.append_assoc]
   ·simp only [List.length_append]; omega
  ·intro s hs
   simp [am5, ao3]
 ·by_cases h3 : id = 3
  ·subst h3
   have n2 : ¬ (3 : Int) = 2 := by decide
   simp only [n2, decide_true, decide_false, if_true, Bool.false_eq_true, if_false, ap5, Option.bind_some]
   have b1 : aj1 [[99, 104, 97, 108], [109, 117, 116, 117, 97, 108], [112, 108, 97, 105, 110]] 0 [] = some (.cont (1, ah5 ++ [10])) := by kernel_rfl
   have b2 : aj1 [[99, 104, 97, 108], [109, 117, 116, 117, 97, 108], [112, 108, 97, 105, 110]] 1 (ah5 ++ [10]) = some (.cont (2, ah5 ++ [10] ++ (aq1 ++ [10]))) := by kernel_rfl
   have b3 : aj1 [[99, 104, 97, 108], [109, 117, 116, 117, 97, 108], [112, 108, 97, 105, 110]] 2 (ah5 ++ [10] ++ (aq1 ++ [10])) = some (.cont (3, ah5 ++ [10] ++ (aq1 ++ [10]) ++ (ai5 ++ [10]))) := by kernel_rfl
   have b4 : aj1 [[99, 104, 97, 108], [109, 117, 116, 117, 97, 108], [112, 108, 97, 105, 110]] 3 (ah5 ++ [10] ++ (aq1 ++ [10]) ++ (ai5 ++ [10])) = some (.done (ah5 ++ [10] ++ (aq1 ++ [10]) ++ (ai5 ++ [10]))) := by kernel_rfl
   rw [ai6 (s' := (1, ah5 ++ [10])) b1, ai6 (s' := (2, ah5 ++ [10] ++ (aq1 ++ [10]))) b2, ai6 (s' := (3, ah5 ++ [10] ++ (aq1 ++ [10]) ++ (ai5 ++ [10]))) b3, ax4 b4]
  ·simp only [h2, h3, decide_false, Bool.false_eq_true, if_false]; rfl
theorem ag5 {x y : Str} (h : x.length + y.length ≤ 9223372036854775807) : am8 x y = some (x ++ y) := by unfold am8; rw [if_pos h]
def cl1 (s : Str) (off cnt : Int) : Str := (s.drop (min off.toNat s.length)).take cnt.toNat
theorem cv1 {s : Str} {off cnt : Int} (h0 : 0 ≤ off) (h1 : 0 ≤ cnt) (hs : s.length ≤ 10000000000) :
  ((cut s (min off (List.length s : Int)) (List.length s : Int)).bind fun x => cut x 0 (min (min cnt 65536) (List.length x : Int))) = some (cl1 s off (min cnt 65536)) := by
 have e1 : min off (List.length s : Int) = ((min off.toNat s.length : Nat) : Int) := by omega
 rw [e1, az2 (by omega), Option.bind_some]
 generalize hk : min off.toNat s.length = k
 have e2 : min (min cnt 65536) (List.length (s.drop k) : Int) = ((min (min cnt 65536).toNat (s.drop k).length : Nat) : Int) := by omega
 rw [e2, aP2 (by omega)]
 unfold cl1
 rw [hk]
 congr 1
 rcases Nat.le_total (min cnt 65536).toNat (s.drop k).length with q | q
 ·rw [Nat.min_eq_left q]
 ·rw [Nat.min_eq_right q, List.take_of_length_le (Nat.le_refl _), List.take_of_length_le q]
def cv2 (a : aa2) (id off cnt : Int) : aa2 × Str × Int :=
 if as4 a id = true then (if id = 1 then (a, [], 10) else if off < 0 ∨ cnt < 0 then (a, [], 1) else (a, cl1 (bt5 a id) off (min cnt 65536), 0)) else (a, [], 8)
theorem cl2 (v : Val a) (w : -9223372036854775808 ≤ id ∧ id ≤ 9223372036854775807) (hc : aI9 a id = -1) (off cnt : Int) : ah0 a id off cnt = some (cv2 a id off cnt) := by
 unfold ah0 cv2
 rw [an6 v.lim, Option.bind_some, a99 v w, Option.bind_some]
 cases he : as4 a id with
 | false => rfl
 | true =>
  by_cases h1 : id = 1
  ·simp [h1]
  ·by_cases h2 : off < 0 ∨ cnt < 0
   ·have : (decide (off < 0) || decide (cnt < 0)) = true := by simpa using h2
    simp [h1, h2, this]
   ·have h2' : (decide (off < 0) || decide (cnt < 0)) = false := by
     rw [Bool.or_eq_false_iff, decide_eq_false_iff_not, decide_eq_false_iff_not]; omega
    have hl := b94 (id := id) v
    have hp := cv1 (s := bt5 a id) (off := off) (cnt := cnt) (by omega) (by omega) (by omega)
    have hn : ¬ (0 : Int) ≤ -1 := by omega
    simp only [h1, h2, h2', decide_false, Bool.not_true, Bool.false_eq_true, if_false, if_true, bq5 v w, hc, hn, Option.bind_some, bN6 v]
    cases hcut : cut (bt5 a id) (min off (List.length (bt5 a id) : Int)) (List.length (bt5 a id) : Int) with
    | none => rw [hcut] at hp; cases hp
    | some x =>
     rw [hcut, Option.bind_some] at hp
     rw [Option.bind_some, hp]; rfl
end Go.Proofs.YtiliognepodhnaaGreatDoor
