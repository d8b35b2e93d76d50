import Derived.Test.YtchaaedlfibdoaaGreatDoorVmW
import Derived.Test.YtchaaedlfibdoaaGreatDoorVmE
import Derived.ChangeKeysEq
import Derived.Deep.AppendSrc
import Derived.Lib.UnsafeStr
import Derived.Recover
import Derived.LoopN
import Derived.Laws.Externs
import Derived.Lib.Repeat
import Derived.Lib.Index
open Go.Vm (oB oI oE oM pJ dT iN iP rB gS aO gA bA)
open Bool (false_eq_true or_eq_true)
open List (all_eq_true any_eq_true getElem?_take mapM_cons mem_cons mem_range range' replicate take_of_length_le)
open Nat (add_mul ble blt_eq eq_of_beq_eq_true le_refl zero_add zero_le)
open Option (bind_eq_bind map_some pure_def)
namespace Go.Gr
set_option linter.unusedVariables false
open Go.Vm (aa9 ad9 ad7 ak0 ah1 ak8 ag2 Shape.size aw7 splice ac4)
open Go.RowKit (Below)
inductive LV where
 | b (x : Bool)
 | i (k : IntKind) (n : Int)
 | s (l : List UInt8)
 | p0
 | p (a o : Nat)
 | l0
 | l (a o n c : Nat)
 | fn (f : FuncId) (cs : List LV)
 | f0
 | n0
 | agg (cs : List LV)
 | tup (cs : List LV)
 deriving Inhabited
def LV.cells : LV → List LV
 | .agg cs => cs
 | x => [x]
def LV.one : LV → Bool
 | .agg _ => false
 | .tup _ => false
 | _ => true
structure Blk where
 b : Nat
 k : Nat
 z : Nat
abbrev Mp := Nat → Option Blk
mutual
inductive VR (σ : Mp) : LV → Value → Prop
 | b (x : Bool) : VR σ (.b x) (.bool x)
 | i (k : IntKind) (n : Int) : VR σ (.i k n) (.int k n)
 | s (l : List UInt8) : VR σ (.s l) (.string ⟨l.toArray⟩)
 | p0 : VR σ .p0 (.pointer none)
 | p {a o : Nat} {q : Blk} (h : σ a = some q) : VR σ (.p a o) (.pointer (some ⟨q.b, o, none⟩))
 | l0 : VR σ .l0 (.slice none 0 0)
 | l {a o n c c' : Nat} {q : Blk} (h : σ a = some q) (hn : n ≤ c) (hc : c = c' ∨ c ≤ c' ∧ o = 0 ∧ c' * q.k ≤ q.z) : VR σ (.l a o n c) (.slice (some ⟨q.b, o, none⟩) n c')
 | fn (f : FuncId) {cs : List LV} {vs : Array Value} (h : VRs σ cs vs.toList) : VR σ (.fn f cs) (.func (.func f) #[] vs)
 | f0 : VR σ .f0 .nilFunc
 | n0 : VR σ .n0 .nilIface
 | agg {cs : List LV} {vs : Array Value} (h : VRs σ cs vs.toList) : VR σ (.agg cs) (.agg vs)
 | tup {cs : List LV} {vs : Array Value} (h : VRs σ cs vs.toList) : VR σ (.tup cs) (.tuple vs)
inductive VRs (σ : Mp) : List LV → List Value → Prop
 | nil : VRs σ [] []
 | cons {x : LV} {v : Value} {xs : List LV} {vs : List Value} (h : VR σ x v) (r : VRs σ xs vs) : VRs σ (x :: xs) (v :: vs)
end
theorem VR.undef (σ : Mp) : VR σ (.tup []) Go.undef := .tup .nil
def Ext (σ σ' : Mp) : Prop := ∀ a q, σ a = some q → σ' a = some q
theorem Ext.refl (σ : Mp) : Ext σ σ := fun _ _ h => h
theorem Ext.trans {a b c : Mp} (h : Ext a b) (k : Ext b c) : Ext a c := fun x q hx => k x q (h x q hx)
mutual
theorem VR.mono {σ σ' : Mp} (he : Ext σ σ') : ∀ {x : LV} {v : Value}, VR σ x v → VR σ' x v
 | _, _, .b x => .b x
 | _, _, .i k n => .i k n
 | _, _, .s l => .s l
 | _, _, .p0 => .p0
 | _, _, .p h => .p (he _ _ h)
 | _, _, .l0 => .l0
 | _, _, .l h hn hc => .l (he _ _ h) hn hc
 | _, _, .fn f h => .fn f (VRs.mono he h)
 | _, _, .f0 => .f0
 | _, _, .n0 => .n0
 | _, _, .agg h => .agg (VRs.mono he h)
 | _, _, .tup h => .tup (VRs.mono he h)
theorem VRs.mono {σ σ' : Mp} (he : Ext σ σ') : ∀ {x : List LV} {v : List Value}, VRs σ x v → VRs σ' x v
 | _, _, .nil => .nil
 | _, _, .cons h r => .cons (VR.mono he h) (VRs.mono he r)
end
theorem VRs.length {σ : Mp} : ∀ {xs : List LV} {vs : List Value}, VRs σ xs vs → xs.length = vs.length
 | _, _, .nil => rfl
 | _, _, .cons _ r => by simp [r.length]
theorem VRs.get {σ : Mp} : ∀ {xs : List LV} {vs : List Value}, VRs σ xs vs → ∀ (i : Nat) (x : LV), xs[i]? = some x → ∃ v, vs[i]? = some v ∧ VR σ x v
 | _, _, .nil, i, x, h => by simp at h
 | _, _, .cons h r, 0, x, hx => by simp at hx; subst hx; exact ⟨_, rfl, h⟩
 | _, _, .cons h r, i + 1, x, hx => by simp at hx; obtain ⟨v, hv, hr⟩ := r.get i x hx; exact ⟨v, by simpa using hv, hr⟩
theorem VRs.drop {σ : Mp} {xs : List LV} {vs : List Value} (h : VRs σ xs vs) (n : Nat) : VRs σ (xs.drop n) (vs.drop n) := by
 induction n generalizing xs vs with
 | zero => simpa using h
 | succ n ih => cases h with
  | nil => simpa using VRs.nil
  | cons h r => simpa using ih r
theorem VRs.take {σ : Mp} {xs : List LV} {vs : List Value} (h : VRs σ xs vs) (n : Nat) : VRs σ (xs.take n) (vs.take n) := by
 induction n generalizing xs vs with
 | zero => simpa using VRs.nil
 | succ n ih => cases h with
  | nil => simpa using VRs.nil
  | cons h r => simpa using VRs.cons h (ih r)
theorem VRs.append {σ : Mp} {xs : List LV} {vs : List Value} (h : VRs σ xs vs) {ys : List LV} {us : List Value} (h' : VRs σ ys us) : VRs σ (xs ++ ys) (vs ++ us) := by
 induction xs generalizing vs with
 | nil => cases h; simpa using h'
 | cons p ps ih => cases h with
  | cons h r => simpa using VRs.cons h (ih r)
theorem VRs.splice {σ : Mp} {xs : List LV} {vs : List Value} (h : VRs σ xs vs) {ys : List LV} {us : List Value} (h' : VRs σ ys us) (off : Nat) : VRs σ (Vm.splice xs off ys) (Vm.splice vs off us) := by
 unfold Vm.splice
 rw [h'.length]
 exact ((h.take off).append h').append (h.drop _)
theorem VRs.set {σ : Mp} {xs : List LV} {vs : List Value} (h : VRs σ xs vs) {i : Nat} {x : LV} {v : Value} (hx : VR σ x v) : VRs σ (xs.set i x) (vs.set i v) := by
 induction i generalizing xs vs with
 | zero => cases h with
  | nil => exact .nil
  | cons h r => exact .cons hx r
 | succ n ih => cases h with
  | nil => exact .nil
  | cons h r => exact .cons h (ih r)
theorem VRs.flatten {σ : Mp} {xs : List LV} {vs : List Value} (h : VRs σ xs vs) (n : Nat) : VRs σ (replicate n xs).flatten (replicate n vs).flatten := by
 induction n with
 | zero => simpa using VRs.nil
 | succ n ih => simp only [List.replicate_succ, List.flatten_cons]; exact h.append ih
theorem VR.cells {σ : Mp} {x : LV} {v : Value} (h : VR σ x v) : VRs σ x.cells v.cells.toList := by
 cases h with
 | agg h => exact h
 | b x => exact .cons (.b x) .nil
 | i k n => exact .cons (.i k n) .nil
 | s l => exact .cons (.s l) .nil
 | p0 => exact .cons .p0 .nil
 | p h => exact .cons (.p h) .nil
 | l0 => exact .cons .l0 .nil
 | l h hn hc => exact .cons (.l h hn hc) .nil
 | fn f h => exact .cons (.fn f h) .nil
 | f0 => exact .cons .f0 .nil
 | n0 => exact .cons .n0 .nil
 | tup h => exact .cons (.tup h) .nil
theorem VR.oneCell {σ : Mp} {x : LV} {v : Value} (h : VR σ x v) (ho : x.one = true) : v.oneCell' = true := by
 cases h <;> first | rfl | simp [LV.one] at ho
theorem VRs.oneCell {σ : Mp} {xs : List LV} {vs : List Value} (h : VRs σ xs vs) (ho : ∀ x ∈ xs, x.one = true) : ∀ v ∈ vs, v.oneCell' = true := by
 induction xs generalizing vs with
 | nil => cases h; simp
 | cons p ps ih => cases h with
  | cons h r =>
   intro v hv
   rcases mem_cons.1 hv with rfl | hv
   ·exact h.oneCell (ho _ (by simp))
   ·exact ih r (fun q hq => ho q (by simp [hq])) v hv
def bf4 : Value → Option LV
 | .bool x => some (.b x)
 | .int k n => some (.i k n)
 | .string s => some (.s s.data.toList)
 | .pointer none => some .p0
 | .slice none 0 0 => some .l0
 | .nilFunc => some .f0
 | .nilIface => some .n0
 | _ => none
def bn3 : Value → Option LV
 | .agg cs => (cs.toList.mapM bf4).map .agg
 | v => bf4 v
theorem bn4 {σ : Mp} {v : Value} {x : LV} (h : bf4 v = some x) : VR σ x v := by
 unfold bf4 at h
 split at h <;> first | cases h; done | skip
 all_goals (simp only [oI] at h; subst h)
 ·exact .b _
 ·exact .i _ _
 ·exact .s _
 ·exact .p0
 ·exact .l0
 ·exact .f0
 ·exact .n0
theorem bf5 {σ : Mp} : ∀ {vs : List Value} {xs : List LV}, vs.mapM bf4 = some xs → VRs σ xs vs
 | [], xs, h => by simp at h; subst h; exact .nil
 | v :: vs, xs, h => by
  simp only [mapM_cons, bind, oE, pure, oI] at h
  obtain ⟨x, h1, ys, h2, rfl⟩ := h
  exact .cons (bn4 h1) (bf5 h2)
theorem bn5 {σ : Mp} {v : Value} {x : LV} (h : bn3 v = some x) : VR σ x v := by
 unfold bn3 at h
 split at h
 ·simp only [oM] at h
  obtain ⟨xs, h1, rfl⟩ := h
  exact .agg (bf5 h1)
 ·exact bn4 h
def bk0 (P : Program) (t : TypeId) : Option LV := (P.info? t).bind fun i => i.zero.bind bn3
theorem bn6 {v : Value} {x : LV} (h : bf4 v = some x) : x.one = true := by
 unfold bf4 at h
 split at h <;> first | cases h; done | skip
 all_goals (simp only [oI] at h; subst h; rfl)
theorem bx5 {α β : Type} {f : α → Option β} : ∀ {l : List α} {r : List β}, l.mapM f = some r → ∀ y ∈ r, ∃ x ∈ l, f x = some y
 | [], r, h, y, hy => by simp at h; subst h; simp at hy
 | a :: l, r, h, y, hy => by
  simp only [mapM_cons, bind, oE, pure, oI] at h
  obtain ⟨b, h1, r', h2, rfl⟩ := h
  rcases mem_cons.1 hy with rfl | hy
  ·exact ⟨a, by simp, h1⟩
  ·obtain ⟨x, hx, he⟩ := bx5 h2 y hy
   exact ⟨x, by simp [hx], he⟩
theorem bS4 {v : Value} {x : LV} (h : bn3 v = some x) : ∀ c ∈ x.cells, c.one = true := by
 unfold bn3 at h
 split at h
 ·simp only [oM] at h
  obtain ⟨xs, h1, rfl⟩ := h
  intro c hc
  obtain ⟨y, _, hy⟩ := bx5 h1 c hc
  exact bn6 hy
 ·have := bn6 h
  intro c hc
  have : x.cells = [x] := by cases x <;> first | rfl | simp [LV.one] at this
  rw [this] at hc
  simp at hc; subst hc; assumption
theorem aL4 {P : Program} {t : TypeId} {x : LV} (h : bk0 P t = some x) : ∃ i z, P.info? t = some i ∧ i.zero = some z ∧ (∀ σ, VR σ x z) ∧ ∀ c ∈ x.cells, c.one = true := by
 unfold bk0 at h
 simp only [oE] at h
 obtain ⟨i, h1, z, h2, h3⟩ := h
 exact ⟨i, z, h1, h2, fun σ => bn5 h3, bS4 h3⟩
inductive RO where
 | row (e : TypeId) (cs : List LV)
 | it (s : List UInt8) (pos : Nat)
 | dead
 deriving Inhabited
abbrev Hp := List RO
def cv5 (P : Program) (σ : Mp) (B : Nat) (w : World) (a : Nat) (e : TypeId) (cs : List LV) : Prop :=
 ∃ q cur vs i, σ a = some q ∧ B ≤ q.b ∧ w.heap[q.b]? = some (.cells cur e (0, 0)) ∧ cur.size = q.z ∧ P.info? e = some i ∧ i.size = q.k ∧ VRs σ cs vs ∧ cur.toList.take vs.length = vs ∧ ∀ c ∈ cs, c.one = true
def OR (P : Program) (σ : Mp) (B : Nat) (w : World) (a : Nat) : RO → Prop
 | .row e cs => cv5 P σ B w a e cs
 | .it s pos => ∃ q, σ a = some q ∧ B ≤ q.b ∧ w.heap[q.b]? = some (.stringIter ⟨s.toArray⟩ pos)
 | .dead => True
def RO.live : RO → Bool
 | .dead => false
 | _ => true
structure Inv (P : Program) (w0 : World) (σ : Mp) (h : Hp) (w : World) : Prop where
 bel : Below w0.heap.size w0 w
 ob : ∀ a o, h[a]? = some o → OR P σ w0.heap.size w a o
 inj : ∀ a a' o o' q q', h[a]? = some o → h[a']? = some o' → o.live = true → o'.live = true → σ a = some q → σ a' = some q' → q.b = q'.b → a = a'
 dom : ∀ a, h.length ≤ a → σ a = none
theorem OR.blk {P : Program} {σ : Mp} {B : Nat} {w : World} {a : Nat} {o : RO} (h : OR P σ B w a o) (hl : o.live = true) : ∃ q ob, σ a = some q ∧ B ≤ q.b ∧ w.heap[q.b]? = some ob := by
 cases o with
 | row e cs => obtain ⟨q, cur, vs, i, h1, h2, h3, _⟩ := h; exact ⟨q, _, h1, h2, h3⟩
 | it s pos => obtain ⟨q, h1, h2, h3⟩ := h; exact ⟨q, _, h1, h2, h3⟩
 | dead => cases hl
theorem OR.keep {P : Program} {σ σ' : Mp} {B : Nat} {w w' : World} {a : Nat} {o : RO} (h : OR P σ B w a o) (he : Ext σ σ') (hk : ∀ q, σ a = some q → o.live = true → w'.heap[q.b]? = w.heap[q.b]?) : OR P σ' B w' a o := by
 cases o with
 | row e cs =>
  obtain ⟨q, cur, vs, i, h1, h2, h3, h4, h5, h6, h7, h8, h9⟩ := h
  exact ⟨q, cur, vs, i, he _ _ h1, h2, by rw [hk q h1 rfl]; exact h3, h4, h5, h6, h7.mono he, h8, h9⟩
 | it s pos =>
  obtain ⟨q, h1, h2, h3⟩ := h
  exact ⟨q, he _ _ h1, h2, by rw [hk q h1 rfl]; exact h3⟩
 | dead => trivial
theorem br5 {w : World} {b : Nat} {o : Obj} (h : w.heap[b]? = some o) : b < w.heap.size := (gA.1 h).1
def b37 (σ : Mp) (a : Nat) (q : Blk) : Mp := fun x => if x = a then some q else σ x
theorem au7 {σ : Mp} {a : Nat} {q : Blk} (h : σ a = none) : Ext σ (b37 σ a q) := by
 intro x q' hx
 unfold b37
 by_cases e : x = a
 ·subst e; rw [h] at hx; cases hx
 ·rw [iN e]; exact hx
theorem ao6 (σ : Mp) (a : Nat) (q : Blk) : b37 σ a q a = some q := by simp [b37]
theorem bF1 {σ : Mp} {a x : Nat} {q : Blk} (h : x ≠ a) : b37 σ a q x = σ x := by simp [b37, h]
theorem Inv.bound {P : Program} {w0 w : World} {σ : Mp} {h : Hp} (hi : Inv P w0 σ h w) {a : Nat} {q : Blk} (hq : σ a = some q) : a < h.length := by
 rcases Nat.lt_or_ge a h.length with h1 | h1
 ·exact h1
 ·rw [hi.dom a h1] at hq; cases hq
theorem Inv.step {P : Program} {w0 w w' : World} {σ : Mp} {h h' : Hp} {q0 : Option Blk} (hi : Inv P w0 σ h w) (hbel : Below w0.heap.size w0 w') (σ' : Mp) (he : Ext σ σ') (hdom : ∀ a, h'.length ≤ a → σ' a = none)
  (hold : ∀ a o, h'[a]? = some o → o.live = true → (h[a]? = some o ∧ ∀ q, σ a = some q → w'.heap[q.b]? = w.heap[q.b]?) ∨ (OR P σ' w0.heap.size w' a o ∧ ∀ a' o' q q', h'[a']? = some o' → o'.live = true → σ' a = some q → σ' a' = some q' → q.b = q'.b → a = a')) : Inv P w0 σ' h' w' := by
 refine ⟨hbel, fun a o ho => ?_, fun a a' o o' q q' ho ho' hl hl' hq hq' hqq => ?_, hdom⟩
 ·cases hl : o.live with
  | false => cases o <;> first | trivial | cases hl
  | true =>
   rcases hold a o ho hl with ⟨h1, h2⟩ | ⟨h1, _⟩
   ·exact (hi.ob a o h1).keep he fun q hq _ => h2 q hq
   ·exact h1
 ·rcases hold a o ho hl with ⟨h1, h2⟩ | ⟨_, h2⟩
  ·rcases hold a' o' ho' hl' with ⟨h3, h4⟩ | ⟨_, h4⟩
   ·obtain ⟨p, _, hp, _⟩ := (hi.ob a o h1).blk hl
    obtain ⟨p', _, hp', _⟩ := (hi.ob a' o' h3).blk hl'
    have e1 := he _ _ hp
    have e2 := he _ _ hp'
    rw [hq] at e1; rw [hq'] at e2
    cases e1; cases e2
    exact hi.inj a a' o o' q q' h1 h3 hl hl' hp hp' hqq
   ·exact (h4 a o q' q ho hl hq' hq hqq.symm).symm
  ·exact h2 a' o' q q' ho' hl' hq hq' hqq
end Go.Gr
namespace Go.Gr
set_option linter.unusedVariables false
open Go.Vm (aa9 ad9 ad7 ak0 ah1 ak8 ag2 Shape.size aw7 splice ac4)
open Go.RowKit (Below)
variable {P : Program} {w0 w : World} {σ : Mp} {h : Hp}
theorem bS5 (hb : Below w0.heap.size w0 w) : Below w0.heap.size w0 w.drew := ⟨hb.os, hb.tape, hb.output, hb.size, hb.block⟩
theorem bF2 (hb : Below w0.heap.size w0 w) (o : Obj) : Below w0.heap.size w0 (w.alloc o) := hb.alloc hb.size o
theorem a85 (hb : Below w0.heap.size w0 w) {g : Nat} (hg : w0.heap.size ≤ g) (cs : Array Value) : Below w0.heap.size w0 (w.setRow g cs) :=
 ⟨hb.os, hb.tape, hb.output, by simpa [World.setRow] using hb.size, fun k hk => by rw [setRow_other w g k cs (by omega)]; exact hb.block k hk⟩
theorem Inv.drew (hi : Inv P w0 σ h w) : Inv P w0 σ h w.drew :=
 ⟨bS5 hi.bel, fun a o ho => (hi.ob a o ho).keep (Ext.refl _) fun _ _ _ => rfl, hi.inj, hi.dom⟩
theorem aT7 {a : Nat} {o x : RO} (hx : (h ++ [x])[a]? = some o) : (a < h.length ∧ h[a]? = some o) ∨ (a = h.length ∧ o = x) := by
 rcases Nat.lt_or_ge a h.length with h1 | h1
 ·rw [List.getElem?_append_left h1] at hx; exact .inl ⟨h1, hx⟩
 ·rw [List.getElem?_append_right h1] at hx
  have : a - h.length = 0 := by
   cases hn : a - h.length with
   | zero => rfl
   | succ n => rw [hn] at hx; simp at hx
  rw [this] at hx
  simp at hx
  exact .inr ⟨by omega, hx.symm⟩
theorem Inv.alloc (hi : Inv P w0 σ h w) {o : Obj} {q : Blk} {ro : RO} (hq : q.b = w.heap.size) (hor : OR P (b37 σ h.length q) w0.heap.size (w.alloc o) h.length ro) : Inv P w0 (b37 σ h.length q) (h ++ [ro]) (w.alloc o) := by
 have hnone := hi.dom h.length (le_refl _)
 refine hi.step (q0 := none) (bF2 hi.bel o) _ (au7 hnone) (fun a ha => ?_) fun a x hx hl => ?_
 ·simp at ha
  rw [bF1 (by omega)]
  exact hi.dom a (by omega)
 ·rcases aT7 hx with ⟨h1, h2⟩ | ⟨rfl, rfl⟩
  ·refine .inl ⟨h2, fun p hp => ?_⟩
   obtain ⟨q', ob, h3, _, h4⟩ := (hi.ob a x h2).blk hl
   rw [hp] at h3; cases h3
   exact heap_alloc_old w o _ (br5 h4)
  ·refine .inr ⟨hor, fun a' o' p p' h1 h2 h3 h4 h5 => ?_⟩
   rcases aT7 h1 with ⟨h6, h7⟩ | ⟨rfl, rfl⟩
   ·obtain ⟨q', ob, h8, _, h9⟩ := (hi.ob a' o' h7).blk h2
    have := au7 (q := q) hnone _ _ h8
    rw [h4] at this; cases this
    rw [ao6] at h3; cases h3
    have := br5 h9
    omega
   ·rfl
theorem Inv.newRow (hi : Inv P w0 σ h w) {e : TypeId} {cs : List LV} {vs : List Value} {cur : Array Value} {i : TypeInfo} (he : P.info? e = some i) (hr : VRs σ cs vs) (hp : cur.toList.take vs.length = vs) (h1 : ∀ c ∈ cs, c.one = true) :
  Inv P w0 (b37 σ h.length ⟨w.heap.size, i.size, cur.size⟩) (h ++ [.row e cs]) (w.alloc (.cells cur e)) := by
 refine hi.alloc rfl ⟨_, cur, vs, i, ao6 _ _ _, hi.bel.size, heap_alloc_new w _, rfl, he, rfl, hr.mono (au7 (hi.dom _ (le_refl _))), hp, h1⟩
theorem bn7 (hi : Inv P w0 σ h w) {a : Nat} {e : TypeId} {cs : List LV} (ha : h[a]? = some (.row e cs)) : cv5 P σ w0.heap.size w a e cs := hi.ob a _ ha
theorem a58 {a b : Nat} {o x : RO} (hx : (h.set a x)[b]? = some o) : (b = a ∧ o = x) ∨ (b ≠ a ∧ h[b]? = some o) := by
 rw [List.getElem?_set] at hx
 by_cases e : a = b
 ·subst e
  rw [iP rfl] at hx
  split at hx
  ·simp at hx; exact .inl ⟨rfl, hx.symm⟩
  ·cases hx
 ·rw [iN e] at hx; exact .inr ⟨fun e' => e e'.symm, hx⟩
theorem Inv.kill (hi : Inv P w0 σ h w) (a : Nat) : Inv P w0 σ (h.set a .dead) w := by
 refine hi.step (q0 := none) hi.bel _ (Ext.refl _) (fun x hx => hi.dom x (by simpa using hx)) fun b x hx hl => ?_
 rcases a58 hx with ⟨rfl, rfl⟩ | ⟨_, h2⟩
 ·cases hl
 ·exact .inl ⟨h2, fun _ _ => rfl⟩
theorem Inv.setOb (hi : Inv P w0 σ h w) {w' : World} (hbel : Below w0.heap.size w0 w') {a : Nat} {o o' : RO} {q : Blk} (ha : h[a]? = some o) (hl : o.live = true) (hq : σ a = some q) (hk : ∀ k, k ≠ q.b → w'.heap[k]? = w.heap[k]?) (hor : OR P σ w0.heap.size w' a o') : Inv P w0 σ (h.set a o') w' := by
 refine hi.step (q0 := none) hbel _ (Ext.refl _) (fun x hx => hi.dom x (by simpa using hx)) fun b x hx hlx => ?_
 rcases a58 hx with ⟨rfl, rfl⟩ | ⟨hne, h2⟩
 ·refine .inr ⟨hor, fun a' o2 p p' h1 h2 h3 h4 h5 => ?_⟩
  rcases a58 h1 with ⟨rfl, rfl⟩ | ⟨h6, h7⟩
  ·rfl
  ·exact hi.inj b a' o o2 p p' ha h7 hl h2 h3 h4 h5
 ·refine .inl ⟨h2, fun p hp => hk _ fun e => hne ?_⟩
  exact hi.inj b a x o p q h2 ha hlx hl hp hq e
theorem bn8 {g : Nat} {cur cs : Array Value} {e : TypeId} {fz : Nat × Nat} (hg : w.heap[g]? = some (.cells cur e fz)) : (w.setRow g cs).heap[g]? = some (.cells cs e fz) := by
 simp [World.setRow, Array.getElem?_modify, hg]
theorem Inv.setRow (hi : Inv P w0 σ h w) {a : Nat} {e : TypeId} {cs cs' : List LV} (ha : h[a]? = some (.row e cs)) {q : Blk} (hq : σ a = some q) {cur' : Array Value} {vs' : List Value} (hsz : cur'.size = q.z) (hr : VRs σ cs' vs') (hp : cur'.toList.take vs'.length = vs') (h1 : ∀ c ∈ cs', c.one = true) :
  Inv P w0 σ (h.set a (.row e cs')) (w.setRow q.b cur') := by
 obtain ⟨q', cur, vs, i, g1, g2, g3, g4, g5, g6, g7, g8, g9⟩ := bn7 hi ha
 rw [hq] at g1; cases g1
 exact hi.setOb (a85 hi.bel g2 _) ha rfl hq (fun k hk => setRow_other w _ k _ hk) ⟨q, cur', vs', i, hq, g2, bn8 g3, hsz, g5, g6, hr, hp, h1⟩
theorem Inv.renew (hi : Inv P w0 σ h w) {a : Nat} {e : TypeId} {cs cs' : List LV} (ha : h[a]? = some (.row e cs)) {q : Blk} (hq : σ a = some q) {cur' : Array Value} {vs' : List Value} (hsz : cur'.size = q.z) (hr : VRs σ cs' vs') (hp : cur'.toList.take vs'.length = vs') (h1 : ∀ c ∈ cs', c.one = true) :
  Inv P w0 (b37 σ h.length q) (h.set a .dead ++ [.row e cs']) (w.setRow q.b cur') := by
 obtain ⟨q', cur, vs, i, g1, g2, g3, g4, g5, g6, g7, g8, g9⟩ := bn7 hi ha
 rw [hq] at g1; cases g1
 have hnone := hi.dom h.length (le_refl _)
 have hlen : (h.set a .dead).length = h.length := by simp
 have hal := hi.bound hq
 refine hi.step (q0 := none) (a85 hi.bel g2 _) _ (au7 hnone) (fun x hx => ?_) fun b x hx hl => ?_
 ·simp at hx
  rw [bF1 (by omega)]; exact hi.dom x (by omega)
 ·rcases aT7 hx with ⟨h2, h3⟩ | ⟨rfl, rfl⟩
  ·rcases a58 h3 with ⟨rfl, rfl⟩ | ⟨hne, h4⟩
   ·cases hl
   ·refine .inl ⟨h4, fun p hp => setRow_other w _ _ _ fun e' => hne ?_⟩
    exact hi.inj b a x _ p q h4 ha hl rfl hp hq e'
  ·rw [hlen]
   refine .inr ⟨⟨q, cur', vs', i, ao6 _ _ _, g2, bn8 g3, hsz, g5, g6, hr.mono (au7 hnone), hp, h1⟩, fun a' o' p p' q1 q2 q3 q4 q5 => ?_⟩
   rcases aT7 q1 with ⟨h6, h7⟩ | ⟨h6, rfl⟩
   ·rw [hlen] at h6
    rcases a58 h7 with ⟨rfl, rfl⟩ | ⟨hne, h8⟩
    ·cases q2
    ·rw [ao6] at q3; cases q3
     rw [bF1 (by omega)] at q4
     exact absurd (hi.inj a' a o' _ p' q h8 ha q2 rfl q4 hq q5.symm) hne
   ·rw [hlen] at h6; exact h6.symm
theorem aC4 (hi : Inv P w0 σ h w) {a : Nat} {e : TypeId} {cs : List LV} (ha : h[a]? = some (.row e cs)) {q : Blk} (hq : σ a = some q) : ∃ vs cur, VRs σ cs vs ∧ w.heap[q.b]? = some (.cells cur e (0, 0)) ∧ cur.size = q.z ∧ cur.toList.take vs.length = vs ∧ ∀ j v, vs[j]? = some v → w.cell? ⟨q.b, j, none⟩ = some v := by
 obtain ⟨q', cur, vs, i, g1, g2, g3, g4, g5, g6, g7, g8, g9⟩ := bn7 hi ha
 rw [hq] at g1; cases g1
 refine ⟨vs, cur, g7, g3, g4, g8, fun j v hv => ?_⟩
 rw [← g8] at hv
 rw [getElem?_take] at hv
 split at hv
 ·simpa [World.cell?, g3] using hv
 ·cases hv
def bk1 (sh : Vm.Shape) (cs : List LV) (o : Nat) : Option LV := match sh with
 | none => match cs[o]? with
  | some x => if x.one = true then some x else none
  | none => none
 | some n => if o + n ≤ cs.length then some (.agg ((cs.drop o).take n)) else none
theorem aN8 {sh : Vm.Shape} {cs : List LV} {vs : List Value} {o : Nat} {x : LV} (hr : VRs σ cs vs) (hp : bk1 sh cs o = some x) : VR σ x (aw7 sh ((vs.drop o).take sh.size)) ∧ o + sh.size ≤ vs.length := by
 have hl := hr.length
 cases sh with
 | none =>
  simp only [bk1] at hp
  split at hp
  ·rename_i y hy
   split at hp
   ·simp only [oI] at hp; subst hp
    obtain ⟨v, hv, hvr⟩ := hr.get o y hy
    obtain ⟨hlt, rfl⟩ := gS.1 hv
    refine ⟨?_, by simp [Shape.size]; omega⟩
    simp only [aw7, Shape.size]
    rw [List.drop_eq_getElem_cons hlt, List.take_succ_cons, List.headD_cons]
    exact hvr
   ·cases hp
  ·cases hp
 | some n =>
  simp only [bk1] at hp
  split at hp
  ·rename_i hle
   simp only [oI] at hp; subst hp
   exact ⟨.agg (by simpa [Shape.size] using (hr.drop o).take n), by simp [Shape.size]; omega⟩
  ·cases hp
end Go.Gr
namespace Go.Gr
set_option linter.unusedVariables false
open Go.Vm (aa9 ad9 ad7 ak0 ah1 ak8 ag2 Shape.size aw7 splice ac4 aA1 aA9 aM9 aA0 aw5 ag9 an9 ao4 PV bt8)
open Go.RowKit (Below)
def co9 : PV → Option LV
 | .bool x => some (.b x)
 | .int k n => some (.i k n)
 | .str l => some (.s l)
 | _ => none
def cv6 : LV → Option PV
 | .b x => some (.bool x)
 | .i k n => some (.int k n)
 | .s l => some (.str l)
 | _ => none
def b38 (P : Program) (rec : TypeId → LV → LV → Option Bool) (xs ys : List LV) : List Field → Option Bool
 | [] => some true
 | f :: fs => if f.name ≠ "_" then (aa9 P f.type).bind fun sh => (bk1 sh xs f.offset).bind fun a => (bk1 sh ys f.offset).bind fun b => (rec f.type a b).bind fun r => match r with
   | true => b38 P rec xs ys fs
   | false => some false
  else none
def b39 (P : Program) (rec : TypeId → LV → LV → Option Bool) (e : TypeId) (c : Nat) (xs ys : List LV) : List Nat → Option Bool
 | [] => some true
 | i :: is => (aa9 P e).bind fun sh => (bk1 sh xs (i * c)).bind fun a => (bk1 sh ys (i * c)).bind fun b => (rec e a b).bind fun r => match r with
  | true => b39 P rec e c xs ys is
  | false => some false
def ct3 (P : Program) : Nat → TypeId → LV → LV → Option Bool
 | 0, _, _, _ => none
 | d + 1, t, a, b => match P.underlying t with
  | some .bool => match a, b with
   | .b x, .b y => some (x == y)
   | _, _ => none
  | some (.int _) => match a, b with
   | .i k n, .i k' m => if k = k' then some (n == m) else none
   | _, _ => none
  | some .string => match a, b with
   | .s x, .s y => some (x == y)
   | _, _ => none
  | some (.struct fs) => match a, b with
   | .agg xs, .agg ys => match P.stoodInHeld t with
    | false => b38 P (ct3 P d) xs ys fs.toList
    | true => none
   | _, _ => none
  | some (.array n e) => match a, b with
   | .agg xs, .agg ys => match P.info? e with
    | some _ => b39 P (ct3 P d) e (P.cellsOf e) xs ys (List.range n)
    | none => none
   | _, _ => none
  | _ => none
section
variable {P : Program} {w : World} {σ : Mp}
theorem bx6 {D : Nat} {rec : TypeId → LV → LV → Option Bool} (hrec : ∀ t a b va vb r, rec t a b = some r → VR σ a va → VR σ b vb → (Op.equalIn D t va vb).run P w = .ok r w) {xs ys : List LV} {vx vy : Array Value} (hx : VRs σ xs vx.toList) (hy : VRs σ ys vy.toList) :
  ∀ (fs : List Field) (r : Bool), b38 P rec xs ys fs = some r → (Op.eqFields D vx vy fs).run P w = .ok r w
 | [], r, h => by simp only [b38, oI] at h; subst h; simp [Op.eqFields]
 | f :: fs, r, h => by
  simp only [b38] at h
  split at h
  ·rename_i hc
   simp only [oE] at h
   obtain ⟨sh, hsh, a, ha, b, hb, q, hq, h⟩ := h
   obtain ⟨r1, l1⟩ := aN8 hx ha
   obtain ⟨r2, l2⟩ := aN8 hy hb
   have hpx := an9 (P := P) (w := w) hsh (cs := vx.toList) (off := f.offset) l1
   have hpy := an9 (P := P) (w := w) hsh (cs := vy.toList) (off := f.offset) l2
   simp only [Array.toArray_toList] at hpx hpy
   have he := hrec _ _ _ _ _ _ hq r1 r2
   simp only [Op.eqFields, hc, ne_eq, not_false_eq_true, if_true, rB, hpx, aO, hpy, he]
   cases q with
   | true => simp only [Bool.not_true, false_eq_true, if_false]; exact bx6 hrec hx hy fs r h
   | false => simp only [oI] at h; subst h; simp
  ·cases h
theorem bx7 {D : Nat} {rec : TypeId → LV → LV → Option Bool} (hrec : ∀ t a b va vb r, rec t a b = some r → VR σ a va → VR σ b vb → (Op.equalIn D t va vb).run P w = .ok r w) {e : TypeId} {c : Nat} {xs ys : List LV} {vx vy : Array Value} (hx : VRs σ xs vx.toList) (hy : VRs σ ys vy.toList) :
  ∀ (is : List Nat) (r : Bool), b39 P rec e c xs ys is = some r → (Op.eqItems D e c vx vy is).run P w = .ok r w
 | [], r, h => by simp only [b39, oI] at h; subst h; simp [Op.eqItems]
 | i :: is, r, h => by
  simp only [b39, oE] at h
  obtain ⟨sh, hsh, a, ha, b, hb, q, hq, h⟩ := h
  obtain ⟨r1, l1⟩ := aN8 hx ha
  obtain ⟨r2, l2⟩ := aN8 hy hb
  have hpx := an9 (P := P) (w := w) hsh (cs := vx.toList) (off := i * c) l1
  have hpy := an9 (P := P) (w := w) hsh (cs := vy.toList) (off := i * c) l2
  simp only [Array.toArray_toList] at hpx hpy
  have he := hrec _ _ _ _ _ _ hq r1 r2
  simp only [Op.eqItems, rB, hpx, aO, hpy, he]
  cases q with
  | true => simp only [Bool.not_true, false_eq_true, if_false]; exact bx7 hrec hx hy is r h
  | false => simp only [oI] at h; subst h; simp
theorem ba3 : ∀ (d D : Nat) (t : TypeId) (a b : LV) (va vb : Value) (r : Bool), ct3 P d t a b = some r → VR σ a va → VR σ b vb → (Op.equalIn (D + d) t va vb).run P w = .ok r w
 | 0, D, t, a, b, va, vb, r, h, _, _ => by cases h
 | d + 1, D, t, a, b, va, vb, r, h, ha, hb => by
  show (Op.equalIn ((D + d) + 1) t va vb).run P w = _
  unfold ct3 at h
  split at h
  ·rename_i hu
   split at h
   ·cases ha; cases hb
    simp only [oI] at h; subst h
    exact run_equalIn_bool w _ t _ _ hu
   ·cases h
  ·rename_i q hu
   split at h
   ·split at h
    ·rename_i hk; subst hk
     cases ha; cases hb
     simp only [oI] at h; subst h
     exact run_equalIn_int w _ t _ _ _ _ hu
    ·cases h
   ·cases h
  ·rename_i hu
   split at h
   ·cases ha; cases hb
    simp only [oI] at h; subst h
    rw [run_equalIn_string w _ t _ _ hu, ByteArray.toList_mk, ByteArray.toList_mk]
   ·cases h
  ·rename_i fs hu
   split at h
   ·split at h
    ·rename_i hst
     cases ha with | agg ha => cases hb with | agg hb =>
     have hfs : P.fieldsOf t = fs := by simp [Program.fieldsOf, hu]
     rw [run_equalIn_agg w (D + d) t _ _ (by rw [hfs]; exact hu) hst, hfs]
     exact bx6 (fun t a b va vb r h1 h2 h3 => ba3 d D t a b va vb r h1 h2 h3) ha hb _ _ h
    ·cases h
   ·cases h
  ·rename_i n e hu
   split at h
   ·split at h
    ·rename_i i hi
     cases ha with | agg ha => cases hb with | agg hb =>
     rw [run_equalIn_array w (D + d) _ _ hu hi]
     exact bx7 (fun t a b va vb r h1 h2 h3 => ba3 d D t a b va vb r h1 h2 h3) ha hb _ _ h
    ·cases h
   ·cases h
  ·cases h
end
def req (P : Program) (t : TypeId) (yc : Bool) (a b : LV) : Option Bool := match P.underlying t with
 | some .bool => match a, b with
  | .b x, .b y => some (x == y)
  | _, _ => none
 | some (.pointer e) => match a, b with
  | .p0, .p0 => some true
  | .p _ _, .p0 => some false
  | .p0, .p _ _ => some false
  | .p a o, .p a' o' => match P.info? e with
   | some i => if i.size ≠ 0 ∧ a = a' ∧ o = o' then some true else none
   | none => none
  | _, _ => none
 | some (.slice _) => match a, b with
  | .l0, .l0 => some true
  | .l _ _ _ _, .l0 => some false
  | _, _ => none
 | some (.interface _) => match a, b with
  | .n0, .n0 => if yc = true then some true else none
  | _, _ => none
 | some (.struct _) => match a, b with
  | .agg _, .agg _ => if P.eqGuardType P.depth t = false then ct3 P 8 t a b else none
  | _, _ => none
 | some (.array _ _) => match a, b with
  | .agg _, .agg _ => if P.eqGuardType P.depth t = false then ct3 P 8 t a b else none
  | _, _ => none
 | _ => none
def rbin (P : Program) (op : BinOp) (t : TypeId) (yc : Bool) (a b : LV) : Option LV := match a, b with
 | .i k n, .i k' m => (bt8 op (.int k n) (.int k' m)).bind co9
 | .s x, .s y => (bt8 op (.str x) (.str y)).bind co9
 | a, b => match op with
  | .eql => (req P t yc a b).map .b
  | .neq => (req P t yc a b).map fun x => .b (!x)
  | _ => none
def isC : Operand → Bool
 | .const _ => true
 | _ => false
def cd5 (ev : Operand → Option LV) (d : Nat) : Option Operand → Option Nat
 | none => some d
 | some o => match ev o with
  | some (.i _ n) => if 0 ≤ n then some n.toNat else none
  | _ => none
def b40 (P : Program) (ev : Operand → Option LV) (t : TypeId) (x : LV) (lo hi : Option Operand) : Option LV := match P.underlying t, x with
 | some .string, .s l => (cd5 ev 0 lo).bind fun a => (cd5 ev l.length hi).bind fun b => if a ≤ b ∧ b ≤ l.length then some (.s ((l.take b).drop a)) else none
 | some (.slice e), .l a o n c => match aa9 P e with
  | some _ => (cd5 ev 0 lo).bind fun l => (cd5 ev n hi).bind fun r => if l = 0 ∧ r ≤ c then some (.l a o r c) else none
  | none => none
 | some (.slice e), .l0 => match aa9 P e with
  | some _ => (cd5 ev 0 lo).bind fun l => (cd5 ev 0 hi).bind fun r => if l = 0 ∧ r = 0 then some .l0 else none
  | none => none
 | _, _ => none
def bL3 (l : List LV) : Option (List UInt8) := l.mapM fun x => match x with
 | .i .u8 n => some (UInt8.ofNat n.toNat)
 | _ => none
def isU8 (P : Program) (s : TypeId) : Bool := match P.underlying s with
 | some (.slice e) => match P.underlying e with
  | some (.int .u8) => true
  | _ => false
 | _ => false
def cp0 (P : Program) (h : Hp) (s d : TypeId) (x : LV) : Option LV := match P.underlying s, P.underlying d with
 | some _, some (.int k) => match x with
  | .i _ n => some (.i k (k.wrap n))
  | _ => none
 | some _, some .string => match x with
  | .s l => some (.s l)
  | .l a o n _ => match isU8 P s, h[a]? with
   | true, some (.row _ cs) => match ble (o + n) cs.length with
    | true => (bL3 ((cs.drop o).take n)).map .s
    | false => none
   | _, _ => none
  | .l0 => match isU8 P s with
   | true => some (.s [])
   | false => none
  | _ => none
 | some (.pointer t), some .unsafePointer => match x, P.info? t with
  | .p a o, some i => match h[a]? with
   | some (.row e cs) => if i.size ≠ 0 ∧ o < cs.length then some (.p a o) else none
   | _ => none
  | _, _ => none
 | some .unsafePointer, some (.pointer u) => match x, P.info? u with
  | .p a o, some i => match h[a]? with
   | some (.row e cs) => if i.size ≠ 0 ∧ liesAt P P.depth e (cs.length / P.cellsOf e) o u 1 = true then some (.p a o) else none
   | _ => none
  | _, _ => none
 | _, _ => none
def bF3 : List (Nat × Nat × LV) → List LV → Option (List LV)
 | [], cs => some cs
 | (off, size, x) :: r, cs => if x.cells.length = size ∧ off + size ≤ cs.length then bF3 r (Vm.splice cs off x.cells) else none
def rlen (P : Program) (t : TypeId) (x : LV) : Option LV := match P.underlying t, x with
 | some .string, .s l => some (.i .i64 l.length)
 | some (.slice _), .l _ _ n _ => some (.i .i64 n)
 | some (.slice _), .l0 => some (.i .i64 0)
 | _, _ => none
def a59 (P : Program) (t : TypeId) (x i : LV) : Option LV := match P.underlying t, x, i with
 | some (.slice e), .l a o n c, .i _ m => match aa9 P e with
  | some sh => if 0 ≤ m ∧ m.toNat < n then some (.p a (o + m.toNat * sh.size)) else none
  | none => none
 | _, _, _ => none
def b41 (P : Program) (t : TypeId) (x i : LV) : Option LV := match P.underlying t, x, i with
 | some .string, .s l, .i _ m => if 0 ≤ m then (l[m.toNat]?).map fun b => .i .u8 b.toNat else none
 | _, _, _ => none
def b42 (P : Program) (ev : Operand → Option LV) (t : TypeId) (parts : List (Nat × Operand)) : Option LV := match aA9 P t with
 | true => (bk0 P t).bind fun z => (parts.mapM fun (q : Nat × Operand) => (aA1 P t q.1).bind fun pl => (ev q.2).map fun v => (pl.1, pl.2, v)).bind fun ps => (bF3 ps z.cells).map .agg
 | false => none
def a60 (P : Program) (s : TypeId) (x : LV) (f : Nat) : Option LV := match P.underlying s with
 | some (.struct fs) => (fs[f]?).bind fun fd => (P.info? fd.type).bind fun i => match x with
  | .p a o => if i.size ≠ 0 then some (.p a (o + fd.offset)) else none
  | _ => none
 | _ => none
def b43 (P : Program) (s : TypeId) (x : LV) (f : Nat) : Option LV := match P.underlying s with
 | some (.struct fs) => (fs[f]?).bind fun fd => (aa9 P fd.type).bind fun sh => match x with
  | .agg cs => bk1 sh cs fd.offset
  | _ => none
 | _ => none
def cp1 (P : Program) (ev : Operand → Option LV) (c : Call) : Option LV := match c.callee with
 | .builtin .len => match c.argTypes[0]?, c.args.toList with
  | some t, [x] => (ev x).bind (rlen P t)
  | _, _ => none
 | .builtin .max => match c.args.toList with
  | [x, y] => match ev x, ev y with
   | some (.i k a), some (.i k' b) => if k = k' then some (.i k (max a b)) else none
   | _, _ => none
  | _ => none
 | .builtin .unsafeSliceData => match c.args.toList with
  | [x] => match ev x with
   | some (.l a o n _) => if 0 < n then some (.p a o) else none
   | some .l0 => some .p0
   | _ => none
  | _ => none
 | _ => none
def rq (P : Program) (h : Hp) (ev : Operand → Option LV) (o : Op) : Option LV := match o with
 | .move x => ev x
 | .assign x => ev x
 | .pick c a b => match ev c with
  | some (.b true) => ev a
  | some (.b false) => ev b
  | _ => none
 | .load t x => match ev x with
  | some (.p a o) => match h[a]? with
   | some (.row _ cs) => (aa9 P t).bind fun sh => bk1 sh cs o
   | _ => none
  | _ => none
 | .nilCheck x => match ev x with
  | some (.p a o) => some (.p a o)
  | some (.fn f cs) => some (.fn f cs)
  | _ => none
 | .binOp op t x y _ => (ev x).bind fun a => (ev y).bind fun b => rbin P op t (isC y) a b
 | .unOp .not _ x => match ev x with
  | some (.b a) => some (.b (!a))
  | _ => none
 | .unOp .neg _ x => match ev x with
  | some (.i k a) => some (.i k (k.wrap (0 - a)))
  | _ => none
 | .convert s d x => (ev x).bind (cp0 P h s d)
 | .makeFunc (.func f) first caps => match first.toList with
  | [] => (caps.toList.mapM ev).map (.fn f)
  | _ => none
 | .slice t x lo hi none => (ev x).bind fun v => b40 P ev t v lo hi
 | .fieldAddr s x f => (ev x).bind fun v => a60 P s v f
 | .field s x f => (ev x).bind fun v => b43 P s v f
 | .indexAddr t x i => (ev x).bind fun v => (ev i).bind fun j => a59 P t v j
 | .index t x i => (ev x).bind fun v => (ev i).bind fun j => b41 P t v j
 | .extract x i => match ev x with
  | some (.tup vs) => vs[i]?
  | _ => none
 | .build t parts => b42 P ev t parts.toList
 | .call c => cp1 P ev c
 | _ => none
section
variable {P : Program} {w0 w : World} {σ : Mp} {h : Hp} {ev : Operand → Option LV} {ρ : Operand → Value}
theorem bL4 {p : PV} {x : LV} {v : Value} {I : Vm.Prot} (h : co9 p = some x) (hr : Vm.RepP w I p v []) : VR σ x v := by
 unfold co9 at h
 split at h <;> first | cases h; done | skip
 all_goals (simp only [oI] at h; subst h; cases hr)
 ·exact .b _
 ·exact .i _ _
 ·exact .s _
theorem b44 {op : BinOp} {a b q : PV} {va vb : Value} {t : TypeId} {x y : Operand} {I : Vm.Prot} (ha : Vm.RepP w I a va []) (hb : Vm.RepP w I b vb []) (hq : bt8 op a b = some q) :
  ∃ v, (do eqGuard op t x y va vb; binOp op t va vb : Sem Value).run P w = .ok v w ∧ Vm.RepP w I q v [] := by
 letI : Vm.Mode := ⟨false, none⟩
 have key := Vm.run_binV (P := P) (w := w) (I := I) (ρ := fun _ => none) (get := fun s => if s = 0 then some (.pv a) else if s = 1 then some (.pv b) else none) (ev := fun o => match o with
   | .tmp 0 => va
   | .tmp 1 => vb
   | .const v => v
   | .func f => .func (.func f) #[] #[]
   | _ => undef) (x := .tmp 0) (y := .tmp 1) (vx := .t 0) (vy := .t 1) (t := t) (op := op) (a := a) (b := b) (q := q) ?_ rfl rfl rfl rfl hq
 ·obtain ⟨v, h1, h2⟩ := key
  refine ⟨v, ?_, h2⟩
  have hg : ∀ x y : Operand, (eqGuard op t x y va vb).run P w = .ok () w := by
   intro x y
   unfold bt8 at hq
   split at hq
   ·cases ha; cases hb
    cases op <;> simp [eqGuard]
   ·cases ha; cases hb
    cases op <;> simp [eqGuard]
   ·cases hq
  have h1' : (do eqGuard op t (.tmp 0) (.tmp 1) va vb; binOp op t va vb : Sem Value).run P w = .ok v w := h1
  rw [rB, hg] at h1' ⊢
  exact h1'
 ·intro x vx hh hx hg
  cases x with
  | tmp s =>
   simp only [Vm.opdOf] at hx
   split at hx
   ·simp only [oI] at hx; subst hx
    simp only [Vm.VA.get] at hg
    split at hg
    ·rename_i e; subst e; simp only [oI] at hg; subst hg; exact .pv ha
    ·split at hg
     ·rename_i e; subst e; simp only [oI] at hg; subst hg; exact .pv hb
     ·cases hg
   ·cases hx
  | const v =>
   simp only [Vm.opdOf] at hx
   split at hx
   ·rename_i hc
    simp only [oI] at hx; subst hx
    simp only [Vm.VA.get, oI] at hg; subst hg
    exact .pv (Vm.closed_rep hc)
   ·cases hx
  | global g =>
   have : ¬ ((⟨false, none⟩ : Vm.Mode).y = true) := by simp
   simp only [Vm.opdOf] at hx
   split at hx
   ·rename_i hc; exact absurd hc.1 this
   ·cases hx
  | func f =>
   simp only [Vm.opdOf, oI] at hx; subst hx
   simp only [Vm.VA.get, oI] at hg; subst hg
   exact .pv (.fn f .nil)
theorem b45 {t : TypeId} {yc : Bool} {a b : LV} {r : Bool} {va vb : Value} (ha : VR σ a va) (hb : VR σ b vb) (hq : req P t yc a b = some r) : (Op.equal t va vb).run P w = .ok r w := by
 show (Op.equalIn (9999 + 1) t _ _).run P w = _
 unfold req at hq
 split at hq
 ·rename_i hu
  split at hq
  ·cases ha; cases hb
   simp only [oI] at hq; subst hq
   rw [Op.equalIn, rB, run_underlying hu, aO]
   rfl
  ·cases hq
 ·rename_i e hu
  rw [Op.equalIn, rB, run_underlying hu, aO]
  split at hq
  ·cases ha; cases hb; simp only [oI] at hq; subst hq; rfl
  ·cases ha; cases hb; simp only [oI] at hq; subst hq; rfl
  ·cases ha; cases hb; simp only [oI] at hq; subst hq; rfl
  ·split at hq
   ·rename_i i hi
    split at hq
    ·rename_i hc
     obtain ⟨hsz, rfl, rfl⟩ := hc
     simp only [oI] at hq; subst hq
     cases ha with | p h1 =>
     cases hb with | p h2 =>
     rw [h1] at h2; cases h2
     simp [sizeOf, typeInfo, hi, sameAddr]
    ·cases hq
   ·cases hq
  ·cases hq
 ·rename_i e hu
  rw [Op.equalIn, rB, run_underlying hu, aO]
  split at hq
  ·cases ha; cases hb; simp only [oI] at hq; subst hq; rfl
  ·cases ha; cases hb; simp only [oI] at hq; subst hq; rfl
  ·cases hq
 ·rename_i e hu
  rw [Op.equalIn, rB, run_underlying hu, aO]
  split at hq
  ·cases ha; cases hb
   split at hq
   ·simp only [oI] at hq; subst hq; rfl
   ·cases hq
  ·cases hq
 ·split at hq
  ·split at hq
   ·exact ba3 8 9992 t _ _ _ _ _ hq ha hb
   ·cases hq
  ·cases hq
 ·split at hq
  ·split at hq
   ·exact ba3 8 9992 t _ _ _ _ _ hq ha hb
   ·cases hq
  ·cases hq
 ·cases hq
theorem bx8 {op : BinOp} {t : TypeId} {x y : Operand} {a b : LV} {r : Bool} {va vb : Value} (ha : VR σ a va) (hb : VR σ b vb) (hq : req P t (isC y) a b = some r) : (eqGuard op t x y va vb).run P w = .ok () w := by
 unfold req at hq
 split at hq
 ·split at hq
  ·cases ha; cases hb; cases op <;> simp [eqGuard]
  ·cases hq
 ·split at hq
  ·cases ha; cases hb; cases op <;> simp [eqGuard]
  ·cases ha; cases hb; cases op <;> simp [eqGuard]
  ·cases ha; cases hb; cases op <;> simp [eqGuard]
  ·cases ha; cases hb; cases op <;> simp [eqGuard]
  ·cases hq
 ·split at hq
  ·cases ha; cases hb; cases op <;> simp [eqGuard]
  ·cases ha; cases hb; cases op <;> simp [eqGuard]
  ·cases hq
 ·split at hq
  ·cases ha; cases hb
   split at hq
   ·rename_i hc
    cases y with
    | const c => cases op <;> simp [eqGuard]
    | _ => simp [isC] at hc
   ·cases hq
  ·cases hq
 ·split at hq
  ·split at hq
   ·rename_i hg
    cases ha; cases hb
    exact run_eqGuard_agg w op t x y _ _ hg
   ·cases hq
  ·cases hq
 ·split at hq
  ·split at hq
   ·rename_i hg
    cases ha; cases hb
    exact run_eqGuard_agg w op t x y _ _ hg
   ·cases hq
  ·cases hq
 ·cases hq
theorem cd6 {op : BinOp} {t : TypeId} {x y : Operand} {a b c : LV} {va vb : Value} (ha : VR σ a va) (hb : VR σ b vb) (hq : rbin P op t (isC y) a b = some c) :
  ∃ v, (do eqGuard op t x y va vb; binOp op t va vb : Sem Value).run P w = .ok v w ∧ VR σ c v := by
 unfold rbin at hq
 split at hq
 ·simp only [oE] at hq
  obtain ⟨q, h1, h2⟩ := hq
  cases ha; cases hb
  obtain ⟨v, h3, h4⟩ := b44 (P := P) (w := w) (t := t) (x := x) (y := y) (I := Vm.Prot.none) (.int _ _) (.int _ _) h1
  exact ⟨v, h3, bL4 h2 h4⟩
 ·simp only [oE] at hq
  obtain ⟨q, h1, h2⟩ := hq
  cases ha; cases hb
  obtain ⟨v, h3, h4⟩ := b44 (P := P) (w := w) (t := t) (x := x) (y := y) (I := Vm.Prot.none) (.str _) (.str _) h1
  exact ⟨v, h3, bL4 h2 h4⟩
 ·rename_i hn1 hn2
  have hnb : ∀ r, req P t (isC y) a b = some r → (binOp .eql t va vb = (do pure (.bool (← Op.equal t va vb)))) ∧ (binOp .neq t va vb = (do pure (.bool (!(← Op.equal t va vb))))) := by
   intro r hr
   cases ha <;> cases hb <;> first | exact ⟨rfl, rfl⟩ | exact (hn1 _ _ _ _ rfl rfl).elim | exact (hn2 _ _ rfl rfl).elim | (simp [req] at hr; done) | (unfold req at hr; split at hr <;> first | (split at hr <;> cases hr) | cases hr)
  split at hq
  ·simp only [oM] at hq
   obtain ⟨r, h1, rfl⟩ := hq
   refine ⟨.bool r, ?_, .b r⟩
   rw [rB, bx8 ha hb h1, aO, (hnb r h1).1, rB, b45 ha hb h1]
   rfl
  ·simp only [oM] at hq
   obtain ⟨r, h1, rfl⟩ := hq
   refine ⟨.bool (!r), ?_, .b _⟩
   rw [rB, bx8 ha hb h1, aO, (hnb r h1).2, rB, b45 ha hb h1]
   rfl
  ·cases hq
end
end Go.Gr
namespace Go.Gr
set_option linter.unusedVariables false
set_option linter.unusedSimpArgs false
open Go.Vm (aa9 ad9 ad7 ak0 ah1 ak8 ag2 Shape.size aw7 splice ac4 aA1 aA9 aM9 aA0 aw5 ag9 an9 ao4 PV bt8)
open Go.RowKit (Below)
variable {P : Program} {w0 w : World} {σ : Mp} {h : Hp} {ev : Operand → Option LV} {ρ : Operand → Value}
def Qt (P : Program) (w : World) (σ : Mp) (s : Sem Next) (x : LV) : Prop := ∃ v, s.run P w = .ok (.value v) w ∧ VR σ x v
theorem Qt.of {s : Sem Value} {x : LV} {v : Value} (hr : s.run P w = .ok v w) (hv : VR σ x v) : Qt P w σ (do pure (.value (← s))) x := ⟨v, by rw [rB, hr]; rfl, hv⟩
theorem VR.l_inv {a o n c : Nat} {v : Value} (hv : VR σ (.l a o n c) v) : ∃ q c', σ a = some q ∧ n ≤ c ∧ c ≤ c' ∧ v = .slice (some ⟨q.b, o, none⟩) n c' ∧ (c = c' ∨ c ≤ c' ∧ o = 0 ∧ c' * q.k ≤ q.z) := by
 cases hv with | l h1 h2 h3 => exact ⟨_, _, h1, h2, by omega, rfl, h3⟩
theorem VR.p_inv {a o : Nat} {v : Value} (hv : VR σ (.p a o) v) : ∃ q, σ a = some q ∧ v = .pointer (some ⟨q.b, o, none⟩) := by
 cases hv with | p h1 => exact ⟨_, h1, rfl⟩
section
variable (hev : ∀ x y, ev x = some y → VR σ y (ρ x))
include hev
theorem aF4 {x : Option Operand} {d n : Nat} (hl : cd5 ev d x = some n) : (x.map ρ = none ∧ n = d) ∨ ∃ k, x.map ρ = some (.int k n) := by
 cases x with
 | none => simp only [cd5, oI] at hl; exact .inl ⟨rfl, hl.symm⟩
 | some o =>
  simp only [cd5] at hl
  split at hl
  ·rename_i k m hm
   split at hl
   ·simp only [oI] at hl; subst hl
    have := hev o _ hm
    generalize hv : ρ o = v at this
    cases this
    refine .inr ⟨k, ?_⟩
    simp only [map_some, hv]
    congr 2; omega
   ·cases hl
  ·cases hl
theorem bS6 {t : TypeId} {x y : LV} {v : Value} {lo hi : Option Operand} (hx : VR σ x v) (hs : b40 P ev t x lo hi = some y) : ∃ u, (Instr.sliceAt t v (lo.map ρ) (hi.map ρ) none).run P w = .ok u w ∧ VR σ y u := by
 unfold b40 at hs
 split at hs
 ·rename_i l hu
  simp only [oE] at hs
  obtain ⟨a, h1, b, h2, h3⟩ := hs
  split at h3
  ·rename_i hc
   simp only [oI] at h3; subst h3
   cases hx
   have hsz : (ByteArray.mk l.toArray).size = l.length := by simp [ByteArray.size]
   have hb := ao4 (P := P) (w := w) (isSlice := false) (len := l.length) (cap := l.length) (aF4 hev h1) (aF4 hev h2) hc.1 hc.2
   refine ⟨.string ⟨((l.take b).drop a).toArray⟩, ?_, .s _⟩
   simp only [Instr.sliceAt, rB, run_underlying hu, aO, Instr.slice, hsz, Option.isSome_none, false_eq_true, if_false, hb, Sem.run_pure]
   rw [ByteArray.extract_mk, List.drop_take]
  ·cases h3
 ·rename_i e a o n c hu
  split at hs
  ·rename_i sh hsh
   simp only [oE] at hs
   obtain ⟨l, h1, r, h2, h3⟩ := hs
   split at h3
   ·rename_i hc
    obtain ⟨rfl, hrc⟩ := hc
    simp only [oI] at h3; subst h3
    obtain ⟨q, c', g1, g2, g3, rfl, g4⟩ := hx.l_inv
    have hb := ao4 (P := P) (w := w) (isSlice := true) (len := n) (cap := c') (aF4 hev h1) (aF4 hev h2) (zero_le _) (by omega)
    refine ⟨.slice (some ⟨q.b, o, none⟩) r c', ?_, .l g1 hrc g4⟩
    simp only [Instr.sliceAt, rB, run_underlying hu, aO, Instr.slice, hb, ad7 hsh, Sem.run_pure]
    by_cases hz : c' = 0
    ·simp [hz]
    ·simp [hz, ag2]
   ·cases h3
  ·cases hs
 ·rename_i e hu
  split at hs
  ·rename_i sh hsh
   simp only [oE] at hs
   obtain ⟨l, h1, r, h2, h3⟩ := hs
   split at h3
   ·rename_i hc
    obtain ⟨rfl, rfl⟩ := hc
    simp only [oI] at h3; subst h3
    cases hx
    have hb := ao4 (P := P) (w := w) (isSlice := true) (len := 0) (cap := 0) (aF4 hev h1) (aF4 hev h2) (zero_le _) (by omega)
    refine ⟨.slice none 0 0, ?_, .l0⟩
    simp only [Instr.sliceAt, rB, run_underlying hu, aO, Instr.slice, hb, ad7 hsh, Sem.run_pure]
    simp
   ·cases h3
  ·cases hs
 ·cases hs
omit hev in
theorem bk2 {t : TypeId} {x i y : LV} {v u : Value} (hx : VR σ x v) (hi : VR σ i u) (hs : a59 P t x i = some y) : ∃ r, (Instr.indexAt t v u).run P w = .ok r w ∧ VR σ y r := by
 unfold a59 at hs
 split at hs
 ·rename_i e a o n c k m hu
  split at hs
  ·rename_i sh hsh
   split at hs
   ·rename_i hc
    simp only [oI] at hs; subst hs
    obtain ⟨q, c', g1, g2, g3, rfl, g4⟩ := hx.l_inv
    cases hi
    have h2 : 0 ≤ m ∧ m < (n : Int) := ⟨hc.1, by omega⟩
    refine ⟨.pointer (some ⟨q.b, o + m.toNat * sh.size, none⟩), ?_, .p g1⟩
    simp [Instr.indexAt, asIntOf, run_underlying hu, h2, ad7 hsh, ag2]
   ·cases hs
  ·cases hs
 ·cases hs
omit hev in
theorem bS7 {t : TypeId} {x i y : LV} {v u : Value} (hx : VR σ x v) (hi : VR σ i u) (hs : b41 P t x i = some y) : ∃ r, (Instr.index t v u).run P w = .ok r w ∧ VR σ y r := by
 unfold b41 at hs
 split at hs
 ·rename_i s k n hu
  split at hs
  ·rename_i h0
   simp only [oM] at hs
   obtain ⟨b, hb, rfl⟩ := hs
   obtain ⟨hlt, rfl⟩ := gS.1 hb
   cases hx; cases hi
   have hg : (ByteArray.mk s.toArray)[n.toNat]? = some s[n.toNat] := by
    have hsz : n.toNat < (ByteArray.mk s.toArray).size := by simpa [ByteArray.size] using hlt
    rw [ByteArray.getElem?_lt' _ _ hsz]
    rfl
   refine ⟨.int .u8 s[n.toNat].toNat, ?_, .i _ _⟩
   simp [Instr.index, asIntOf, run_underlying hu, h0, hg]
  ·cases hs
 ·cases hs
omit hev in
theorem bk3 {s : TypeId} {x y : LV} {f : Nat} {v : Value} (hx : VR σ x v) (hs : a60 P s x f = some y) : ∃ r, (Instr.fieldAt s v f).run P w = .ok r w ∧ VR σ y r := by
 unfold a60 at hs
 split at hs
 ·rename_i fs hu
  simp only [oE] at hs
  obtain ⟨fd, hf, i, hj, h1⟩ := hs
  split at h1
  ·rename_i a o
   split at h1
   ·rename_i hsz
    simp only [oI] at h1; subst h1
    obtain ⟨q, g1, rfl⟩ := hx.p_inv
    refine ⟨.pointer (some ⟨q.b, o + fd.offset, none⟩), ?_, .p g1⟩
    simp [Instr.fieldAt, run_underlying hu, hf, Instr.sureAddr, fieldPlace, sizeOf, typeInfo, hj, hsz, ag2]
   ·cases h1
  ·cases h1
 ·cases hs
omit hev in
theorem bS8 {s : TypeId} {x y : LV} {f : Nat} {v : Value} (hx : VR σ x v) (hs : b43 P s x f = some y) : ∃ r, (Instr.field s v f).run P w = .ok r w ∧ VR σ y r := by
 unfold b43 at hs
 split at hs
 ·rename_i fs hu
  simp only [oE] at hs
  obtain ⟨fd, hf, sh, hsh, h1⟩ := hs
  split at h1
  ·rename_i cs
   cases hx with
   | @agg _ vs hr =>
    obtain ⟨h2, h3⟩ := aN8 hr h1
    have hp := an9 (P := P) (w := w) hsh (cs := vs.toList) h3
    simp only [Array.toArray_toList] at hp
    exact ⟨_, by simp [Instr.field, run_underlying hu, hf, asAgg, hp], h2⟩
  ·cases h1
 ·cases hs
omit hev in
theorem aM8 (place : Nat → Option (Nat × Nat)) : ∀ (parts : List (Nat × Value)) (ps : List (Nat × Nat × LV)) (cs : List LV) (cells : Array Value) (r : List LV),
  VRs σ cs cells.toList → parts.length = ps.length → (∀ (i : Nat) (p : Nat × Value) (q : Nat × Nat × LV), parts[i]? = some p → ps[i]? = some q → place p.1 = some (q.1, q.2.1) ∧ VR σ q.2.2 p.2) →
  bF3 ps cs = some r → ∃ out, Instr.fill place cells parts = some out ∧ VRs σ r out.toList
 | [], [], cs, cells, r, hr, _, _, hf => by simp [bF3] at hf; subst hf; exact ⟨cells, rfl, hr⟩
 | [], _ :: _, _, _, _, _, hl, _, _ => by simp at hl
 | _ :: _, [], _, _, _, _, hl, _, _ => by simp at hl
 | (i, v) :: parts, (off, size, h) :: ps, cs, cells, r, hr, hl, hp, hf => by
  simp only [bF3] at hf
  split at hf
  ·rename_i hc
   obtain ⟨h1, h2⟩ := hp 0 (i, v) (off, size, h) rfl rfl
   have hcl := h2.cells.length
   have hsz : v.cells.size = size := by rw [← hc.1, hcl]; simp
   have hlen := hr.length
   simp only [Array.length_toList] at hlen
   have hfold := aA0 v.cells.toList cells off 0 (by simp [hsz]; omega)
   obtain ⟨out, ho, hor⟩ := aM8 place parts ps (Vm.splice cs off h.cells) (v.cells.zipIdx.foldl (fun cs c => cs.setIfInBounds (off + c.2) c.1) cells) r
    (by
     rw [← Array.foldl_toList, Array.toList_zipIdx, hfold]
     exact hr.splice h2.cells off) (by simpa using hl)
    (fun j p q h3 h4 => hp (j + 1) p q (by simpa using h3) (by simpa using h4)) hf
   refine ⟨out, ?_, hor⟩
   simp only [Instr.fill, h1]
   rw [iN (by simp [hsz]; omega)]
   exact ho
  ·cases hf
theorem bx9 {parts : List (Nat × Operand)} {ps : List (Nat × Nat × LV)} {place : Nat → Option (Nat × Nat)} (hx : (parts.mapM fun (q : Nat × Operand) => (place q.1).bind fun pl => (ev q.2).map fun v => (pl.1, pl.2, v)) = some ps) :
  (parts.map fun (q : Nat × Operand) => (q.1, ρ q.2)).length = ps.length ∧ ∀ (i : Nat) (p : Nat × Value) (q : Nat × Nat × LV), (parts.map fun (q : Nat × Operand) => (q.1, ρ q.2))[i]? = some p → ps[i]? = some q → place p.1 = some (q.1, q.2.1) ∧ VR σ q.2.2 p.2 := by
 refine ⟨by simp [ag9 hx], fun j p q hpj hqj => ?_⟩
 have h1 := aw5 hx j
 rw [hqj] at h1
 simp only [List.getElem?_map, oM] at hpj
 obtain ⟨⟨i0, x0⟩, hx0, rfl⟩ := hpj
 rw [hx0] at h1
 have h1' := h1.symm
 simp only [oB, oE, oM] at h1'
 obtain ⟨pl, hpl, v2, hv2, rfl⟩ := h1'
 exact ⟨hpl, hev _ _ hv2⟩
theorem bS9 {t : TypeId} {parts : Array (Nat × Operand)} {y : LV} (hs : b42 P ev t parts.toList = some y) : ∃ r, (Instr.build t (parts.map fun (i, x) => (i, ρ x))).run P w = .ok r w ∧ VR σ y r := by
 unfold b42 at hs
 split at hs
 ·rename_i hp
  simp only [oE, oM] at hs
  obtain ⟨z, hz, ps, hx, cs, hcs, rfl⟩ := hs
  obtain ⟨i, zv, hi, hzv, hzr, _⟩ := aL4 hz
  obtain ⟨p1, p2⟩ := bx9 hev hx
  obtain ⟨out, ho, hor⟩ := aM8 (aA1 P t) (parts.map fun (i, x) => (i, ρ x)).toList ps z.cells zv.cells cs (hzr σ).cells (by simpa using p1) (fun i p q h1 h2 => p2 i p q (by simpa using h1) h2) hcs
  have hb := aM9 hi hzv hp (parts.map fun (i, x) => (i, ρ x)).toList
  rw [ho] at hb
  exact ⟨.agg out, run_build w t _ out hb, .agg hor⟩
 ·cases hs
omit hev in
theorem cd7 {t ty : TypeId} {x y : LV} {v : Value} {ts : Array TypeId} (ht : ts[0]? = some t) (hx : VR σ x v) (hs : rlen P t x = some y) : ∃ r, (Builtin.len_ ts ty #[v]).run P w = .ok r w ∧ VR σ y r := by
 unfold rlen at hs
 split at hs
 ·rename_i l hu
  simp only [oI] at hs; subst hs
  cases hx
  refine ⟨.int .i64 l.length, ?_, .i _ _⟩
  have hsz : (ByteArray.mk l.toArray).size = l.length := by simp [ByteArray.size]
  simp [Builtin.len_, ht, run_underlying hu, hsz, goInt]
 ·rename_i e a o n c hu
  simp only [oI] at hs; subst hs
  obtain ⟨q, c', g1, g2, g3, rfl, g4⟩ := hx.l_inv
  refine ⟨.int .i64 n, ?_, .i _ _⟩
  simp [Builtin.len_, ht, run_underlying hu, goInt]
 ·rename_i e hu
  simp only [oI] at hs; subst hs
  cases hx
  refine ⟨.int .i64 0, ?_, .i _ _⟩
  simp [Builtin.len_, ht, run_underlying hu, goInt]
 ·cases hs
end
end Go.Gr
namespace Go.Gr
set_option linter.unusedVariables false
set_option linter.unusedSimpArgs false
open Go.Vm (aa9 ad9 ad7 ak0 ah1 ak8 ag2 Shape.size aw7 ac4 aA1 aA9 aM9 aA0 aw5 ag9 an9 ao4 PV bt8)
open Go.RowKit (Below)
variable {P : Program} {w0 w : World} {σ : Mp} {h : Hp} {ev : Operand → Option LV} {ρ : Operand → Value}
theorem bT0 {fits : TypeId → Bool} {d : Nat} {e : TypeId} {c c' off n : Nat} (hc : c ≤ c') (hr : rowAt P fits d e c off n = true) : rowAt P fits d e c' off n = true := by
 cases d with
 | zero => simp [rowAt] at hr
 | succ d =>
  unfold rowAt at hr ⊢
  simp only at hr ⊢
  split
  ·rename_i h0; rw [iP h0] at hr; cases hr
  ·rename_i h0
   rw [iN h0] at hr
   simp only [or_eq_true, bA, dT] at hr ⊢
   rcases hr with ⟨⟨h1, h2⟩, h3⟩ | ⟨h1, h2⟩
   ·exact .inl ⟨⟨h1, by omega⟩, h3⟩
   ·exact .inr ⟨by omega, h2⟩
theorem bf6 : ∀ {d : Nat} {e : TypeId} {c c' off : Nat} {u : TypeId} {n : Nat}, c ≤ c' → liesAt P d e c off u n = true → liesAt P d e c' off u n = true
 | 0, e, c, c', off, u, n, hc, hr => by simp [liesAt] at hr
 | d + 1, e, c, c', off, u, n, hc, hr => by
  unfold liesAt at hr ⊢
  simp only [or_eq_true] at hr ⊢
  rcases hr with h1 | h1
  ·exact .inl (bT0 hc h1)
  ·refine .inr ?_
   split at h1
   ·exact bf6 hc h1
   ·cases h1
theorem br6 (hi : Inv P w0 σ h w) {a : Nat} {e : TypeId} {cs : List LV} (ha : h[a]? = some (.row e cs)) {q : Blk} (hq : σ a = some q) : w.shape? q.b = some (e, q.z) ∧ cs.length ≤ q.z := by
 obtain ⟨vs, cur, g1, g2, g3, g4, g5⟩ := aC4 hi ha hq
 refine ⟨by simp [World.shape?, g2, g3], ?_⟩
 rw [g1.length, ← g3]
 have := congrArg List.length g4
 simp at this; omega
theorem bn9 {b o e n : Nat} (hs : w.shape? b = some (e, n)) : (Conv.seenAt ⟨b, o, none⟩).run P w = .ok ⟨b, o, none⟩ w := by
 have h1 : (shape b).run P w = .ok (some (e, n)) w := by simp [shape, Sem.run, hs]
 have h2 : (viewAt b).run P w = .ok none w := by
  simp [viewAt, h1]
 simp only [Conv.seenAt, rB, h2, aO]
 rfl
theorem by0 {s : TypeId} (h : isU8 P s = true) : ∃ e, P.underlying s = some (.slice e) ∧ P.underlying e = some (.int .u8) := by
 unfold isU8 at h
 split at h
 ·rename_i e he
  split at h
  ·rename_i h2; exact ⟨e, he, h2⟩
  ·cases h
 ·cases h
theorem bf7 : ∀ {l : List LV} {t : List UInt8} {vs : List Value}, bL3 l = some t → VRs σ l vs → ∃ ns : List Int, vs = ns.map (Value.int .u8) ∧ t = ns.map fun n => UInt8.ofNat n.toNat
 | [], t, vs, h, hr => by cases hr; simp [bL3] at h; subst h; exact ⟨[], rfl, rfl⟩
 | e :: es, t, vs, h, hr => by
  simp only [bL3, mapM_cons, bind_eq_bind, pure_def, oE, oI] at h
  obtain ⟨b, hb, bs, hbs, rfl⟩ := h
  cases hr with | cons hx hr =>
  obtain ⟨ns, rfl, rfl⟩ := bf7 hbs hr
  split at hb
  ·rename_i n
   simp only [oI] at hb; subst hb
   cases hx
   exact ⟨n :: ns, rfl, rfl⟩
  ·cases hb
theorem b46 (hi : Inv P w0 σ h w) {s d : TypeId} {x y : LV} {v : Value} (hx : VR σ x v) (hs : cp0 P h s d x = some y) : ∃ r, (convert s d v).run P w = .ok r w ∧ VR σ y r := by
 unfold cp0 at hs
 split at hs
 ·rename_i ds k hus hud
  split at hs
  ·rename_i k' n
   simp only [oI] at hs; subst hs
   cases hx
   refine ⟨.int k (k.wrap n), ?_, .i _ _⟩
   simp [convert, run_underlying hus, run_underlying hud, Conv.intToInt]
  ·cases hs
 ·rename_i ds hus hud
  split at hs
  ·rename_i l
   simp only [oI] at hs; subst hs
   cases hx
   refine ⟨_, ?_, .s l⟩
   simp [convert, run_underlying hus, run_underlying hud]
  ·rename_i a o n c
   split at hs
   ·rename_i e cs hu8 ha
    obtain ⟨t, ht1, ht2⟩ := by0 hu8
    split at hs
    ·rename_i hle
     simp only [oM] at hs
     obtain ⟨bs, hb, rfl⟩ := hs
     obtain ⟨q, c', hq, hn, hc, rfl, _⟩ := hx.l_inv
     obtain ⟨vs, cur, r1, r2, r3, r4, r5⟩ := aC4 hi ha hq
     obtain ⟨ns, h1, h2⟩ := bf7 hb ((r1.drop o).take n)
     have hln : ((vs.drop o).take n).length = n := by
      have := r1.length
      have := Nat.le_of_ble_eq_true hle
      simp; omega
     have hl := run_loadCells_list (P := P) w ⟨q.b, o, none⟩ (ns.map (Value.int .u8)) (fun j v hv => by
      rw [← h1] at hv
      rw [ag2]; exact r5 _ _ (Vm.drop_take_get hv))
     rw [← h1, hln, h1] at hl
     refine ⟨_, ?_, .s bs⟩
     rw [run_convert_bytes_string w s d t _ _ _ ht1 ht2 hud, run_bytesToString w _ n c' ns hl, Vm.foldl_push, h2]
     simp
    ·cases hs
   ·cases hs
  ·split at hs
   ·rename_i hu8
    obtain ⟨t, ht1, ht2⟩ := by0 hu8
    simp only [oI] at hs; subst hs
    cases hx
    refine ⟨_, ?_, .s []⟩
    rw [run_convert_bytes_string w s d t _ _ _ ht1 ht2 hud]
    rfl
   ·cases hs
  ·cases hs
 ·rename_i t hus hud
  split at hs
  ·rename_i a o i hit
   split at hs
   ·rename_i e cs ha
    split at hs
    ·rename_i hc
     simp only [oI] at hs; subst hs
     obtain ⟨q, hq, rfl⟩ := hx.p_inv
     obtain ⟨hsh, hle⟩ := br6 hi ha hq
     refine ⟨_, ?_, .p hq⟩
     have h1 := bn9 (P := P) (w := w) (o := o) hsh
     have h2 : (shape q.b).run P w = .ok (some (e, q.z)) w := by simp [shape, Sem.run, hsh]
     have h3 : (cellsIn q.b).run P w = .ok (some q.z) w := by simp [cellsIn, h2]
     have h4 : ¬ q.z ≤ o := by omega
     simp [convert, run_underlying hus, run_underlying hud, Conv.unsafePointer, h1, h3, sizeOf, typeInfo, hit, hc.1, h4]
    ·cases hs
   ·cases hs
  ·cases hs
 ·rename_i u hus hud
  split at hs
  ·rename_i a o i hiu
   split at hs
   ·rename_i e cs ha
    split at hs
    ·rename_i hc
     simp only [oI] at hs; subst hs
     obtain ⟨q, hq, rfl⟩ := hx.p_inv
     obtain ⟨hsh, hle⟩ := br6 hi ha hq
     refine ⟨_, ?_, .p hq⟩
     have h1 := bn9 (P := P) (w := w) (o := o) hsh
     have h2 : (shape q.b).run P w = .ok (some (e, q.z)) w := by simp [shape, Sem.run, hsh]
     have h5 := bf6 (P := P) (Nat.div_le_div_right (c := P.cellsOf e) hle) hc.2
     have h3 : (variablesAt ⟨q.b, o, none⟩ u 1).run P w = .ok true w := by
      simp [variablesAt, h2, hsh, program, Sem.run, h5]
     simp [convert, run_underlying hus, run_underlying hud, Conv.unsafePointer, h1, h3, sizeOf, typeInfo, hiu, hc.1]
    ·cases hs
   ·cases hs
  ·cases hs
 ·cases hs
section
variable (hev : ∀ x y, ev x = some y → VR σ y (ρ x))
include hev
theorem bF4 : ∀ {xs : List Operand} {ys : List LV}, xs.mapM ev = some ys → VRs σ ys (xs.map ρ)
 | [], ys, h => by simp at h; subst h; exact .nil
 | x :: xs, ys, h => by
  simp only [mapM_cons, bind, oE, pure, oI] at h
  obtain ⟨y, h1, zs, h2, rfl⟩ := h
  exact .cons (hev _ _ h1) (bF4 h2)
theorem b47 {c : Call} {o : Oper} (ho : o.op = .call c) {y : LV} (hs : cp1 P ev c = some y) : Qt P w σ (execOp ρ o) y := by
 unfold cp1 at hs
 split at hs
 ·rename_i hcl
  split at hs
  ·rename_i t x ht hargs
   simp only [oE] at hs
   obtain ⟨a, h1, h2⟩ := hs
   obtain ⟨r, h3, h4⟩ := cd7 (P := P) (w := w) (ty := o.type) ht (hev _ _ h1) h2
   refine ⟨r, ?_, h4⟩
   have ha : c.args = #[x] := by apply Array.ext'; simpa using hargs
   simp [execOp, ho, resolve, hcl, invoke, builtin, ha, h3]
  ·cases hs
 ·rename_i hcl
  split at hs
  ·rename_i x z hargs
   split at hs
   ·rename_i k a k' b h1 h2
    split at hs
    ·rename_i hk
     subst hk
     simp only [oI] at hs; subst hs
     have q1 := hev _ _ h1
     have q2 := hev _ _ h2
     have ha : c.args = #[x, z] := by apply Array.ext'; simpa using hargs
     generalize e1 : ρ x = v1 at q1
     generalize e2 : ρ z = v2 at q2
     cases q1; cases q2
     have h3 : (Builtin.max_ c.argTypes o.type #[.int k a, .int k b]).run P w = .ok (.int k (max a b)) w := by
      simp only [Builtin.max_, List.foldlM_cons, List.foldlM_nil, Builtin.max2]
      simp
      omega
     refine ⟨_, ?_, .i _ _⟩
     simp [execOp, ho, resolve, hcl, invoke, builtin, ha, h3, e1, e2]
    ·cases hs
   ·cases hs
  ·cases hs
 ·rename_i hcl
  split at hs
  ·rename_i x hargs
   have ha : c.args = #[x] := by apply Array.ext'; simpa using hargs
   split at hs
   ·rename_i a oo n cc h1
    split at hs
    ·rename_i hn
     simp only [oI] at hs; subst hs
     obtain ⟨q, c', g1, g2, g3, g5, g4⟩ := (hev _ _ h1).l_inv
     refine ⟨_, ?_, .p g1⟩
     have hsd : (Builtin.unsafeSliceData_ c.argTypes o.type #[.slice (some ⟨q.b, oo, none⟩) n c']).run P w = .ok (.pointer (some ⟨q.b, oo, none⟩)) w := by
      cases c' with
      | zero => omega
      | succ k => rfl
     simp [execOp, ho, resolve, hcl, invoke, builtin, ha, g5, hsd]
    ·cases hs
   ·rename_i h1
    simp only [oI] at hs; subst hs
    have q1 := hev _ _ h1
    generalize e1 : ρ x = v1 at q1
    cases q1
    refine ⟨_, ?_, .p0⟩
    have hsd : (Builtin.unsafeSliceData_ c.argTypes o.type #[.slice none 0 0]).run P w = .ok (.pointer none) w := rfl
    simp [execOp, ho, resolve, hcl, invoke, builtin, ha, e1, hsd]
   ·cases hs
  ·cases hs
 ·cases hs
theorem bL5 (hi : Inv P w0 σ h w) {o : Oper} {y : LV} (hs : rq P h ev o.op = some y) : Qt P w σ (execOp ρ o) y := by
 unfold rq at hs
 split at hs
 ·rename_i x ho; exact ⟨ρ x, by simp [execOp, ho], hev _ _ hs⟩
 ·rename_i x ho; exact ⟨ρ x, by simp [execOp, ho], hev _ _ hs⟩
 ·rename_i c a b ho
  split at hs
  ·rename_i hc
   have hr := hev _ _ hc
   generalize hv : ρ c = v at hr
   cases hr
   exact ⟨ρ a, by simp [execOp, ho, hv, asBool], hev _ _ hs⟩
  ·rename_i hc
   have hr := hev _ _ hc
   generalize hv : ρ c = v at hr
   cases hr
   exact ⟨ρ b, by simp [execOp, ho, hv, asBool], hev _ _ hs⟩
  ·cases hs
 ·rename_i t x ho
  split at hs
  ·rename_i a off hx
   split at hs
   ·rename_i e cs ha
    simp only [oE] at hs
    obtain ⟨sh, hsh, hp⟩ := hs
    obtain ⟨q, hq, hv⟩ := (hev _ _ hx).p_inv
    obtain ⟨vs, cur, g1, g2, g3, g4, g5⟩ := aC4 hi ha hq
    obtain ⟨h1, h2⟩ := aN8 g1 hp
    have hrun := ah1 (P := P) (w := w) hsh (g := q.b) (o := off) (us := (vs.drop off).take sh.size) (by simp; omega) fun j v hjv => g5 _ _ (Vm.drop_take_get hjv)
    refine ⟨_, ?_, h1⟩
    simp [execOp, ho, hv, Instr.loadAt, Instr.sureAddr, hrun]
   ·cases hs
  ·cases hs
 ·rename_i x ho
  split at hs
  ·rename_i a off hx
   simp only [oI] at hs; subst hs
   obtain ⟨q, hq, hv⟩ := (hev _ _ hx).p_inv
   exact ⟨_, by simp [execOp, ho, hv], .p hq⟩
  ·rename_i f cs hx
   simp only [oI] at hs; subst hs
   have hr := hev _ _ hx
   generalize hv : ρ x = v at hr
   cases hr with | fn f hr =>
   exact ⟨_, by simp [execOp, ho, hv], .fn f hr⟩
  ·cases hs
 ·rename_i op t x z l ho
  simp only [oE] at hs
  obtain ⟨a, h1, b, h2, h3⟩ := hs
  obtain ⟨v, h4, h5⟩ := cd6 (P := P) (w := w) (x := x) (hev _ _ h1) (hev _ _ h2) h3
  refine ⟨v, ?_, h5⟩
  have : execOp ρ o = (do pure (.value (← (do eqGuard op t x z (ρ x) (ρ z); binOp op t (ρ x) (ρ z) : Sem Value)))) := by simp [execOp, ho]
  rw [this, rB, h4]
  rfl
 ·rename_i t x ho
  split at hs
  ·rename_i a hx
   simp only [oI] at hs; subst hs
   have hr := hev _ _ hx
   generalize hv : ρ x = v at hr
   cases hr
   exact ⟨.bool (!a), by simp [execOp, ho, hv, Op.unary], .b _⟩
  ·cases hs
 ·rename_i t x ho
  split at hs
  ·rename_i k a hx
   simp only [oI] at hs; subst hs
   have hr := hev _ _ hx
   generalize hv : ρ x = v at hr
   cases hr
   exact ⟨.int k (k.wrap (0 - a)), by simp [execOp, ho, hv, Op.unary, Op.intArith], .i _ _⟩
  ·cases hs
 ·rename_i s d x ho
  simp only [oE] at hs
  obtain ⟨a, h1, h2⟩ := hs
  obtain ⟨r, h3, h4⟩ := b46 hi (hev _ _ h1) h2
  exact ⟨r, by simp [execOp, ho, h3], h4⟩
 ·rename_i f first caps ho
  split at hs
  ·rename_i hf
   simp only [oM] at hs
   obtain ⟨cs, h1, rfl⟩ := hs
   have h2 := bF4 hev h1
   have he : first = #[] := by apply Array.ext'; simpa using hf
   exact ⟨.func (.func f) #[] (caps.map ρ), by simp [execOp, ho, Instr.makeFunc, he], .fn f (by simpa using h2)⟩
  ·cases hs
 ·rename_i t x lo hi' ho
  simp only [oE] at hs
  obtain ⟨a, h1, h2⟩ := hs
  obtain ⟨r, h3, h4⟩ := bS6 (P := P) (w := w) hev (hev _ _ h1) h2
  exact ⟨r, by simp [execOp, ho, h3], h4⟩
 ·rename_i s x f ho
  simp only [oE] at hs
  obtain ⟨a, h1, h2⟩ := hs
  obtain ⟨r, h3, h4⟩ := bk3 (P := P) (w := w) (hev _ _ h1) h2
  exact ⟨r, by simp [execOp, ho, h3], h4⟩
 ·rename_i s x f ho
  simp only [oE] at hs
  obtain ⟨a, h1, h2⟩ := hs
  obtain ⟨r, h3, h4⟩ := bS8 (P := P) (w := w) (hev _ _ h1) h2
  exact ⟨r, by simp [execOp, ho, h3], h4⟩
 ·rename_i t x i ho
  simp only [oE] at hs
  obtain ⟨a, h1, b, h2, h3⟩ := hs
  obtain ⟨r, h4, h5⟩ := bk2 (P := P) (w := w) (hev _ _ h1) (hev _ _ h2) h3
  exact ⟨r, by simp [execOp, ho, h4], h5⟩
 ·rename_i t x i ho
  simp only [oE] at hs
  obtain ⟨a, h1, b, h2, h3⟩ := hs
  obtain ⟨r, h4, h5⟩ := bS7 (P := P) (w := w) (hev _ _ h1) (hev _ _ h2) h3
  exact ⟨r, by simp [execOp, ho, h4], h5⟩
 ·rename_i x i ho
  split at hs
  ·rename_i vs hx
   have hr := hev _ _ hx
   generalize hv : ρ x = v at hr
   cases hr with
   | @tup _ us hr =>
    obtain ⟨u, h1, h2⟩ := hr.get i y hs
    refine ⟨u, ?_, h2⟩
    have h3 : us[i]? = some u := by simpa using h1
    simp [execOp, ho, hv, Instr.extract, h3]
  ·cases hs
 ·rename_i t parts ho
  obtain ⟨r, h3, h4⟩ := bS9 (P := P) (w := w) hev hs
  refine ⟨r, ?_, h4⟩
  simp only [execOp, ho, rB]
  rw [h3]
  rfl
 ·rename_i c ho
  exact b47 hev ho hs
 ·cases hs
end
end Go.Gr
namespace Go.Gr
set_option linter.unusedVariables false
set_option linter.unusedSimpArgs false
open Go.Vm (aa9 ad9 ad7 ak0 ah1 ak8 ag2 Shape.size aw7 ac4 aA1 aA9 aM9 aA0 aw5 ag9 an9 ao4 PV bt8 al2)
open Go.RowKit (Below)
def cd8 : LV → Option UInt8
 | .i .u8 n => if 0 ≤ n ∧ n < 256 then some (UInt8.ofNat n.toNat) else none
 | _ => none
def strL (l : List UInt8) : List LV := l.map fun b => .i .u8 b.toNat
def srcL (P : Program) (h : Hp) (tx : TypeId) (size : Nat) : LV → Option (Nat × List LV)
 | .l0 => match P.underlying tx with
  | some (.slice _) => some (0, [])
  | _ => none
 | .l b o m _ => match P.underlying tx, h[b]? with
  | some (.slice _), some (.row _ cs) => if o + m * size ≤ cs.length then some (m, (cs.drop o).take (m * size)) else none
  | _, _ => none
 | .s l => match P.underlying tx with
  | some .string => if size = 1 then some (l.length, strL l) else none
  | _ => none
 | _ => none
def rapp (P : Program) (h : Hp) (t tx : TypeId) (x y : LV) : Option (LV × Hp) := match P.underlying t with
 | some (.slice e) => (P.info? e).bind fun i => (bk0 P e).bind fun z => (srcL P h tx i.size y).bind fun s =>
  match x with
  | .l0 => if s.1 = 0 then some (.l0, h) else
    if z.cells.length = i.size ∧ s.1 * i.bytes ≤ 140737488355328 ∧ s.1 ≤ 9223372036854775807 then some (.l h.length 0 s.1 s.1, h ++ [.row e s.2]) else none
  | .l a o n c => match h[a]? with
   | some (.row e' cs) => if o = 0 ∧ e' = e ∧ c < n + s.1 ∧ n * i.size ≤ cs.length ∧ z.cells.length = i.size ∧ (n + s.1) * i.bytes ≤ 140737488355328 ∧ n + s.1 ≤ 9223372036854775807 then
     some (.l h.length 0 (n + s.1) (n + s.1), h.set a .dead ++ [.row e (cs.take (n * i.size) ++ s.2)]) else none
   | _ => none
  | _ => none
 | _ => none
def rl (P : Program) (h : Hp) (ev : Operand → Option LV) (o : Op) : Option (LV × Hp) := match o with
 | .alloc t => (bk0 P t).map fun z => (.p h.length 0, h ++ [.row t z.cells])
 | .box t x => (P.info? t).bind fun _ => (ev x).bind fun v => if v.cells.all LV.one = true then some (.p h.length 0, h ++ [.row t v.cells]) else none
 | .buildSlice t len parts => match P.underlying t with
  | some (.slice e) => (aa9 P e).bind fun sh => (bk0 P e).bind fun z =>
    if z.cells.length = sh.size ∧ 0 < sh.size ∧ len * sh.size ≤ 16777216 ∧ 0 < len then
     (parts.toList.mapM fun (q : Nat × Operand) => (some (q.1 * sh.size, sh.size)).bind fun pl => (ev q.2).map fun v => (pl.1, pl.2, v)).bind fun ps => (bF3 ps (replicate len z.cells).flatten).bind fun cs =>
      if cs.all LV.one = true then some (.l h.length 0 len len, h ++ [.row e cs]) else none
    else none
  | _ => none
 | .makeSlice t x y => match P.underlying t with
  | some (.slice e) => (aa9 P e).bind fun sh => (P.info? e).bind fun i => (bk0 P e).bind fun z => match ev x, ev y with
   | some (.i _ a), some (.i _ b) => if 0 ≤ a ∧ a ≤ b ∧ (i.bytes : Int) * b ≤ 281474976710656 ∧ b ≤ 9223372036854775807 ∧ z.cells.length = sh.size ∧ 0 < sh.size then
     some (.l h.length 0 a.toNat b.toNat, h ++ [.row e (replicate b.toNat z.cells).flatten]) else none
   | _, _ => none
  | _ => none
 | .store t x y => match ev x, ev y, aa9 P t with
  | some (.p a o), some v, some sh => match h[a]? with
   | some (.row e cs) => if v.cells.length = sh.size ∧ v.cells.all LV.one = true ∧ o + sh.size ≤ cs.length then some (.tup [], h.set a (.row e (Vm.splice cs o v.cells))) else none
   | _ => none
  | _, _, _ => none
 | .range t x => match P.underlying t, ev x with
  | some .string, some (.s l) => some (.p h.length 0, h ++ [.it l 0])
  | _, _ => none
 | .next x true => match ev x with
  | some (.p a 0) => match h[a]? with
   | some (.it l pos) => match l[pos]? with
    | none => some (.tup [.b false], h)
    | some b => if b.toNat < 128 then some (.tup [.b true, .i .i64 pos, .i .i32 b.toNat], h.set a (.it l (pos + 1))) else none
   | _ => none
  | _ => none
 | .call c => match c.callee with
  | .builtin .append => match c.argTypes.toList, c.args.toList with
   | [t, tx], [x, y] => (ev x).bind fun a => (ev y).bind fun b => rapp P h t tx a b
   | _, _ => none
  | .builtin .unsafeString => match c.argTypes.toList, c.args.toList with
   | [pt, _], [x, y] => match P.underlying pt, ev x, ev y with
    | some (.pointer e), some (.p a 0), some (.i .i64 n) => match h[a]? with
     | some (.row e' cs) => if e' = e ∧ P.cellsOf e = 1 ∧ 0 < n ∧ n.toNat ≤ cs.length ∧ n ≤ 9223372036854775807 then ((cs.take n.toNat).mapM cd8).map fun l => (.s l, h.set a .dead) else none
     | _ => none
    | some (.pointer _), some .p0, some (.i .i64 0) => some (.s [], h)
    | _, _, _ => none
   | _, _ => none
  | _ => none
 | _ => none
variable {P : Program} {w0 w : World} {σ : Mp} {h : Hp} {ev : Operand → Option LV} {ρ : Operand → Value}
def Lt (P : Program) (w0 w : World) (σ : Mp) (s : Sem Next) (x : LV) (h' : Hp) : Prop :=
 ∃ n v σ' w', s.run P w = .ok n w' ∧ (n = .value v ∨ n = .skip ∧ v = Go.undef) ∧ Ext σ σ' ∧ Inv P w0 σ' h' w' ∧ VR σ' x v
theorem bf8 (w : World) (t : TypeId) (v : Value) : (newVar t v).run P w = .ok ⟨w.heap.size, 0, none⟩ (w.alloc (.cells v.cells t)) := by
 simp [newVar, newRow]
theorem bF5 {ps qs : List LV} {off : Nat} (h : ∀ p ∈ ps, p.one = true) (h' : ∀ p ∈ qs, p.one = true) : ∀ p ∈ Vm.splice ps off qs, p.one = true := by
 intro p hp
 simp only [Vm.splice, List.mem_append] at hp
 rcases hp with (hp | hp) | hp
 ·exact h p (List.mem_of_mem_take hp)
 ·exact h' p hp
 ·exact h p (List.mem_of_mem_drop hp)
theorem bk4 {f vs xs : List Value} {o : Nat} (h : f.take vs.length = vs) (hle : o + xs.length ≤ vs.length) : (Vm.splice f o xs).take vs.length = Vm.splice vs o xs := Vm.splice_prefix h hle
theorem bF6 (hi : Inv P w0 σ h w) {a : Nat} {e : TypeId} {cs : List LV} (ha : h[a]? = some (.row e cs)) : ∀ c ∈ cs, c.one = true := by
 obtain ⟨q, cur, vs, i, g1, g2, g3, g4, g5, g6, g7, g8, g9⟩ := bn7 hi ha
 exact g9
theorem bT1 (hi : Inv P w0 σ h w) {a : Nat} {e : TypeId} {cs : List LV} (ha : h[a]? = some (.row e cs)) : ∃ q i, σ a = some q ∧ P.info? e = some i ∧ i.size = q.k := by
 obtain ⟨q, cur, vs, i, g1, g2, g3, g4, g5, g6, g7, g8, g9⟩ := bn7 hi ha
 exact ⟨q, i, g1, g5, g6⟩
section
variable (hev : ∀ x y, ev x = some y → VR σ y (ρ x)) (hi : Inv P w0 σ h w)
include hev hi
omit hev in
theorem bF7 {o : Oper} {t : TypeId} {z : LV} (ho : o.op = .alloc t) (hz : bk0 P t = some z) : Lt P w0 w σ (execOp ρ o) (.p h.length 0) (h ++ [.row t z.cells]) := by
 obtain ⟨i, v, h1, h2, h3, h4⟩ := aL4 hz
 refine ⟨_, .pointer (some ⟨w.heap.size, 0, none⟩), _, w.alloc (.cells v.cells t), ?_, .inl rfl, au7 (hi.dom _ (le_refl _)), hi.newRow h1 (h3 σ).cells (by simp [take_of_length_le]) h4, .p (ao6 _ _ _)⟩
 simp [execOp, ho, Instr.alloc, zeroValue, typeInfo, h1, h2, bf8]
theorem b48 {o : Oper} {t : TypeId} {x : Operand} {v : LV} {i : TypeInfo} (ho : o.op = .box t x) (hit : P.info? t = some i) (hv : ev x = some v) (h1 : v.cells.all LV.one = true) : Lt P w0 w σ (execOp ρ o) (.p h.length 0) (h ++ [.row t v.cells]) := by
 have hr := hev _ _ hv
 refine ⟨_, .pointer (some ⟨w.heap.size, 0, none⟩), _, w.alloc (.cells (ρ x).cells t), ?_, .inl rfl, au7 (hi.dom _ (le_refl _)), hi.newRow hit hr.cells (by simp [take_of_length_le]) (by simpa using h1), .p (ao6 _ _ _)⟩
 simp [execOp, ho, Instr.box, bf8]
theorem bF8 {o : Oper} {t : TypeId} {x y : Operand} {a off : Nat} {v : LV} {sh : Vm.Shape} {e : TypeId} {cs : List LV} (ho : o.op = .store t x y) (hx : ev x = some (.p a off)) (hy : ev y = some v) (hsh : aa9 P t = some sh) (ha : h[a]? = some (.row e cs))
  (h1 : v.cells.length = sh.size) (h2 : v.cells.all LV.one = true) (h3 : off + sh.size ≤ cs.length) : Lt P w0 w σ (execOp ρ o) (.tup []) (h.set a (.row e (Vm.splice cs off v.cells))) := by
 obtain ⟨q, hq, hv⟩ := (hev _ _ hx).p_inv
 have hr := hev _ _ hy
 obtain ⟨vs, cur, g1, g2, g3, g4, g5⟩ := aC4 hi ha hq
 have hcl := hr.cells.length
 have hvl : cs.length = vs.length := g1.length
 have hvc : vs.length ≤ cur.size := by have := congrArg List.length g4; simp at this; omega
 have h2' : ∀ c ∈ v.cells, c.one = true := by simpa using h2
 have hsz : (ρ y).cells.size = sh.size := by rw [← h1, hcl]; simp
 have hrun := ak8 (P := P) (w := w) hsh (g := q.b) (o := off) (v := ρ y) hsz g2 (by omega) (hr.cells.oneCell h2')
 refine ⟨_, Go.undef, σ, _, ?_, .inr ⟨rfl, rfl⟩, Ext.refl _, hi.setRow ha hq (cur' := (Vm.splice cur.toList off (ρ y).cells.toList).toArray) ?_ (g1.splice hr.cells off) ?_ (bF5 (bF6 hi ha) h2'), .undef _⟩
 ·simp [execOp, ho, hv, Instr.storeAt, Instr.sureAddr, hrun]
 ·have : (Vm.splice cur.toList off (ρ y).cells.toList).length = cur.toList.length := ac4 (by simp [hsz]; omega)
  simp [this, g3]
 ·have : (Vm.splice vs off (ρ y).cells.toList).length = vs.length := ac4 (by simp [hsz]; omega)
  rw [this]
  exact bk4 g4 (by simp [hsz]; omega)
theorem bf9 {o : Oper} {t e : TypeId} {x y : Operand} {kx ky : IntKind} {a b : Int} {sh : Vm.Shape} {i : TypeInfo} {z : LV} (ho : o.op = .makeSlice t x y) (hu : P.underlying t = some (.slice e)) (hsh : aa9 P e = some sh) (hie : P.info? e = some i) (hz : bk0 P e = some z)
  (hx : ev x = some (.i kx a)) (hy : ev y = some (.i ky b)) (h0 : 0 ≤ a) (hab : a ≤ b) (hby : (i.bytes : Int) * b ≤ 281474976710656) (h63 : b ≤ 9223372036854775807) (hzl : z.cells.length = sh.size) (hpos : 0 < sh.size) :
  Lt P w0 w σ (execOp ρ o) (.l h.length 0 a.toNat b.toNat) (h ++ [.row e (replicate b.toNat z.cells).flatten]) := by
 obtain ⟨i2, d, hi2, hu2, hsz, _⟩ := ad9 hsh
 obtain rfl : i = i2 := by rw [hie] at hi2; exact Option.some.inj hi2
 obtain ⟨i3, v, hi3, hzv, hzr, hz1⟩ := aL4 hz
 obtain rfl : i = i3 := by rw [hie] at hi3; exact Option.some.inj hi3
 have hvl : v.cells.toList.length = sh.size := by rw [← (hzr σ).cells.length]; exact hzl
 have hr := run_make (P := P) w t e i v hu hie hzv kx ky a b h0 hab hby h63
 have hcells : madeCells v.cells (b.toNat * i.size) = (replicate b.toNat v.cells.toList).flatten.toArray := by
  have := al2 (n := b.toNat) hvl hpos
  have hzl' : v.cells.size = sh.size := by simpa using hvl
  rw [← this]
  unfold madeCells
  rw [hsz, hzl']
 have q1 := hev _ _ hx
 have q2 := hev _ _ hy
 generalize e1 : ρ x = v1 at q1
 generalize e2 : ρ y = v2 at q2
 cases q1; cases q2
 refine ⟨_, .slice (some ⟨w.heap.size, 0, none⟩) a.toNat b.toNat, _, w.alloc (.cells (madeCells v.cells (b.toNat * i.size)) e), ?_, .inl rfl, au7 (hi.dom _ (le_refl _)),
  hi.newRow hie ((hzr σ).cells.flatten b.toNat) (by rw [hcells]; simp [take_of_length_le]) ?_, .l (ao6 _ _ _) (by omega) (.inl rfl)⟩
 ·simp [execOp, ho, e1, e2, hr]
 ·intro c hc
  obtain ⟨l, hl, hcl⟩ := List.mem_flatten.1 hc
  rw [List.eq_of_mem_replicate hl] at hcl
  exact hz1 c hcl
theorem a92 {o : Oper} {t e : TypeId} {len : Nat} {parts : Array (Nat × Operand)} {sh : Vm.Shape} {z : LV} {ps : List (Nat × Nat × LV)} {cs : List LV} (ho : o.op = .buildSlice t len parts) (hu : P.underlying t = some (.slice e)) (hsh : aa9 P e = some sh) (hz : bk0 P e = some z)
  (hzl : z.cells.length = sh.size) (hpos : 0 < sh.size) (hsmall : len * sh.size ≤ 16777216) (hlen : 0 < len)
  (hps : (parts.toList.mapM fun (q : Nat × Operand) => (some (q.1 * sh.size, sh.size)).bind fun pl => (ev q.2).map fun v => (pl.1, pl.2, v)) = some ps) (hf : bF3 ps (replicate len z.cells).flatten = some cs) (h1 : cs.all LV.one = true) :
  Lt P w0 w σ (execOp ρ o) (.l h.length 0 len len) (h ++ [.row e cs]) := by
 obtain ⟨i, d, hie, hu2, hsz, _⟩ := ad9 hsh
 obtain ⟨i3, v, hi3, hzv, hzr, hz1⟩ := aL4 hz
 obtain rfl : i = i3 := by rw [hie] at hi3; exact Option.some.inj hi3
 have hvl : v.cells.toList.length = sh.size := by rw [← (hzr σ).cells.length]; exact hzl
 have hvl' : v.cells.size = sh.size := by simpa using hvl
 obtain ⟨p1, p2⟩ := bx9 (place := fun i => some (i * sh.size, sh.size)) hev hps
 obtain ⟨out, hout, hor⟩ := aM8 (fun i => some (i * sh.size, sh.size)) (parts.map fun (i, x) => (i, ρ x)).toList ps (replicate len z.cells).flatten (replicate len v.cells.toList).flatten.toArray cs (by simpa using (hzr σ).cells.flatten len) (by simpa using p1) (fun i p q h1 h2 => p2 i p q (by simpa using h1) h2) hf
 have hrow : (Array.range (len * i.size)).map (v.cells[· % v.cells.size]!) = (replicate len v.cells.toList).flatten.toArray := by
  have := al2 (n := len) hvl hpos
  rw [hsz, hvl', ← this]
 have hne : len * sh.size ≠ 0 := Nat.mul_ne_zero (by omega) (by omega)
 have hr := run_buildSlice (P := P) w t e len (parts.map fun (i, x) => (i, ρ x)) out i v hu hie hzv (by rw [hsz]; omega) (by rw [hsz]; exact hne) (by rw [hrow, hsz]; exact hout)
 refine ⟨_, .slice (some ⟨w.heap.size, 0, none⟩) len len, _, w.alloc (.cells out e), ?_, .inl rfl, au7 (hi.dom _ (le_refl _)), hi.newRow hie hor (by simp [take_of_length_le]) (by simpa using h1), .l (ao6 _ _ _) (le_refl _) (.inl rfl)⟩
 simp only [execOp, ho, rB]
 rw [hr]
 rfl
end
end Go.Gr
namespace Go.Gr
set_option linter.unusedVariables false
set_option linter.unusedSimpArgs false
open Go.Vm (aa9 ad9 ad7 ak0 ah1 ak8 ag2 Shape.size aw7 ac4 aA1 aA9 aM9 aA0 aw5 ag9 an9 ao4 PV bt8 al2)
open Go.RowKit (Below)
variable {P : Program} {w0 w : World} {σ : Mp} {h : Hp} {ev : Operand → Option LV} {ρ : Operand → Value}
theorem cd9 (l : List UInt8) : VRs σ (strL l) (byteCells ⟨l.toArray⟩) := by
 unfold strL byteCells
 simp only
 induction l with
 | nil => exact .nil
 | cons b l ih => exact .cons (.i _ _) ih
theorem b49 (hi : Inv P w0 σ h w) {tx : TypeId} {size : Nat} {b : LV} {vb : Value} {m : Nat} {nl : List LV} (hb : VR σ b vb) (hs : srcL P h tx size b = some (m, nl)) : ∃ news, Src P size tx vb m news w ∧ VRs σ nl news ∧ ∀ c ∈ nl, c.one = true := by
 unfold srcL at hs
 split at hs
 ·split at hs
  ·rename_i e hu
   simp only [oI, pJ] at hs
   obtain ⟨rfl, rfl⟩ := hs
   cases hb
   exact ⟨[], Src.ofNil w hu 0, .nil, by simp⟩
  ·cases hs
 ·rename_i b' o m' c
  split at hs
  ·rename_i e e2 cs hu hb2
   split at hs
   ·rename_i hle
    simp only [oI, pJ] at hs
    obtain ⟨rfl, rfl⟩ := hs
    obtain ⟨q, c', g1, g2, g3, rfl, g4⟩ := hb.l_inv
    obtain ⟨vs, cur, r1, r2, r3, r4, r5⟩ := aC4 hi hb2 g1
    have hr := (r1.drop o).take (m' * size)
    have hone : ∀ c ∈ (cs.drop o).take (m' * size), c.one = true := fun c hc => bF6 hi hb2 c (List.mem_of_mem_drop (List.mem_of_mem_take hc))
    refine ⟨(vs.drop o).take (m' * size), Src.ofSlice w hu ⟨q.b, o, none⟩ m' c' _ ?_ (fun j u hu => ?_) (hr.oneCell hone), hr, hone⟩
    ·rw [List.length_take, List.length_drop, ← r1.length]; omega
    ·rw [ag2]
     exact r5 _ _ (Vm.drop_take_get hu)
   ·cases hs
  ·cases hs
 ·rename_i l
  split at hs
  ·rename_i hu
   split at hs
   ·rename_i h1
    subst h1
    simp only [oI, pJ] at hs
    obtain ⟨rfl, rfl⟩ := hs
    cases hb
    have hsz : (ByteArray.mk l.toArray).size = l.length := by simp [ByteArray.size]
    have := Src.ofString (P := P) w hu ⟨l.toArray⟩
    rw [hsz] at this
    exact ⟨_, this, cd9 l, fun c hc => by obtain ⟨b, _, rfl⟩ := List.mem_map.1 hc; rfl⟩
   ·cases hs
  ·cases hs
 ·cases hs
theorem bg0 {t tx ty e : TypeId} {i : TypeInfo} (ht : P.underlying t = some (.slice e)) (hi : P.info? e = some i) {x : Value} {news : List Value} (hs : Src P i.size tx x 0 news w) : (Builtin.append_ #[t, tx] ty #[.slice none 0 0, x]).run P w = .ok (.slice none 0 0) w := by
 rcases hs.kind with ⟨e', hk⟩ | hk <;> simp [Builtin.append_, run_underlying ht, run_underlying hk, sizeOf, typeInfo, hi, hs.len, hs.cells]
theorem ce0 {t tx ty e : TypeId} {i : TypeInfo} (ht : P.underlying t = some (.slice e)) (hi : P.info? e = some i) {g sLen sCap : Nat} {cur : Array Value} {e' : TypeId} (hg : w.heap[g]? = some (.cells cur e' (0, 0))) {x : Value} {n : Nat} {news : List Value} (hs : Src P i.size tx x n news w)
  (hroom : sLen + n ≤ sCap) (hfit : sLen * i.size + news.length ≤ cur.size) :
  (Builtin.append_ #[t, tx] ty #[.slice (some ⟨g, 0, none⟩) sLen sCap, x]).run P w = .ok (.slice (some ⟨g, 0, none⟩) (sLen + n) sCap) (w.setRow g (Vm.splice cur.toList (sLen * i.size) news).toArray) := by
 have hst := run_storeCells_at P g (sLen * i.size) e' news 0 cur w hg (by simpa using hfit) hs.one
 simp only [Nat.add_zero] at hst
 simp only [Vm.splice]
 rcases hs.kind with ⟨e2, hk⟩ | hk <;> simp [Builtin.append_, run_underlying ht, run_underlying hk, sizeOf, typeInfo, hi, hs.len, hroom, hs.cells, Addr.add_lit, hst]
theorem bT2 (hi : Inv P w0 σ h w) {t tx ty : TypeId} {a b x : LV} {va vb : Value} {h' : Hp} (ha : VR σ a va) (hb : VR σ b vb) (hs : rapp P h t tx a b = some (x, h')) :
  ∃ v σ' w', (Builtin.append_ #[t, tx] ty #[va, vb]).run P w = .ok v w' ∧ Ext σ σ' ∧ Inv P w0 σ' h' w' ∧ VR σ' x v := by
 unfold rapp at hs
 split at hs
 case h_2 => cases hs
 rename_i e hu
 simp only [oE] at hs
 obtain ⟨i, hie, z, hz, ⟨m, nl⟩, hsrc, hs⟩ := hs
 simp only at hs
 obtain ⟨news, q1, q2, q3⟩ := b49 hi hb hsrc
 obtain ⟨i3, zv, hi3, hzv, hzr, hz1⟩ := aL4 hz
 obtain rfl : i = i3 := by rw [hie] at hi3; exact Option.some.inj hi3
 have hnl := q1.newsLen
 have hzc : z.cells.length = zv.cells.size := by rw [(hzr σ).cells.length]; simp
 split at hs
 ·cases ha
  split at hs
  ·rename_i hm
   subst hm
   simp only [oI, pJ] at hs
   obtain ⟨rfl, rfl⟩ := hs
   exact ⟨_, σ, w, bg0 hu hie q1, Ext.refl _, hi, .l0⟩
  ·rename_i hm
   split at hs
   ·rename_i hc
    obtain ⟨c1, c2, c3⟩ := hc
    simp only [oI, pJ] at hs
    obtain ⟨rfl, rfl⟩ := hs
    have hr := run_append_grow_src (P := P) w t tx ty e i zv hu hie hzv none 0 0 [] (by simp [Builtin.firstCells]) vb m news q1 (by omega) (by omega) (growslice_fits (by omega) (by simpa using c2))
    simp only [zero_add, List.nil_append] at hr
    have hge := grownCap_ge w m 0 e
    refine ⟨_, _, _, hr, au7 (hi.dom _ (le_refl _)), hi.drew.newRow hie q2 (by simp) q3, ?_⟩
    refine VR.l (ao6 _ _ _) (le_refl _) (.inr ⟨hge, rfl, ?_⟩)
    simp only [Array.size_append, List.size_toArray, size_zeroCells, hnl, ← hzc, c1, ← add_mul]
    exact Nat.mul_le_mul_right _ (by omega)
   ·cases hs
 ·rename_i a' o n c
  split at hs
  ·rename_i e' cs hrow
   split at hs
   ·rename_i hc
    obtain ⟨rfl, rfl, c1, c2, c3, c4, c5⟩ := hc
    simp only [oI, pJ] at hs
    obtain ⟨rfl, rfl⟩ := hs
    obtain ⟨q, c', g1, g2, g3, rfl, g4⟩ := ha.l_inv
    obtain ⟨vs, cur, r1, r2, r3, r4, r5⟩ := aC4 hi hrow g1
    obtain ⟨q', i', m1, m2, m3⟩ := bT1 hi hrow
    rw [g1] at m1; cases m1
    rw [hie] at m2; cases m2
    have hvl := r1.length
    have hvc : vs.length ≤ cur.size := by have := congrArg List.length r4; simp at this; omega
    have hone : ∀ c ∈ cs.take (n * i.size) ++ nl, c.one = true := by
     intro c hc
     rcases List.mem_append.1 hc with hc | hc
     ·exact bF6 hi hrow c (List.mem_of_mem_take hc)
     ·exact q3 c hc
    have hrep : VRs σ (cs.take (n * i.size) ++ nl) (vs.take (n * i.size) ++ news) := (r1.take _).append q2
    have htl : (vs.take (n * i.size)).length = n * i.size := by simp; omega
    by_cases hroom : n + m ≤ c'
    ·have hz2 : c' * q.k ≤ q.z := by
      rcases g4 with g4 | ⟨_, _, g4⟩
      ·omega
      ·exact g4
     have hfit : n * i.size + news.length ≤ cur.size := by
      rw [hnl, r3, ← add_mul]
      exact Nat.le_trans (by rw [m3]; exact Nat.mul_le_mul_right _ hroom) hz2
     have hr := ce0 (P := P) (w := w) (tx := tx) (ty := ty) hu hie r2 q1 hroom hfit
     refine ⟨_, _, _, hr, au7 (hi.dom _ (le_refl _)), hi.renew hrow g1 (cur' := (Vm.splice cur.toList (n * i.size) news).toArray) (vs' := vs.take (n * i.size) ++ news) ?_ hrep ?_ hone, .l (ao6 _ _ _) (le_refl _) (.inr ⟨hroom, rfl, hz2⟩)⟩
     ·have : (Vm.splice cur.toList (n * i.size) news).length = cur.toList.length := ac4 (by simpa using hfit)
      simp [this, r3]
     ·simp only [Vm.splice]
      have h2 : cur.toList.take (n * i.size) = vs.take (n * i.size) := by rw [← r4, List.take_take, Nat.min_eq_left (by omega)]
      rw [h2]
      exact List.take_left
    ·have hcells : ∀ j u, (vs.take (n * i.size))[j]? = some u → w.drew.cell? ((⟨q.b, 0, none⟩ : Addr).add j) = some u := by
      intro j u hju
      rw [ag2, zero_add]
      rw [getElem?_take] at hju
      split at hju
      ·exact r5 _ _ hju
      ·cases hju
     have hold := run_firstCells_some (P := P) w.drew i.size n ⟨q.b, 0, none⟩ n c' (vs.take (n * i.size)) htl hcells
     have hr := run_append_grow_src (P := P) w t tx ty e' i zv hu hie hzv (some ⟨q.b, 0, none⟩) n c' (vs.take (n * i.size)) hold vb m news q1 (by omega) (by omega) (growslice_fits (by omega) c4)
     have hge := grownCap_ge w (n + m) c' e'
     have hlen : (h.set a' .dead).length = h.length := by simp
     have hk := (hi.drew.kill a').newRow hie hrep (cur := (vs.take (n * i.size) ++ news).toArray ++ Builtin.zeroCells zv.cells (grownCap w (n + m) c' e' - (n + m))) (by rw [Array.toList_append]; exact List.take_left) hone
     rw [hlen] at hk
     refine ⟨_, _, _, hr, au7 (hi.dom _ (le_refl _)), hk, ?_⟩
     refine VR.l (ao6 _ _ _) (le_refl _) (.inr ⟨hge, rfl, ?_⟩)
     simp only [Array.size_append, List.size_toArray, List.length_append, htl, size_zeroCells, hnl, ← hzc, c3, ← add_mul]
     exact Nat.mul_le_mul_right _ (by omega)
   ·cases hs
  ·cases hs
 ·cases hs
theorem bg1 : ∀ {cs : List LV} {vs : List Value} {l : List UInt8}, VRs σ cs vs → cs.mapM cd8 = some l → vs = l.map fun b => Value.int .u8 b.toNat
 | [], vs, l, hr, hm => by cases hr; simp at hm; subst hm; rfl
 | c :: cs, vs, l, hr, hm => by
  cases hr with
  | cons h1 h2 =>
   simp only [mapM_cons, bind, oE, pure, oI] at hm
   obtain ⟨b, hb, l', hl, rfl⟩ := hm
   rw [bg1 h2 hl]
   unfold cd8 at hb
   split at hb
   ·split at hb
    ·rename_i n hn
     simp only [oI] at hb; subst hb
     cases h1
     simp only [List.map_cons]
     congr 2
     have : n.toNat % 256 = n.toNat := Nat.mod_eq_of_lt (by omega)
     simp [UInt8.toNat_ofNat', this]
     omega
    ·cases hb
   ·cases hb
theorem by1 {a : Addr} {n k : Nat} (hk : k ≠ a.block) : (w.freeze a n).heap[k]? = w.heap[k]? := by
 unfold World.freeze
 split
 ·rfl
 ·simp only [Array.getElem?_modify]
  rw [iN (fun e => hk e.symm)]
theorem bT3 (hi : Inv P w0 σ h w) {pt it ty e : TypeId} {a : Nat} {n : Int} {cs : List LV} {l : List UInt8} {va : Value} (hp : P.underlying pt = some (.pointer e)) (ha : VR σ (.p a 0) va) (hrow : h[a]? = some (.row e cs)) (hc1 : P.cellsOf e = 1) (h0 : 0 < n) (hn : n.toNat ≤ cs.length) (h63 : n ≤ 9223372036854775807)
  (hl : (cs.take n.toNat).mapM cd8 = some l) : ∃ w', (Builtin.unsafeString_ #[pt, it] ty #[va, .int .i64 n]).run P w = .ok (.string ⟨l.toArray⟩) w' ∧ Inv P w0 σ (h.set a .dead) w' := by
 obtain ⟨q, hq, rfl⟩ := ha.p_inv
 obtain ⟨hsh, hle⟩ := br6 hi hrow hq
 obtain ⟨vs, cur, r1, r2, r3, r4, r5⟩ := aC4 hi hrow hq
 have hb := bg1 (r1.take n.toNat) hl
 have hll : l.length = n.toNat := by
  have := ag9 hl
  rw [this]; simp; omega
 have hne : l ≠ [] := by intro e; subst e; simp at hll; omega
 have hcell : ∀ j x, l[j]? = some x → w.cell? ((⟨q.b, 0, none⟩ : Addr).add j) = some (.int .u8 x.toNat) := by
  intro j x hj
  rw [ag2, zero_add]
  refine r5 _ _ ?_
  have h2 : (vs.take n.toNat)[j]? = some (.int .u8 x.toNat) := by rw [hb, List.getElem?_map, hj]; rfl
  rw [getElem?_take] at h2
  split at h2
  ·exact h2
  ·cases h2
 have hr := Lib.run_unsafeString_row (P := P) (w := w) pt it ty e hp hc1 q.b q.z hsh l hne (by omega) (by omega) hcell
 rw [hll] at hr
 have hnn : ((n.toNat : Nat) : Int) = n := by omega
 rw [hnn] at hr
 refine ⟨_, hr, hi.step (q0 := none) (Lib.below_freeze hi.bel (by
  obtain ⟨q', cur, vs, i, g1, g2, _⟩ := bn7 hi hrow
  rw [hq] at g1; cases g1; exact g2) _) _ (Ext.refl _) (fun x hx => hi.dom x (by simpa using hx)) fun b x hx hlx => ?_⟩
 rcases a58 hx with ⟨rfl, rfl⟩ | ⟨hne, h2⟩
 ·cases hlx
 ·refine .inl ⟨h2, fun p hp => by1 fun e => hne ?_⟩
  exact hi.inj b a x _ p q h2 hrow hlx rfl hp hq e
section
variable (hev : ∀ x y, ev x = some y → VR σ y (ρ x)) (hi : Inv P w0 σ h w)
include hev hi
theorem bF9 {o : Oper} {t : TypeId} {x : Operand} {l : List UInt8} (ho : o.op = .range t x) (hu : P.underlying t = some .string) (hx : ev x = some (.s l)) : Lt P w0 w σ (execOp ρ o) (.p h.length 0) (h ++ [.it l 0]) := by
 have q1 := hev _ _ hx
 generalize e1 : ρ x = v1 at q1
 cases q1
 refine ⟨_, .pointer (some ⟨w.heap.size, 0, none⟩), b37 σ h.length ⟨w.heap.size, 0, 0⟩, w.alloc (.stringIter ⟨l.toArray⟩ 0), ?_, .inl rfl, au7 (hi.dom _ (le_refl _)), hi.alloc rfl ⟨_, ao6 _ _ _, hi.bel.size, heap_alloc_new w _⟩, .p (ao6 _ _ _)⟩
 simp [execOp, ho, e1, Instr.range, run_underlying hu]
theorem bT4 {o : Oper} {x : Operand} {a pos : Nat} {l : List UInt8} {y : LV} {h' : Hp} (ho : o.op = .next x true) (hx : ev x = some (.p a 0)) (ha : h[a]? = some (.it l pos))
  (hs : (match l[pos]? with | none => some (LV.tup [.b false], h) | some b => if b.toNat < 128 then some (.tup [.b true, .i .i64 pos, .i .i32 b.toNat], h.set a (.it l (pos + 1))) else none) = some (y, h')) : Lt P w0 w σ (execOp ρ o) y h' := by
 obtain ⟨q, hq, hv⟩ := (hev _ _ hx).p_inv
 obtain ⟨q', g1, g2, g3⟩ := hi.ob a _ ha
 rw [hq] at g1; cases g1
 have hsz : (ByteArray.mk l.toArray).size = l.length := by simp [ByteArray.size]
 have hget : (getObj q.b).run P w = .ok (.stringIter ⟨l.toArray⟩ pos) w := by simp [getObj, Sem.run, g3]
 split at hs
 ·rename_i hn
  simp only [oI, pJ] at hs
  obtain ⟨rfl, rfl⟩ := hs
  have hge : ¬ pos < l.length := by
   have := List.getElem?_eq_none_iff.1 hn
   omega
  refine ⟨_, .tuple #[.bool false], σ, w, ?_, .inl rfl, Ext.refl _, hi, .tup (.cons (.b _) .nil)⟩
  simp [execOp, ho, hv, Instr.next, hget, hsz, hge]
 ·rename_i b hb
  split at hs
  ·rename_i h128
   simp only [oI, pJ] at hs
   obtain ⟨rfl, rfl⟩ := hs
   obtain ⟨hlt, rfl⟩ := gS.1 hb
   have hdec : Utf8.decode ⟨l.toArray⟩ pos = (l[pos].toNat, 1) := by
    have hg : (ByteArray.mk l.toArray).get! pos = l[pos] := by
     simp [ByteArray.get!, hlt]
    simp [Utf8.decode, hg, h128]
   have hset : (setObj q.b (.stringIter ⟨l.toArray⟩ (pos + 1))).run P w = .ok () { w with heap := w.heap.setIfInBounds q.b (.stringIter ⟨l.toArray⟩ (pos + 1)) } := by
    simp [setObj, Sem.run, g3]
   have hother : ∀ k, k ≠ q.b → ({ w with heap := w.heap.setIfInBounds q.b (.stringIter ⟨l.toArray⟩ (pos + 1)) } : World).heap[k]? = w.heap[k]? := by
    intro k hk
    simp [Array.getElem?_setIfInBounds, Ne.symm hk]
   have hself : ({ w with heap := w.heap.setIfInBounds q.b (.stringIter ⟨l.toArray⟩ (pos + 1)) } : World).heap[q.b]? = some (.stringIter ⟨l.toArray⟩ (pos + 1)) := by
    have := br5 g3
    simp [Array.getElem?_setIfInBounds, this]
   have hbel : Below w0.heap.size w0 { w with heap := w.heap.setIfInBounds q.b (.stringIter ⟨l.toArray⟩ (pos + 1)) } :=
    ⟨hi.bel.os, hi.bel.tape, hi.bel.output, by simpa using hi.bel.size, fun k hk => by rw [hother k (by omega)]; exact hi.bel.block k hk⟩
   refine ⟨_, .tuple #[.bool true, .int .i64 pos, .int .i32 l[pos].toNat], σ, _, ?_, .inl rfl, Ext.refl _, hi.setOb hbel ha rfl hq hother ⟨q, hq, g2, hself⟩, .tup (.cons (.b _) (.cons (.i _ _) (.cons (.i _ _) .nil)))⟩
   simp [execOp, ho, hv, Instr.next, hget, hsz, hlt, hdec, hset, goInt]
  ·cases hs
theorem ce1 {o : Oper} {y : LV} {h' : Hp} (hs : rl P h ev o.op = some (y, h')) : Lt P w0 w σ (execOp ρ o) y h' := by
 unfold rl at hs
 split at hs
 ·rename_i t ho
  simp only [oM, pJ] at hs
  obtain ⟨z, hz, rfl, rfl⟩ := hs
  exact bF7 hi ho hz
 ·rename_i t x ho
  simp only [oE] at hs
  obtain ⟨i, h1, v, h2, h3⟩ := hs
  split at h3
  ·rename_i hc
   simp only [oI, pJ] at h3
   obtain ⟨rfl, rfl⟩ := h3
   exact b48 hev hi ho h1 h2 hc
  ·cases h3
 ·rename_i t len parts ho
  split at hs
  ·rename_i e hu
   simp only [oE] at hs
   obtain ⟨sh, h1, z, h2, h3⟩ := hs
   split at h3
   ·rename_i hc
    obtain ⟨c1, c2, c3, c4⟩ := hc
    simp only [oE] at h3
    obtain ⟨ps, h4, cs, h5, h6⟩ := h3
    split at h6
    ·rename_i hc2
     simp only [oI, pJ] at h6
     obtain ⟨rfl, rfl⟩ := h6
     exact a92 hev hi ho hu h1 h2 c1 c2 c3 c4 (by simpa only [bind_eq_bind, bind] using h4) h5 hc2
    ·cases h6
   ·cases h3
  ·cases hs
 ·rename_i t x z ho
  split at hs
  ·rename_i e hu
   simp only [oE] at hs
   obtain ⟨sh, h1, i, h2, z', h3, h4⟩ := hs
   split at h4
   ·rename_i k a k' b hx hy
    split at h4
    ·rename_i hc
     obtain ⟨c1, c2, c3, c4, c5, c6⟩ := hc
     simp only [oI, pJ] at h4
     obtain ⟨rfl, rfl⟩ := h4
     exact bf9 hev hi ho hu h1 h2 h3 hx hy c1 c2 c3 c4 c5 c6
    ·cases h4
   ·cases h4
  ·cases hs
 ·rename_i t x z ho
  split at hs
  ·rename_i a off v sh hx hy hsh
   split at hs
   ·rename_i e cs ha
    split at hs
    ·rename_i hc
     simp only [oI, pJ] at hs
     obtain ⟨rfl, rfl⟩ := hs
     exact bF8 hev hi ho hx hy hsh ha hc.1 hc.2.1 hc.2.2
    ·cases hs
   ·cases hs
  ·cases hs
 ·rename_i t x ho
  split at hs
  ·rename_i l hu hx
   simp only [oI, pJ] at hs
   obtain ⟨rfl, rfl⟩ := hs
   exact bF9 hev hi ho hu hx
  ·cases hs
 ·rename_i x ho
  split at hs
  ·rename_i a hx
   split at hs
   ·rename_i l pos ha
    exact bT4 hev hi ho hx ha hs
   ·cases hs
  ·cases hs
 ·rename_i c ho
  split at hs
  ·rename_i hcl
   split at hs
   ·rename_i t tx x z hts hargs
    simp only [oE] at hs
    obtain ⟨a, h1, b, h2, h3⟩ := hs
    obtain ⟨v, σ', w', g1, g2, g3, g4⟩ := bT2 hi (ty := o.type) (hev _ _ h1) (hev _ _ h2) h3
    refine ⟨_, v, σ', w', ?_, .inl rfl, g2, g3, g4⟩
    have ha : c.args = #[x, z] := by apply Array.ext'; simpa using hargs
    have ht : c.argTypes = #[t, tx] := by apply Array.ext'; simpa using hts
    simp [execOp, ho, resolve, hcl, invoke, builtin, ha, ht, g1]
   ·cases hs
  ·rename_i hcl
   split at hs
   ·rename_i pt it x z hts hargs
    have ha : c.args = #[x, z] := by apply Array.ext'; simpa using hargs
    have ht : c.argTypes = #[pt, it] := by apply Array.ext'; simpa using hts
    split at hs
    ·rename_i e a n hp hx hy
     split at hs
     ·rename_i e' cs hrow
      split at hs
      ·rename_i hc
       obtain ⟨rfl, c1, c2, c3, c4⟩ := hc
       simp only [oM, pJ] at hs
       obtain ⟨l, hl, rfl, rfl⟩ := hs
       have q2 := hev _ _ hy
       generalize e2 : ρ z = v2 at q2
       cases q2
       obtain ⟨w', g1, g2⟩ := bT3 hi (ty := o.type) (it := it) hp (hev _ _ hx) hrow c1 c2 c3 c4 hl
       refine ⟨_, _, σ, w', ?_, .inl rfl, Ext.refl _, g2, .s l⟩
       simp [execOp, ho, resolve, hcl, invoke, builtin, ha, ht, e2, g1]
      ·cases hs
     ·cases hs
    ·rename_i e hp hx hy
     simp only [oI, pJ] at hs
     obtain ⟨rfl, rfl⟩ := hs
     have q1 := hev _ _ hx
     have q2 := hev _ _ hy
     generalize e1 : ρ x = v1 at q1
     generalize e2 : ρ z = v2 at q2
     cases q1; cases q2
     refine ⟨_, _, σ, w, ?_, .inl rfl, Ext.refl _, hi, .s []⟩
     have g1 := Lib.run_unsafeString_none (P := P) (w := w) pt it o.type none
     simp [execOp, ho, resolve, hcl, invoke, builtin, ha, ht, e1, e2, g1]
     rfl
    ·cases hs
   ·cases hs
  ·cases hs
 ·cases hs
end
end Go.Gr
namespace Go.Gr
set_option linter.unusedVariables false
set_option linter.unusedSimpArgs false
open Go.Vm (aa9 ad9 ad7 ak0 ah1 ag2 Shape.size aw7)
open Go.RowKit (Below)
structure RS where
 tm : List LV
 df : List (FuncId × List LV)
 h : Hp
abbrev Get := Nat → Option LV
def evG (get : Get) : Operand → Option LV
 | .tmp t => get t
 | .const v => bn3 v
 | .func f => some (.fn f [])
 | .global _ => none
def gdL (ops : Array Oper) (get : Get) (o : Oper) : Option Bool := match o.guard with
 | none => some true
 | some (j, want) => ((ops[j]?).bind (·.dst)).bind fun t => match get t with
  | some (.b x) => some (x == want)
  | some (.tup []) => some false
  | _ => none
def bt6 (tm : List LV) : Option Nat → LV → List LV
 | none, _ => tm
 | some d, x => tm.set d x
abbrev aI5 := FuncId → List LV → Hp → Option (LV × Hp)
def bG0 (get : Get) (c : Call) : Option (FuncId × List LV) := match c.callee with
 | .value f => match evG get f with
  | some (.fn f caps) => (c.args.toList.mapM (evG get)).map fun as => (f, as ++ caps)
  | _ => none
 | _ => none
def cj8 (get : Get) (c : Call) : Option (FuncId × List LV) := match c.callee, c.args.toList with
 | .value f, [] => match evG get f with
  | some (.fn f caps) => some (f, caps)
  | _ => none
 | _, _ => none
def roV (P : Program) (call : aI5) (get : Get) (h : Hp) (o : Op) : Option (LV × Hp) := match rq P h (evG get) o with
 | some x => some (x, h)
 | none => match rl P h (evG get) o with
  | some y => some y
  | none => match o with
   | .call c => (bG0 get c).bind fun q => call q.1 q.2 h
   | _ => none
def ro (P : Program) (ops : Array Oper) (call : aI5) (o : Oper) (s : RS) : Option RS := match gdL ops (fun t => s.tm[t]?) o with
 | none => none
 | some false => some ⟨bt6 s.tm o.dst (.tup []), s.df, s.h⟩
 | some true => match o.op with
  | .defer c => (cj8 (fun t => s.tm[t]?) c).map fun q => ⟨bt6 s.tm o.dst (.tup []), q :: s.df, s.h⟩
  | op => (roV P call (fun t => s.tm[t]?) s.h op).map fun y => ⟨bt6 s.tm o.dst y.1, s.df, y.2⟩
inductive DfR (σ : Mp) : List (FuncId × List LV) → List Deferred → Prop
 | nil : DfR σ [] []
 | cons {f : FuncId} {cs : List LV} {cap : Array Value} {l : List (FuncId × List LV)} {ds : List Deferred} (h : VRs σ cs cap.toList) (r : DfR σ l ds) : DfR σ ((f, cs) :: l) ({ target := .fn (.func f) cap, args := #[] } :: ds)
theorem DfR.mono {σ σ' : Mp} (he : Ext σ σ') {l : List (FuncId × List LV)} {ds : List Deferred} (h : DfR σ l ds) : DfR σ' l ds := by
 induction h with
 | nil => exact .nil
 | cons h r ih => exact .cons (h.mono he) ih
structure SR (P : Program) (w0 : World) (σ : Mp) (s : RS) (a : Act) (w : World) : Prop where
 tm : VRs σ s.tm a.tmps.toList
 df : DfR σ s.df a.defers
 inv : Inv P w0 σ s.h w
variable {P : Program} {w0 w : World} {σ : Mp}
def GR (σ : Mp) (get : Get) (a : Act) : Prop := ∀ t x, get t = some x → ∃ v, a.tmps[t]? = some v ∧ VR σ x v
theorem GR.mono {σ' : Mp} {get : Get} {a : Act} (h : GR σ get a) (he : Ext σ σ') : GR σ' get a := fun t x hx => let ⟨v, h1, h2⟩ := h t x hx; ⟨v, h1, h2.mono he⟩
theorem GR.of {tm : List LV} {a : Act} (h : VRs σ tm a.tmps.toList) : GR σ (fun t => tm[t]?) a := fun s x hx => by
 obtain ⟨v, h1, h2⟩ := h.get s x hx
 exact ⟨v, by simpa using h1, h2⟩
theorem aR9 {get : Get} {a : Act} (h : GR σ get a) : ∀ x y, evG get x = some y → VR σ y (a.eval x) := by
 intro x y hx
 cases x with
 | tmp t =>
  obtain ⟨v, h1, h2⟩ := h t y hx
  show VR σ y (a.tmps.getD t undef)
  simp only [Array.getD_eq_getD_getElem?, h1, Option.getD_some]; exact h2
 | const v => exact bn5 hx
 | func f => simp only [evG, oI] at hx; subst hx; exact .fn f .nil
 | global g => cases hx
theorem aS0 {ops : Array Oper} {get : Get} {a : Act} {o : Oper} {b : Bool} (h : GR σ get a) (hg : gdL ops get o = some b) : Region.wanted o (yielded ops a.tmps) = b := by
 unfold gdL at hg
 unfold Region.wanted
 split at hg
 ·rename_i h1
  rw [h1]
  simpa using hg
 ·rename_i j want h1
  rw [h1]
  simp only [oE] at hg
  obtain ⟨t, ht, hg⟩ := hg
  simp only
  unfold yielded
  have ht' : (ops[j]?).bind (·.dst) = some t := by simpa [oE] using ht
  rw [ht']
  simp only [oB]
  split at hg
  ·rename_i x hx
   obtain ⟨v, h2, h3⟩ := h t _ hx
   cases h3
   rw [h2]
   simp only [oI] at hg
   rw [← hg]
   cases x <;> cases want <;> rfl
  ·rename_i hx
   obtain ⟨v, h2, h3⟩ := h t _ hx
   cases h3
   rw [h2]
   simp only [oI] at hg
   rw [← hg]
   rfl
  ·cases hg
theorem bg2 {tm : List LV} {a : Act} (h : VRs σ tm a.tmps.toList) {x : LV} {v : Value} (hx : VR σ x v) (d : Option Nat) : VRs σ (bt6 tm d x) (a.put d v).tmps.toList := by
 cases d with
 | none => exact h
 | some d => simp only [bt6, Act.put, Array.toList_setIfInBounds]; exact h.set hx
theorem aF5 (a : Act) (d : Option Nat) (v : Value) : (a.put d v).defers = a.defers := by cases d <;> rfl
def aW4 (P : Program) (w0 : World) (call : aI5) : Prop := ∀ f args h x h', call f args h = some (x, h') → ∀ σ w (vs : Array Value), Inv P w0 σ h w → VRs σ args vs.toList →
 ((callFunc f vs).run P w = .ok (.enter f vs) w ∧ Calls P f vs w fun e w' => ∃ v σ', e = .returned v ∧ Ext σ σ' ∧ Inv P w0 σ' h' w' ∧ VR σ' x v) ∨
 ∃ v σ' w', (callFunc f vs).run P w = .ok (.value v) w' ∧ Ext σ σ' ∧ Inv P w0 σ' h' w' ∧ VR σ' x v
theorem bT5 {get : Get} {a : Act} (h : GR σ get a) {o : Oper} {c : Call} (ho : o.op = .call c) {f : FuncId} {args : List LV} (hc : bG0 get c = some (f, args)) : ∃ vs : Array Value, VRs σ args vs.toList ∧ execOp a.eval o = callFunc f vs := by
 unfold bG0 at hc
 split at hc
 ·rename_i fo hcl
  split at hc
  ·rename_i f' caps hf
   simp only [oM, pJ] at hc
   obtain ⟨as, h1, rfl, rfl⟩ := hc
   have h2 := bF4 (aR9 h) h1
   have h3 := aR9 h _ _ hf
   generalize hv : a.eval fo = v at h3
   cases h3 with
   | @fn _ _ cv h3 =>
    refine ⟨c.args.map a.eval ++ cv, by simpa using h2.append h3, ?_⟩
    have hcap : (c.args.map a.eval ++ cv) = (#[] ++ c.args.map a.eval) ++ cv := by simp
    rw [hcap]
    simp only [execOp, ho, resolve, hcl, hv, Deferred.ofValue]
    rfl
  ·cases hc
 ·cases hc
theorem by2 {call : aI5} (hcall : aW4 P w0 call) {get : Get} {h : Hp} {a : Act} (hg : GR σ get a) (hinv : Inv P w0 σ h w) {o : Oper} {x : LV} {h' : Hp} (hs : roV P call get h o.op = some (x, h')) {K : Act → World → Prop} {Q : Exit → Act → World → Prop}
  (hK : ∀ v σ' w', Ext σ σ' → Inv P w0 σ' h' w' → VR σ' x v → K (a.put o.dst v) w') : o.wp P a w K Q := by
 unfold roV at hs
 unfold Oper.wp
 split at hs
 ·rename_i y hq
  simp only [oI, pJ] at hs
  obtain ⟨rfl, rfl⟩ := hs
  obtain ⟨v, h1, h2⟩ := bL5 (aR9 hg) hinv hq
  rw [h1]
  exact hK v σ w (Ext.refl _) hinv h2
 ·split at hs
  ·rename_i y hl
   simp only [oI] at hs; subst hs
   obtain ⟨n, v, σ', w', h1, h2, h3, h4, h5⟩ := ce1 (aR9 hg) hinv hl
   rw [h1]
   rcases h2 with rfl | ⟨rfl, rfl⟩
   ·exact hK v σ' w' h3 h4 h5
   ·exact hK _ σ' w' h3 h4 h5
  ·split at hs
   ·rename_i c ho
    simp only [oE] at hs
    obtain ⟨⟨f, args⟩, h1, h2⟩ := hs
    obtain ⟨vs, h3, h4⟩ := bT5 hg ho h1
    rw [h4]
    rcases hcall f args h x h' h2 σ w vs hinv h3 with ⟨h5, h6⟩ | ⟨v, σ', w', h5, h6, h7, h8⟩
    ·rw [h5, Oper.upon_enter]
     refine h6.mono ?_
     rintro e w' ⟨v, σ', rfl, g1, g2, g3⟩
     exact hK v σ' w' g1 g2 g3
    ·rw [h5]
     exact hK v σ' w' h6 h7 h8
   ·cases hs
theorem ce2 {ops : Array Oper} {call : aI5} (hcall : aW4 P w0 call) {s s' : RS} {a : Act} (hr : SR P w0 σ s a w) {i : Nat} {o : Oper} (hi : ops[i]? = some o) (hs : ro P ops call o s = some s') {K : Act → World → Prop} {Q : Exit → Act → World → Prop}
  (hK : ∀ σ' a' w', Ext σ σ' → SR P w0 σ' s' a' w' → K a' w') : wpOp P ops Q i K a w := by
 unfold wpOp
 simp only [hi]
 unfold ro at hs
 split at hs
 ·cases hs
 ·rename_i hg
  simp only [oI] at hs; subst hs
  rw [aS0 (GR.of hr.tm) hg]
  exact hK σ _ w (Ext.refl _) ⟨bg2 hr.tm (.undef σ) _, by rw [aF5]; exact hr.df, hr.inv⟩
 ·rename_i hg
  rw [aS0 (GR.of hr.tm) hg]
  simp only [if_true]
  refine .inl ?_
  split at hs
  ·rename_i c ho
   simp only [oM] at hs
   obtain ⟨⟨f, caps⟩, h1, rfl⟩ := hs
   unfold cj8 at h1
   split at h1
   ·rename_i fo hcl hargs
    split at h1
    ·rename_i f' caps' hf
     simp only [oI, pJ] at h1
     obtain ⟨rfl, rfl⟩ := h1
     have h3 := aR9 (GR.of hr.tm) _ _ hf
     generalize hv : a.eval fo = v at h3
     cases h3 with
     | @fn _ _ cv h3 =>
      have ha : c.args = #[] := by apply Array.ext'; simpa using hargs
      have hrun : (execOp a.eval o).run P w = .ok (.defer { target := .fn (.func f') cv, args := #[] }) w := by
       simp [execOp, ho, resolve, hcl, hv, Deferred.ofValue, ha]
      unfold Oper.wp
      rw [hrun]
      exact hK σ _ w (Ext.refl _) ⟨bg2 (a := { a with defers := _ :: a.defers }) hr.tm (.undef σ) _, by rw [aF5]; exact .cons h3 hr.df, hr.inv⟩
    ·cases h1
   ·cases h1
  ·simp only [oM] at hs
   obtain ⟨⟨x, h'⟩, h1, rfl⟩ := hs
   exact by2 hcall (GR.of hr.tm) hr.inv h1 fun v σ' w' g1 g2 g3 => hK σ' _ w' g1 ⟨bg2 (hr.tm.mono g1) g3 _, by rw [aF5]; exact hr.df.mono g1, g2⟩
end Go.Gr
namespace Go.Gr
set_option linter.unusedVariables false
set_option linter.unusedSimpArgs false
open Go.Vm (lastIn af1 aG6 aq3 aA3 undone aG7 aI8 ax9)
open Go.RowKit (Below)
mutual
def LV.beq : LV → LV → Bool
 | .b x, .b y => x == y
 | .i k n, .i k' m => decide (k = k') && decide (n = m)
 | .s u, .s v => decide (u = v)
 | .p0, .p0 => true
 | .p a o, .p a' o' => Nat.beq a a' && Nat.beq o o'
 | .l0, .l0 => true
 | .l a o n c, .l a' o' n' c' => Nat.beq a a' && (Nat.beq o o' && (Nat.beq n n' && Nat.beq c c'))
 | .fn f cs, .fn f' cs' => Nat.beq f f' && LV.beqs cs cs'
 | .f0, .f0 => true
 | .n0, .n0 => true
 | .agg cs, .agg cs' => LV.beqs cs cs'
 | .tup cs, .tup cs' => LV.beqs cs cs'
 | _, _ => false
def LV.beqs : List LV → List LV → Bool
 | [], [] => true
 | u :: r, v :: q => LV.beq u v && LV.beqs r q
 | _, _ => false
end
mutual
theorem LV.beq_eq : ∀ {u v : LV}, LV.beq u v = true → u = v
 | .b x, v, h => by cases v <;> simp_all [LV.beq]
 | .i k n, v, h => by cases v <;> simp_all [LV.beq]
 | .s u, v, h => by cases v <;> simp_all [LV.beq]
 | .p0, v, h => by cases v <;> simp_all [LV.beq]
 | .p a o, v, h => by
  cases v <;> simp only [LV.beq, false_eq_true, bA] at h
  rw [eq_of_beq_eq_true h.1, eq_of_beq_eq_true h.2]
 | .l0, v, h => by cases v <;> simp_all [LV.beq]
 | .l a o n c, v, h => by
  cases v <;> simp only [LV.beq, false_eq_true, bA] at h
  rw [eq_of_beq_eq_true h.1, eq_of_beq_eq_true h.2.1, eq_of_beq_eq_true h.2.2.1, eq_of_beq_eq_true h.2.2.2]
 | .fn f cs, v, h => by
  cases v <;> simp only [LV.beq, false_eq_true, bA] at h
  rw [eq_of_beq_eq_true h.1, LV.beqs_eq h.2]
 | .f0, v, h => by cases v <;> simp_all [LV.beq]
 | .n0, v, h => by cases v <;> simp_all [LV.beq]
 | .agg cs, v, h => by
  cases v <;> simp only [LV.beq, false_eq_true] at h
  rw [LV.beqs_eq h]
 | .tup cs, v, h => by
  cases v <;> simp only [LV.beq, false_eq_true] at h
  rw [LV.beqs_eq h]
theorem LV.beqs_eq : ∀ {u v : List LV}, LV.beqs u v = true → u = v
 | [], v, h => by cases v <;> simp_all [LV.beqs]
 | x :: r, v, h => by
  cases v <;> simp only [LV.beqs, false_eq_true, bA] at h
  rw [LV.beq_eq h.1, LV.beqs_eq h.2]
end
def bo0 (sl : List Nat) (get : Get) : Get := fun t => match sl.contains t with
 | true => get t
 | false => none
theorem bT6 {sl : List Nat} {g g' : Get} (h : ∀ t ∈ sl, g t = g' t) : bo0 sl g = bo0 sl g' := by
 funext t
 unfold bo0
 cases hc : sl.contains t with
 | true => exact h t (by simpa using hc)
 | false => rfl
theorem GR.restrict {σ : Mp} {g : Get} {a : Act} (h : GR σ g a) (sl : List Nat) : GR σ (bo0 sl g) a := fun t x hx => by
 unfold bo0 at hx
 split at hx
 ·exact h t x hx
 ·cases hx
def qvD (P : Program) (ops : Array Oper) (get : Get) (o : Oper) (h : Hp) : Option LV := match gdL ops get o with
 | none => none
 | some false => some (.tup [])
 | some true => rq P h (evG get) o.op
def lvD (P : Program) (ops : Array Oper) (call : aI5) (get : Get) (o : Oper) (h : Hp) : Option (LV × Hp) := match gdL ops get o with
 | some true => roV P call get h o.op
 | _ => none
structure Ev where
 x : LV
 ld : Bool
 sl : List Nat
 tm : List LV
 hb : Hp
 ha : Hp
def a61 (ops : Array Oper) (o : Oper) : List Nat := (o.op.operands.toList.filterMap fun x => match x with | .tmp t => some t | _ => none) ++ (match o.guard with
 | none => []
 | some (j, _) => ((ops[j]?).bind (·.dst)).toList)
def ce3 (P : Program) (ops : Array Oper) (call : aI5) : List Oper → List LV → Hp → Option (List Ev × List LV × Hp)
 | [], tm, h => some ([], tm, h)
 | o :: r, tm, h => match qvD P ops (bo0 (a61 ops o) fun t => tm[t]?) o h with
  | some x => (ce3 P ops call r (bt6 tm o.dst x) h).map fun y => (⟨x, false, a61 ops o, tm, h, h⟩ :: y.1, y.2)
  | none => (lvD P ops call (bo0 (a61 ops o) fun t => tm[t]?) o h).bind fun z => (ce3 P ops call r (bt6 tm o.dst z.1) z.2).map fun y => (⟨z.1, true, a61 ops o, tm, h, z.2⟩ :: y.1, y.2)
def bi6 (ops : Array Oper) (evs : List Ev) (tm : List LV) (D : Nat → Bool) (n : Nat) : Get := fun s =>
 match lastIn D (fun j => if ((ops[j]?).bind (·.dst)) = some s then (evs[j]?).map (·.x) else none) n with
 | some x => if s < tm.length then some x else none
 | none => tm[s]?
def hpE (evs : List Ev) (h : Hp) (D : Nat → Bool) (n : Nat) : Hp :=
 match lastIn D (fun j => (evs[j]?).bind fun e => match e.ld with | true => some e.ha | false => none) n with
 | some x => x
 | none => h
theorem ce4 (tm : List LV) (d : Option Nat) (x : LV) (s : Nat) : (bt6 tm d x)[s]? = if d = some s ∧ s < tm.length then some x else tm[s]? := by
 cases d with
 | none => simp [bt6]
 | some d =>
  simp only [bt6, List.getElem?_set, oI]
  by_cases e : d = s
  ·subst e
   by_cases hl : d < tm.length
   ·simp [hl]
   ·simp [hl]
  ·simp [e]
theorem bG1 (tm : List LV) (d : Option Nat) (x : LV) : (bt6 tm d x).length = tm.length := by cases d <;> simp [bt6]
theorem cp2 {P : Program} {ops : Array Oper} {call : aI5} {tm tm' : List LV} {h h' : Hp} {evs : List Ev} (hr : ce3 P ops call ops.toList tm h = some (evs, tm', h')) :
  (∀ i o, ops[i]? = some o → ∃ e, evs[i]? = some e ∧ (fun t => e.tm[t]?) = bi6 ops evs tm (fun _ => true) i ∧ e.hb = hpE evs h (fun _ => true) i ∧
   (e.ld = false → qvD P ops (bo0 e.sl fun t => e.tm[t]?) o e.hb = some e.x) ∧ (e.ld = true → lvD P ops call (bo0 e.sl fun t => e.tm[t]?) o e.hb = some (e.x, e.ha))) ∧
  (fun t => tm'[t]?) = bi6 ops evs tm (fun _ => true) ops.size ∧ h' = hpE evs h (fun _ => true) ops.size ∧ evs.length = ops.size ∧ tm'.length = tm.length := by
 have key : ∀ (rest : List Oper) (i : Nat) (tm1 : List LV) (h1 : Hp) (evs1 : List Ev) (pre : List Oper) (epre : List Ev), ce3 P ops call rest tm1 h1 = some (evs1, tm', h') → pre.length = i → epre.length = i → pre ++ rest = ops.toList → epre ++ evs1 = evs →
   tm1.length = tm.length → (fun t => tm1[t]?) = bi6 ops evs tm (fun _ => true) i → h1 = hpE evs h (fun _ => true) i →
   (∀ k o, i ≤ k → ops[k]? = some o → ∃ e, evs[k]? = some e ∧ (fun t => e.tm[t]?) = bi6 ops evs tm (fun _ => true) k ∧ e.hb = hpE evs h (fun _ => true) k ∧
    (e.ld = false → qvD P ops (bo0 e.sl fun t => e.tm[t]?) o e.hb = some e.x) ∧ (e.ld = true → lvD P ops call (bo0 e.sl fun t => e.tm[t]?) o e.hb = some (e.x, e.ha))) ∧
   (fun t => tm'[t]?) = bi6 ops evs tm (fun _ => true) ops.size ∧ h' = hpE evs h (fun _ => true) ops.size ∧ evs.length = ops.size ∧ tm'.length = tm.length := by
  intro rest
  induction rest with
  | nil =>
   intro i tm1 h1 evs1 pre epre hr q1 q2 q3 q4 q5 q6 q7
   simp only [ce3, oI, pJ] at hr
   obtain ⟨rfl, rfl, rfl⟩ := hr
   simp only [List.append_nil] at q3 q4
   have hn : ops.size = i := by rw [← q1, q3]; simp
   refine ⟨fun k o hk ho => ?_, by rw [q6, hn], by rw [q7, hn], by rw [← q4, q2, hn], q5⟩
   have := (gA.1 ho).1
   omega
  | cons o rest ih =>
   intro i tm1 h1 evs1 pre epre hr q1 q2 q3 q4 q5 q6 q7
   have e1 : ops[i]? = some o := by
    have : ops.toList[i]? = some o := by rw [← q3, List.getElem?_append_right (by omega), q1]; simp
    simpa using this
   have step : ∀ (e : Ev) (evs2 : List Ev), ce3 P ops call rest (bt6 tm1 o.dst e.x) e.ha = some (evs2, tm', h') → evs1 = e :: evs2 → e.tm = tm1 → e.hb = h1 → (e.ld = false → e.ha = h1) →
     (e.ld = false → qvD P ops (bo0 e.sl fun t => e.tm[t]?) o e.hb = some e.x) → (e.ld = true → lvD P ops call (bo0 e.sl fun t => e.tm[t]?) o e.hb = some (e.x, e.ha)) →
     (∀ k o, i ≤ k → ops[k]? = some o → ∃ e, evs[k]? = some e ∧ (fun t => e.tm[t]?) = bi6 ops evs tm (fun _ => true) k ∧ e.hb = hpE evs h (fun _ => true) k ∧
      (e.ld = false → qvD P ops (bo0 e.sl fun t => e.tm[t]?) o e.hb = some e.x) ∧ (e.ld = true → lvD P ops call (bo0 e.sl fun t => e.tm[t]?) o e.hb = some (e.x, e.ha))) ∧
     (fun t => tm'[t]?) = bi6 ops evs tm (fun _ => true) ops.size ∧ h' = hpE evs h (fun _ => true) ops.size ∧ evs.length = ops.size ∧ tm'.length = tm.length := by
    intro e evs2 hr2 he htm hhb hq hqv hlv
    subst he
    have e2 : evs[i]? = some e := by rw [← q4, List.getElem?_append_right (by omega), q2]; simp
    have g1 : (fun t => (bt6 tm1 o.dst e.x)[t]?) = bi6 ops evs tm (fun _ => true) (i + 1) := by
     funext s
     rw [ce4, q5]
     have := congrFun q6 s
     rw [show tm1[s]? = bi6 ops evs tm (fun _ => true) i s from this]
     simp only [bi6, lastIn, e1, e2, if_true, oB, map_some]
     by_cases hd : o.dst = some s
     ·simp only [hd, if_true, true_and]
      by_cases hl : s < tm.length
      ·simp [hl]
      ·simp only [hl, if_false]
       split
       ·rfl
       ·simp only [List.getElem?_eq_none_iff]; omega
     ·simp [hd]
    have g2 : e.ha = hpE evs h (fun _ => true) (i + 1) := by
     simp only [hpE, lastIn, e2, if_true, oB]
     cases hl : e.ld with
     | true => rfl
     | false => simp only; rw [hq hl, q7]; rfl
    obtain ⟨i1, i2⟩ := ih (i + 1) (bt6 tm1 o.dst e.x) e.ha evs2 (pre ++ [o]) (epre ++ [e]) hr2 (by simp [q1]) (by simp [q2]) (by simp [q3]) (by simp [q4]) (by rw [bG1]; exact q5) g1 g2
    refine ⟨fun k o' hk ho' => ?_, i2⟩
    by_cases hki : k = i
    ·subst hki
     rw [e1] at ho'; cases ho'
     exact ⟨e, e2, by rw [htm]; exact q6, by rw [hhb]; exact q7, hqv, hlv⟩
    ·exact i1 k o' (by omega) ho'
   simp only [ce3] at hr
   split at hr
   ·rename_i x hx
    simp only [oM, pJ] at hr
    obtain ⟨⟨evs2, tm2, h2⟩, hr2, hevs, hth⟩ := hr
    cases hth
    exact step ⟨x, false, a61 ops o, tm1, h1, h1⟩ evs2 hr2 hevs.symm rfl rfl (fun _ => rfl) (fun _ => hx) (fun h => by cases h)
   ·rename_i hn
    simp only [oE, oM, pJ] at hr
    obtain ⟨z, hz, ⟨evs2, tm2, h2⟩, hr2, hevs, hth⟩ := hr
    cases hth
    exact step ⟨z.1, true, a61 ops o, tm1, h1, z.2⟩ evs2 hr2 hevs.symm rfl rfl (fun h => by cases h) (fun h => by cases h) (fun _ => hz)
 have := key ops.toList 0 tm h evs [] [] hr rfl rfl rfl rfl rfl (by funext s; rfl) rfl
 exact ⟨fun i o ho => this.1 i o (zero_le _) ho, this.2⟩
end Go.Gr
namespace Go.Gr
set_option linter.unusedVariables false
set_option linter.unusedSimpArgs false
open Go.Vm (lastIn af1 aG6 aq3 aA3 undone aG7 aI8 ax9)
open Go.RowKit (Below)
def b93 (l : List Nat) (x : Nat) : Bool := l.any (Nat.beq x)
theorem a18 {l : List Nat} {x : Nat} : b93 l x = true ↔ x ∈ l := by
 simp only [b93, any_eq_true]
 constructor
 ·rintro ⟨y, h1, h2⟩; rw [eq_of_beq_eq_true h2]; exact h1
 ·intro h; exact ⟨x, h, Nat.beq_refl x⟩
def cj9 (bf : List (List Nat)) (i j : Nat) : Bool := b93 (bf.getD i []) j || b93 (bf.getD j []) i
def addN (l : List Nat) (x : Nat) : List Nat := match b93 l x with
 | true => l
 | false => x :: l
def b50 (acc : List (List Nat)) : List Oper → List (List Nat)
 | [] => acc
 | o :: r => b50 (acc ++ [o.after.toList.foldl (fun l e => match Region.binds .any e with
  | true => (e.on :: acc.getD e.on []).foldl addN l
  | false => l) []]) r
def befC (ops : Array Oper) (bf : List (List Nat)) : Bool :=
 (List.range ops.size).all fun i => match ops[i]? with
  | some o => (o.after.toList.all fun e => !Region.binds .any e || Nat.blt e.on i) &&
   (bf.getD i []).all fun j => Nat.blt j i && o.after.toList.any fun e => Region.binds .any e && (Nat.beq e.on j || b93 (bf.getD e.on []) j)
  | none => false
def tmpC (ops : Array Oper) (bf : List (List Nat)) (evs : List Ev) : Bool :=
 (List.range ops.size).all fun j => match (ops[j]?).bind (·.dst) with
  | none => true
  | some d => (List.range ops.size).all fun i => Nat.beq i j || ((match evs[i]? with
   | some e => !(b93 e.sl d) || cj9 bf i j
   | none => false) && (match (ops[i]?).bind (·.dst) with
   | some d' => !(Nat.beq d' d)
   | none => true))
def bT7 (evs : List Ev) (j : Nat) : Bool := match evs[j]? with
 | some e => e.ld
 | none => false
def ck1 (n : Nat) (bf : List (List Nat)) (evs : List Ev) : Bool :=
 (List.range n).all fun j => !(bT7 evs j) || (List.range n).all fun i => Nat.beq i j || (!(bT7 evs i) || cj9 bf i j)
def ce5 (P : Program) (ops : Array Oper) (o : Oper) (e : Ev) (h : Hp) : Bool := match qvD P ops (bo0 e.sl fun t => e.tm[t]?) o h with
 | some x => LV.beq x e.x
 | none => false
def ck4 (P : Program) (ops : Array Oper) (bf : List (List Nat)) (evs : List Ev) (h : Hp) : Bool :=
 (List.range ops.size).all fun i => match ops[i]?, evs[i]? with
  | some o, some e => e.ld || (((List.range ops.size).any (fun j => bT7 evs j && b93 (bf.getD i []) j) || ce5 P ops o e h) &&
   (List.range ops.size).all fun j => match evs[j]? with
    | some f => !f.ld || (b93 (bf.getD j []) i || ((List.range ops.size).any (fun k => bT7 evs k && (b93 (bf.getD i []) k && Nat.blt j k)) || ce5 P ops o e f.ha))
    | none => true)
  | _, _ => false
def cv7 (P : Program) (ops : Array Oper) (call : aI5) (s : RS) : Option RS :=
 (ce3 P ops call ops.toList s.tm s.h).bind fun y => match befC ops (b50 [] ops.toList) && (tmpC ops (b50 [] ops.toList) y.1 && (ck1 ops.size (b50 [] ops.toList) y.1 && ck4 P ops (b50 [] ops.toList) y.1 s.h)) with
  | true => some ⟨y.2.1, s.df, y.2.2⟩
  | false => none
theorem bg3 {α : Type} {D : Nat → Bool} {f : Nat → Option α} : ∀ {n : Nat} {x : α}, lastIn D f n = some x → ∃ j, j < n ∧ D j = true ∧ f j = some x ∧ ∀ k, j < k → k < n → D k = true → f k = none
 | 0, x, h => by cases h
 | n + 1, x, h => by
  simp only [lastIn] at h
  split at h
  ·rename_i y hy
   simp only [oI] at h; subst h
   split at hy
   ·rename_i hd; exact ⟨n, by omega, hd, hy, fun k h1 h2 => by omega⟩
   ·cases hy
  ·rename_i hn
   obtain ⟨j, h1, h2, h3, h4⟩ := bg3 h
   refine ⟨j, by omega, h2, h3, fun k h5 h6 h7 => ?_⟩
   by_cases hk : k = n
   ·subst hk
    rw [iP h7] at hn; exact hn
   ·exact h4 k h5 (by omega) h7
theorem bg4 {α : Type} {D : Nat → Bool} {f : Nat → Option α} : ∀ {n : Nat}, lastIn D f n = none → ∀ j, j < n → D j = true → f j = none
 | n + 1, h, j, hj, hd => by
  simp only [lastIn] at h
  split at h
  ·cases h
  ·rename_i hn
   by_cases hk : j = n
   ·subst hk
    rw [iP hd] at hn; exact hn
   ·exact bg4 h j (by omega) hd
theorem ck5 {σ : Mp} : ∀ {tm : List LV} {vs : List Value}, tm.length = vs.length → (∀ (t : Nat) (x : LV), tm[t]? = some x → ∃ v, vs[t]? = some v ∧ VR σ x v) → VRs σ tm vs
 | [], [], _, _ => .nil
 | x :: tm, v :: vs, hl, h => by
  obtain ⟨v', h1, h2⟩ := h 0 x rfl
  simp at h1; subst h1
  exact .cons h2 (ck5 (by simpa using hl) fun t y hy => by simpa using h (t + 1) y (by simpa using hy))
 | [], _ :: _, hl, _ => by simp at hl
 | _ :: _, [], hl, _ => by simp at hl
section
variable {P : Program} {w0 : World} {ops : Array Oper} {call : aI5} {Q : Exit → Act → World → Prop}
theorem bT8 (hcall : aW4 P w0 call) {tm tm' : List LV} {df : List (FuncId × List LV)} {h h' : Hp} {evs : List Ev} {bf : List (List Nat)} (hr : ce3 P ops call ops.toList tm h = some (evs, tm', h')) (hb : befC ops bf = true) (ht : tmpC ops bf evs = true) (hc : ck1 ops.size bf evs = true) (hq : ck4 P ops bf evs h = true)
  {σ0 : Mp} (hQ : ∀ σ a w, Ext σ0 σ → SR P w0 σ ⟨tm', df, h'⟩ a w → Q .normal a w) :
  ∀ (fuel : Nat) (listed : Array Bool) (a : Act) (w : World) (σ : Mp), Ext σ0 σ → listed.size = ops.size → GR σ (bi6 ops evs tm (fun j => listed.getD j false) ops.size) a → a.tmps.size = tm.length → DfR σ df a.defers → Inv P w0 σ (hpE evs h (fun j => listed.getD j false) ops.size) w →
   (∀ i o, ops[i]? = some o → listed.getD i false = true → ∀ e ∈ o.after, Region.binds .any e = true → listed.getD e.on false = true) →
   undone (fun j => listed.getD j false) ops.size ≤ fuel → wpAny P .any ops Q fuel listed a w := by
 obtain ⟨hat, htl, hhl, hel, htn⟩ := cp2 hr
 have hbef : ∀ (i : Nat) (o : Oper), ops[i]? = some o → (∀ e ∈ o.after, Region.binds .any e = true → e.on < i) ∧ ∀ j, j ∈ bf.getD i [] → j < i ∧ ∃ e ∈ o.after, Region.binds .any e = true ∧ (e.on = j ∨ j ∈ bf.getD e.on []) := by
  intro i o ho
  have hi := (gA.1 ho).1
  have h1 := (all_eq_true.1 hb) i (mem_range.2 hi)
  rw [ho] at h1
  simp only [bA, all_eq_true, or_eq_true, Bool.not_eq_true', any_eq_true, blt_eq] at h1
  refine ⟨fun e he hbi => ?_, fun j hj => ?_⟩
  ·rcases h1.1 e (by simpa using he) with h | h
   ·rw [hbi] at h; cases h
   ·exact h
  ·obtain ⟨h2, e, he, h3, h4⟩ := h1.2 j hj
   refine ⟨h2, e, by simpa using he, h3, ?_⟩
   rcases h4 with h4 | h4
   ·exact .inl (eq_of_beq_eq_true h4)
   ·exact .inr (a18.1 h4)
 have hord0 : ∀ i j, cj9 bf i j = true → j ∈ bf.getD i [] ∨ i ∈ bf.getD j [] := by
  intro i j hij
  simp only [cj9, or_eq_true, a18] at hij
  exact hij
 have htm : ∀ (i j : Nat) (e : Ev) (d : Nat), i < ops.size → j < ops.size → evs[i]? = some e → i ≠ j → (ops[j]?).bind (·.dst) = some d → (d ∈ e.sl → cj9 bf i j = true) ∧ (ops[i]?).bind (·.dst) ≠ some d := by
  intro i j e d hi hj he hij hd
  have h1 := (all_eq_true.1 ht) j (mem_range.2 hj)
  rw [hd] at h1
  have h2 := (all_eq_true.1 h1) i (mem_range.2 hi)
  rw [he] at h2
  simp only [or_eq_true, bA, Bool.not_eq_true'] at h2
  rcases h2 with h2 | ⟨h2, h3⟩
  ·exact absurd (eq_of_beq_eq_true h2) hij
  ·refine ⟨fun hm => ?_, fun hdi => ?_⟩
   ·rcases h2 with h2 | h2
    ·rw [a18.2 hm] at h2; cases h2
    ·exact h2
   ·rw [hdi] at h3
    simp at h3
 have hch : ∀ i j, i < ops.size → j < ops.size → i ≠ j → bT7 evs i = true → bT7 evs j = true → cj9 bf i j = true := by
  intro i j hi hj hij h1 h2
  have h3 := (all_eq_true.1 hc) j (mem_range.2 hj)
  rw [h2] at h3
  simp only [Bool.not_true, Bool.false_or] at h3
  have h4 := (all_eq_true.1 h3) i (mem_range.2 hi)
  rw [h1] at h4
  simp only [Bool.not_true, Bool.false_or, or_eq_true] at h4
  rcases h4 with h4 | h4
  ·exact absurd (eq_of_beq_eq_true h4) hij
  ·exact h4
 intro fuel
 have hend : ∀ (listed : Array Bool) (a : Act) (w : World) (σ : Mp), Ext σ0 σ → GR σ (bi6 ops evs tm (fun j => listed.getD j false) ops.size) a → a.tmps.size = tm.length → DfR σ df a.defers → Inv P w0 σ (hpE evs h (fun j => listed.getD j false) ops.size) w →
   (∀ j, j < ops.size → listed.getD j false = true) → Q .normal a w := by
  intro listed a w σ he hg hsz hdf hinv hall
  have e1 : bi6 ops evs tm (fun j => listed.getD j false) ops.size = bi6 ops evs tm (fun _ => true) ops.size := by
   funext s; simp only [bi6]; rw [af1 (D' := fun _ => true) fun j hj _ => hall j hj]
  have e2 : hpE evs h (fun j => listed.getD j false) ops.size = hpE evs h (fun _ => true) ops.size := by
   simp only [hpE]; rw [af1 (D' := fun _ => true) fun j hj _ => hall j hj]
  rw [e1, ← htl] at hg
  rw [e2, ← hhl] at hinv
  exact hQ σ a w he ⟨ck5 (by simp [htn, hsz]) fun t x hx => by obtain ⟨v, h1, h2⟩ := hg t x hx; exact ⟨v, by simpa using h1, h2⟩, hdf, hinv⟩
 induction fuel with
 | zero =>
  intro listed a w σ he hsz hg hts hdf hinv hcl hun
  have hall := aG7 (Nat.le_zero.1 hun)
  have hready : Region.ready .any ops listed = [] := by
   apply List.eq_nil_iff_forall_not_mem.2
   intro i hi
   obtain ⟨h1, o, ho, _⟩ := mem_ready.1 hi
   have hlt' := (gA.1 ho).1
   have h2 := hall i (by omega)
   have hls : i < listed.size := by omega
   simp [hls] at h1 h2
   rw [h1] at h2; cases h2
  exact ⟨hready, hend listed a w σ he hg hts hdf hinv hall⟩
 | succ fuel ih =>
  intro listed a w σ he hsz hg hts hdf hinv hcl hun
  have hclb : ∀ (i : Nat), i < ops.size → listed.getD i false = true → ∀ j, j ∈ bf.getD i [] → listed.getD j false = true := by
   intro i
   induction i using Nat.strongRecOn with
   | _ i ihi =>
    intro hi hd j hj
    have ho : ops[i]? = some ops[i] := Array.getElem?_eq_getElem hi
    obtain ⟨hlt1, hb2⟩ := hbef i _ ho
    obtain ⟨_, e, hee, hbi, hor⟩ := hb2 j hj
    have hde := hcl i _ ho hd e hee hbi
    rcases hor with rfl | hxj
    ·exact hde
    ·exact ihi e.on (hlt1 e hee hbi) (by have := hlt1 e hee hbi; omega) hde j hxj
  have hclr : ∀ (i : Nat) (o : Oper), ops[i]? = some o → (∀ e ∈ o.after, Region.binds .any e = true → listed.getD e.on false = true) → ∀ j, j ∈ bf.getD i [] → listed.getD j false = true := by
   intro i o ho hpre j hj
   obtain ⟨hlt1, hb2⟩ := hbef i o ho
   obtain ⟨_, e, hee, hbi, hor⟩ := hb2 j hj
   have hde := hpre e hee hbi
   rcases hor with rfl | hxj
   ·exact hde
   ·exact hclb e.on (by have := hlt1 e hee hbi; have := (gA.1 ho).1; omega) hde j hxj
  refine ⟨fun hnil => ?_, fun i hi => ?_⟩
  ·have hall : ∀ j, j < ops.size → listed.getD j false = true := by
    intro j
    induction j using Nat.strongRecOn with
    | _ j ihj =>
     intro hj
     cases hd : listed.getD j false with
     | true => rfl
     | false =>
      have ho : ops[j]? = some ops[j] := Array.getElem?_eq_getElem hj
      have : j ∈ Region.ready .any ops listed := mem_ready.2 ⟨by
       have hls : j < listed.size := by omega
       simp [hls] at hd ⊢
       exact hd, _, ho, fun e hee hbi => ihj e.on ((hbef j _ ho).1 e hee hbi) (by have := (hbef j _ ho).1 e hee hbi; omega)⟩
      rw [hnil] at this; cases this
   exact hend listed a w σ he hg hts hdf hinv hall
  ·obtain ⟨hiu, o, ho, hpre⟩ := mem_ready.1 hi
   have hio := (gA.1 ho).1
   have hDi : listed.getD i false = false := by
    have hls : i < listed.size := by omega
    simp [hls] at hiu ⊢; exact hiu
   obtain ⟨e, hev1, hetm, hehb, heq, hel2⟩ := hat i o ho
   have hord : ∀ j, j ≠ i → j < ops.size → cj9 bf i j = true → (listed.getD j false = true ↔ j < i) := by
    intro j hji hj hor
    rcases hord0 i j hor with hor | hor
    ·have h1 := hclr i o ho hpre j hor
     have h2 := ((hbef i o ho).2 j hor).1
     exact ⟨fun _ => h2, fun _ => h1⟩
    ·have hjo : ops[j]? = some ops[j] := Array.getElem?_eq_getElem hj
     have h2 := ((hbef j _ hjo).2 i hor).1
     refine ⟨fun h1 => ?_, fun h1 => by omega⟩
     have := hclb j hj h1 i hor
     rw [hDi] at this; cases this
   have hlastEq : ∀ {β : Type} (f : Nat → Option β), (∀ j, j < ops.size → j ≠ i → (f j).isSome = true → cj9 bf i j = true) → lastIn (fun _ => true) f i = lastIn (fun j => listed.getD j false) f ops.size := by
    intro β f hf
    rw [← aG6 i (Nat.le_of_lt hio)]
    refine af1 fun j hj hsome => ?_
    by_cases hji : j = i
    ·subst hji; simp [hDi]
    ·have := hord j hji hj (hf j hj hji hsome)
     cases hdone : listed.getD j false with
     | true => simp [this.1 hdone]
     | false =>
      have : ¬ j < i := fun h => by have := this.2 h; rw [hdone] at this; cases this
      simp [this]
   have hgetEq : bo0 e.sl (fun t => e.tm[t]?) = bo0 e.sl (bi6 ops evs tm (fun j => listed.getD j false) ops.size) := by
    refine bT6 fun s hs => ?_
    rw [show e.tm[s]? = bi6 ops evs tm (fun _ => true) i s from congrFun hetm s]
    simp only [bi6]
    rw [hlastEq]
    intro j hj hji hsome
    split at hsome
    ·rename_i hdj
     exact (htm i j e s hio hj hev1 (Ne.symm hji) hdj).1 hs
    ·cases hsome
   have hgr := hg.restrict e.sl
   rw [← hgetEq] at hgr
   have hset : ∀ j, (listed.setIfInBounds i true).getD j false = (listed.getD j false || decide (j = i)) := by
    intro j
    by_cases hji : j = i
    ·subst hji
     have hls : j < listed.size := by omega
     simp [hls]
    ·rw [getD_set_ne false (Ne.symm hji)]; simp [hji]
   have hfun : (fun j => (listed.setIfInBounds i true).getD j false) = (fun j => listed.getD j false || decide (j = i)) := funext hset
   have next : ∀ (σ' : Mp) (v : Value) (w' : World), Ext σ σ' → VR σ' e.x v → Inv P w0 σ' (hpE evs h (fun j => listed.getD j false || decide (j = i)) ops.size) w' → wpAny P .any ops Q fuel (listed.setIfInBounds i true) (a.put o.dst v) w' := by
    intro σ' v w' he' hx hinv'
    refine ih (listed.setIfInBounds i true) (a.put o.dst v) w' σ' (he.trans he') (by simpa using hsz) ?_ (by rw [← hts]; cases o.dst <;> simp [Act.put]) (by rw [aF5]; exact hdf.mono he') (by rw [hfun]; exact hinv') (fun j oj hoj hdj e' hee' hbi => ?_) ?_
    ·rw [hfun]
     intro t x hx'
     have hput : bi6 ops evs tm (fun j => listed.getD j false || decide (j = i)) ops.size t = if o.dst = some t ∧ t < tm.length then some e.x else bi6 ops evs tm (fun j => listed.getD j false) ops.size t := by
      simp only [bi6]
      by_cases hds : o.dst = some t
      ·rw [aq3 hDi hio]
       ·simp only [ho, hev1, hds, oB, if_true, map_some, true_and]
        by_cases hl : t < tm.length
        ·simp [hl]
        ·simp only [hl, if_false]
         split
         ·rfl
         ·exact (List.getElem?_eq_none_iff.2 (by omega)).symm
       ·intro j hj1 hj2 hdj
        have hj3 : (ops[j]?).bind (·.dst) ≠ some t := by
         obtain ⟨ej, hevj, _⟩ := hat j _ (Array.getElem?_eq_getElem hj2)
         exact (htm j i ej t hj2 hio hevj (by omega) (by simp [ho, hds])).2
        simp [hj3]
      ·rw [aA3 (by simp [ho, hds])]
       simp [hds]
     rw [hput] at hx'
     split at hx'
     ·rename_i hc2
      simp only [oI] at hx'; subst hx'
      refine ⟨v, ?_, hx⟩
      simp only [hc2.1, Act.put]
      have hlt := hc2.2
      rw [Array.getElem?_setIfInBounds, iP rfl, iP (by omega)]
     ·rename_i hc2
      obtain ⟨u, h1, h2⟩ := hg t x hx'
      refine ⟨u, ?_, h2.mono he'⟩
      cases hd : o.dst with
      | none => simpa [Act.put] using h1
      | some d =>
       simp only [Act.put]
       rw [Array.getElem?_setIfInBounds]
       by_cases hdt : d = t
       ·subst hdt
        have hlt : d < a.tmps.size := (gA.1 h1).1
        exact absurd ⟨hd, by rw [← hts]; exact hlt⟩ hc2
       ·rw [iN hdt]; exact h1
    ·rw [hset] at hdj
     simp only [or_eq_true, dT] at hdj
     refine getD_set_true ?_
     rcases hdj with hdj | rfl
     ·exact hcl j oj hoj hdj e' hee' hbi
     ·rw [ho] at hoj
      simp only [oI] at hoj; subst hoj
      exact hpre e' hee' hbi
    ·rw [hfun]
     have := ax9 (D := fun j => listed.getD j false) hDi hio
     omega
   cases hld : e.ld with
   | false =>
    have hhp : hpE evs h (fun j => listed.getD j false || decide (j = i)) ops.size = hpE evs h (fun j => listed.getD j false) ops.size := by
     simp only [hpE]
     rw [aA3 (by simp [hev1, hld])]
    have hx : qvD P ops (bo0 e.sl fun t => e.tm[t]?) o (hpE evs h (fun j => listed.getD j false) ops.size) = some e.x := by
     have h1 := (all_eq_true.1 hq) i (mem_range.2 hio)
     rw [ho, hev1] at h1
     simp only [hld, Bool.false_or, bA] at h1
     obtain ⟨q1, q2⟩ := h1
     have sx : ∀ hh, ce5 P ops o e hh = true → qvD P ops (bo0 e.sl fun t => e.tm[t]?) o hh = some e.x := by
      intro hh h3
      unfold ce5 at h3
      split at h3
      ·rename_i y hy
       rw [hy, LV.beq_eq h3]
      ·cases h3
     have noBefore : ∀ k, k < ops.size → bT7 evs k = true → k ∈ bf.getD i [] → listed.getD k false = true := fun k _ _ hk => hclr i o ho hpre k hk
     have ldf : ∀ k, bT7 evs k = true → ∃ f, evs[k]? = some f ∧ f.ld = true := by
      intro k hk
      unfold bT7 at hk
      split at hk
      ·rename_i f hf; exact ⟨f, hf, hk⟩
      ·cases hk
     unfold hpE
     split
     ·rename_i hh hlast
      obtain ⟨j, hj, hdj, hfj, hno⟩ := bg3 hlast
      simp only [oE] at hfj
      obtain ⟨f, hf, hfl⟩ := hfj
      split at hfl
      ·rename_i hfld
       simp only [oI] at hfl; subst hfl
       have h4 := (all_eq_true.1 q2) j (mem_range.2 hj)
       rw [hf] at h4
       simp only [hfld, Bool.not_true, Bool.false_or, or_eq_true, a18, any_eq_true, bA, blt_eq] at h4
       rcases h4 with h4 | h4 | h4
       ·have := hclb j hj hdj i h4
        rw [hDi] at this; cases this
       ·obtain ⟨k, hk, hkl, hkb, hjk⟩ := h4
        have hk' := mem_range.1 hk
        have hdk := noBefore k hk' hkl hkb
        have hnk := hno k hjk hk' hdk
        obtain ⟨g, hg1, hg2⟩ := ldf k hkl
        simp [hg1, hg2] at hnk
       ·exact sx _ h4
      ·cases hfl
     ·rename_i hlast
      simp only [or_eq_true, any_eq_true, bA, a18] at q1
      rcases q1 with ⟨k, hk, hkl, hkb⟩ | q1
      ·have hk' := mem_range.1 hk
       have hdk := noBefore k hk' hkl hkb
       have hnk := bg4 hlast k hk' hdk
       obtain ⟨g, hg1, hg2⟩ := ldf k hkl
       simp [hg1, hg2] at hnk
      ·exact sx _ q1
    unfold qvD at hx
    unfold wpOp
    simp only [ho]
    split at hx
    ·cases hx
    ·rename_i hgd
     simp only [oI] at hx
     rw [aS0 hgr hgd]
     simp only [false_eq_true, if_false]
     refine next σ _ w (Ext.refl _) (by rw [← hx]; exact VR.undef σ) (by rw [hhp]; exact hinv)
    ·rename_i hgd
     rw [aS0 hgr hgd]
     simp only [if_true]
     refine .inl ?_
     obtain ⟨v, h1, h2⟩ := bL5 (aR9 hgr) hinv hx
     unfold Oper.wp
     rw [h1]
     exact next σ v w (Ext.refl _) h2 (by rw [hhp]; exact hinv)
   | true =>
    have hl := hel2 hld
    have hhpi : e.hb = hpE evs h (fun j => listed.getD j false) ops.size := by
     rw [hehb]
     simp only [hpE]
     rw [hlastEq]
     intro j hj hji hsome
     refine hch i j hio hj (Ne.symm hji) (by simp [bT7, hev1, hld]) ?_
     unfold bT7
     cases hf : evs[j]? with
     | none => simp [hf] at hsome
     | some f =>
      simp only [hf, oB] at hsome
      cases hfl : f.ld with
      | true => simp [hfl]
      | false => simp [hfl] at hsome
    have hhp : hpE evs h (fun j => listed.getD j false || decide (j = i)) ops.size = e.ha := by
     simp only [hpE]
     rw [aq3 hDi hio]
     ·simp [hev1, hld]
     ·intro j hj1 hj2 hdj
      cases hf : evs[j]? with
      | none => simp
      | some f =>
       cases hfl : f.ld with
       | false => simp [hfl]
       | true =>
        exfalso
        have hor := hch i j hio hj2 (by omega) (by simp [bT7, hev1, hld]) (by simp [bT7, hf, hfl])
        have := (hord j (by omega) hj2 hor).1 hdj
        omega
    rw [hhpi] at hl
    unfold lvD at hl
    unfold wpOp
    simp only [ho]
    split at hl
    ·rename_i hgd
     rw [aS0 hgr hgd]
     simp only [if_true]
     refine .inl ?_
     exact by2 hcall hgr hinv hl fun v σ' w' g1 g2 g3 => next σ' v w' g1 g3 (by rw [hhp]; exact g2)
    ·cases hl
end
end Go.Gr
namespace Go.Gr
set_option linter.unusedVariables false
set_option linter.unusedSimpArgs false
open Go.Vm (aa9 ad9 ad7 ak0 ah1 ag2 Shape.size aw7 aJ0)
open Go.RowKit (Below)
inductive Ex where
 | n
 | e (id : Nat)
 | r
def cv8 (P : Program) (ops : Array Oper) (call : aI5) : List Oper → RS → Option RS
 | [], s => some s
 | o :: r, s => (ro P ops call o s).bind (cv8 P ops call r)
def ce6 (f : RS → Option (Ex × RS)) : Nat → RS → Option (Ex × RS)
 | 0, _ => none
 | m + 1, s => (f s).bind fun y => match y.1 with
  | .n => ce6 f m y.2
  | _ => some y
def rc (P : Program) (call : aI5) : Code → RS → Option (Ex × RS)
 | .skip, s => some (.n, s)
 | .exit i, s => some (.e i, s)
 | .ret, s => some (.r, s)
 | .seq a b, s => (rc P call a s).bind fun y => match y.1 with
  | .n => rc P call b y.2
  | _ => some y
 | .cond o x y, s => match evG (fun t => s.tm[t]?) o with
  | some (.b true) => rc P call x s
  | some (.b false) => rc P call y s
  | _ => none
 | .block id x, s => (rc P call x s).map fun y => match y.1 with
  | .e i => match Nat.beq i id with
   | true => (.n, y.2)
   | false => y
  | _ => y
 | .loop x, s => ce6 (rc P call x) 1000 s
 | .region _ ops draw, s => match draw with
  | true => (cv7 P ops call s).map fun s' => (.n, s')
  | false => (cv8 P ops call ops.toList s).map fun s' => (.n, s')
 | _, _ => none
def fnL (P : Program) (f : FuncId) : Option (Func × Code) := match P.funcs[f]? with
 | some fn => match fn.body with
  | some c => match fn.name == "runtime.NumGoroutine" with
   | true => none
   | false => some (fn, c)
  | none => none
 | none => none
def cv9 (P : Program) (h : Hp) (t : TypeId) : LV → Option LV
 | .p a o => match h[a]? with
  | some (.row _ cs) => (aa9 P t).bind fun sh => bk1 sh cs o
  | _ => none
 | _ => none
def bL6 (P : Program) (get : Get) (h : Hp) : ResultVar → Option LV
 | .tmp t => get t
 | .cell a t => (get a).bind (cv9 P h t)
def cw0 (l : List LV) : LV := match l with
 | [x] => x
 | l => .tup l
def resL (P : Program) (fn : Func) (get : Get) (h : Hp) : Option LV := (fn.results.toList.mapM (bL6 P get h)).map cw0
def tm0 (fn : Func) (args : List LV) : List LV := args ++ replicate (fn.ntmps - args.length) (.tup [])
def recB : Code → Option (Array Oper × Nat × Nat × Code)
 | .seq (.region _ ops false) rest => match ops.toList with
  | [o0, o1] => match o0.op, o0.guard, o0.dst, o1.op, o1.guard, o1.dst with
   | .call c, none, some d0, .assign (.tmp t), none, some d1 => match c.callee, c.args.toList with
    | .builtin .recover, [] => match Nat.beq t d0 with
     | true => some (ops, d0, d1, rest)
     | false => none
    | _, _ => none
   | _, _, _, _, _, _ => none
  | _ => none
 | _ => none
def b51 (P : Program) (call : aI5) (f : FuncId) (caps : List LV) (h : Hp) : Option Hp := (fnL P f).bind fun q => (recB q.2).bind fun b =>
 match Nat.blt b.2.1 (tm0 q.1 caps).length && q.1.results.toList.isEmpty with
 | true => (rc P call b.2.2.2 ⟨((tm0 q.1 caps).set b.2.1 .n0).set b.2.2.1 .n0, [], h⟩).bind fun y => match y.1, y.2.df with
  | .n, [] => some y.2.h
  | .r, [] => some y.2.h
  | _, _ => none
 | false => none
def rend (P : Program) (call : aI5) (fn : Func) (s : RS) : Option (LV × Hp) := match s.df with
 | [] => (resL P fn (fun t => s.tm[t]?) s.h).map fun x => (x, s.h)
 | [(f, caps)] => (b51 P call f caps s.h).bind fun h => (resL P fn (fun t => s.tm[t]?) h).map fun x => (x, h)
 | _ => none
def cp3 (P : Program) (call : aI5) : aI5 := fun f args h => (fnL P f).bind fun q => (rc P call q.2 ⟨tm0 q.1 args, [], h⟩).bind fun y => match y.1 with
 | .e _ => none
 | _ => rend P call q.1 y.2
abbrev TabL := FuncId → Option (List LV → Option LV)
def rfun (P : Program) (tab : TabL) (ids : List FuncId) : Nat → aI5
 | 0 => fun _ _ _ => none
 | n + 1 => fun f args h => match tab f with
  | some g => (g args).map fun x => (x, h)
  | none => match ids.any (Nat.beq f), args with
   | true, [x] => some (x, h)
   | true, _ => none
   | false, _ => cp3 P (rfun P tab ids n) f args h
variable {P : Program} {w0 : World}
theorem SR.drew {σ : Mp} {s : RS} {a : Act} {w : World} (h : SR P w0 σ s a w) : SR P w0 σ s a w.drew := ⟨h.tm, h.df, h.inv.drew⟩
theorem bo1 {ops : Array Oper} {call : aI5} (hcall : aW4 P w0 call) {Q : Exit → Act → World → Prop} : ∀ {rest : List Oper} {i : Nat} {s s' : RS} {σ : Mp} {a : Act} {w : World}, cv8 P ops call rest s = some s' → (∀ k, rest[k]? = ops.toList[i + k]?) → i + rest.length = ops.size → SR P w0 σ s a w →
  (∀ σ' a' w', Ext σ σ' → SR P w0 σ' s' a' w' → Q .normal a' w') → wpOps P ops Q (range' i rest.length) a w
 | [], i, s, s', σ, a, w, hs, hk, hl, hr, hQ => by
  simp only [cv8, oI] at hs; subst hs
  exact hQ σ a w (Ext.refl _) hr
 | o :: rest, i, s, s', σ, a, w, hs, hk, hl, hr, hQ => by
  simp only [cv8, oE] at hs
  obtain ⟨s1, h1, h2⟩ := hs
  have ho : ops[i]? = some o := by have := hk 0; simpa using this.symm
  rw [List.length_cons, List.range'_succ, wpOps_cons]
  refine ce2 hcall hr ho h1 fun σ' a' w' he hr' => ?_
  refine bo1 hcall h2 (fun k => ?_) (by simp at hl; omega) hr' fun σ2 a2 w2 he2 hr2 => hQ σ2 a2 w2 (he.trans he2) hr2
  have := hk (k + 1)
  simp only [List.getElem?_cons_succ] at this
  rw [this]; congr 1; omega
def Post (P : Program) (w0 : World) (σ : Mp) (x : Ex × RS) : Exit → Act → World → Prop
 | .normal, a, w => x.1 = .n ∧ ∃ σ', Ext σ σ' ∧ SR P w0 σ' x.2 a w
 | .exit id, a, w => x.1 = .e id ∧ ∃ σ', Ext σ σ' ∧ SR P w0 σ' x.2 a w
 | .ret, a, w => x.1 = .r ∧ ∃ σ', Ext σ σ' ∧ SR P w0 σ' x.2 a w
 | _, _, _ => False
theorem Post.ext {σ σ' : Mp} (he : Ext σ σ') {x : Ex × RS} {e : Exit} {a : Act} {w : World} (h : Post P w0 σ' x e a w) : Post P w0 σ x e a w := by
 cases e with
 | normal => obtain ⟨h1, σ2, h2, h3⟩ := h; exact ⟨h1, σ2, he.trans h2, h3⟩
 | exit id => obtain ⟨h1, σ2, h2, h3⟩ := h; exact ⟨h1, σ2, he.trans h2, h3⟩
 | ret => obtain ⟨h1, σ2, h2, h3⟩ := h; exact ⟨h1, σ2, he.trans h2, h3⟩
 | _ => exact h.elim
theorem bg5 {x : Code} {f : RS → Option (Ex × RS)} (hf : ∀ (s : RS) (y : Ex × RS) (σ : Mp) (a : Act) (w : World), f s = some y → SR P w0 σ s a w → x.wp P (Post P w0 σ y) a w) : ∀ (m : Nat) (s : RS) (y : Ex × RS) (σ : Mp) (a : Act) (w : World), ce6 f m s = some y → SR P w0 σ s a w → Code.rounds P x (Post P w0 σ y) m a w
 | 0, s, y, σ, a, w, h, hr => by cases h
 | m + 1, s, y, σ, a, w, h, hr => by
  simp only [ce6, oE] at h
  obtain ⟨z, h1, h2⟩ := h
  rw [rounds_succ]
  refine Code.wp_mono (fun e a' w' hq => ?_) (hf s z σ a w h1 hr)
  split at h2
  ·rename_i hz
   cases e with
   | normal =>
    obtain ⟨q1, σ', q2, q3⟩ := hq
    have := bg5 hf m z.2 y σ' a' w' h2 q3
    show Code.rounds P x _ m a' w'
    have mono : ∀ (m : Nat) (a : Act) (w : World), Code.rounds P x (Post P w0 σ' y) m a w → Code.rounds P x (Post P w0 σ y) m a w := by
     intro m
     induction m with
     | zero => intro a w h; exact h
     | succ m ih =>
      intro a w h
      rw [rounds_succ] at h ⊢
      refine Code.wp_mono (fun e a w hq => ?_) h
      cases e with
      | normal => exact ih a w hq
      | exit i => exact Post.ext (e := .exit i) q2 hq
      | ret => exact Post.ext (e := .ret) q2 hq
      | _ => exact hq.elim
    exact mono m a' w' this
   | exit id => have q := hq.1; rw [hz] at q; cases q
   | ret => have q := hq.1; rw [hz] at q; cases q
   | _ => exact hq.elim
  ·rename_i hz
   simp only [oI] at h2; subst h2
   cases e with
   | normal => exact absurd hq.1 hz
   | exit id => exact hq
   | ret => exact hq
   | _ => exact hq.elim
theorem bL7 {call : aI5} (hcall : aW4 P w0 call) (hmix : P.follows .mixedOrders = true) : ∀ (c : Code) (s : RS) (y : Ex × RS) (σ : Mp) (a : Act) (w : World), rc P call c s = some y → SR P w0 σ s a w → c.wp P (Post P w0 σ y) a w := by
 intro c
 induction c with
 | skip => intro s y σ a w h hr; simp only [rc, oI] at h; subst h; exact wp_skip ⟨rfl, σ, Ext.refl _, hr⟩
 | exit i => intro s y σ a w h hr; simp only [rc, oI] at h; subst h; exact wp_exit ⟨rfl, σ, Ext.refl _, hr⟩
 | ret => intro s y σ a w h hr; simp only [rc, oI] at h; subst h; exact wp_ret ⟨rfl, σ, Ext.refl _, hr⟩
 | seq x z ihx ihz =>
  intro s y σ a w h hr
  simp only [rc, oE] at h
  obtain ⟨u, h1, h2⟩ := h
  refine wp_seq (Code.wp_mono (fun e a' w' hq => ?_) (ihx s u σ a w h1 hr))
  split at h2
  ·rename_i hu
   cases e with
   | normal =>
    obtain ⟨q1, σ', q2, q3⟩ := hq
    exact Code.wp_mono (fun e a w hq => Post.ext q2 hq) (ihz u.2 y σ' a' w' h2 q3)
   | exit id => have q := hq.1; rw [hu] at q; cases q
   | ret => have q := hq.1; rw [hu] at q; cases q
   | _ => exact hq.elim
  ·rename_i hu
   simp only [oI] at h2; subst h2
   cases e with
   | normal => exact absurd hq.1 hu
   | exit id => exact hq
   | ret => exact hq
   | _ => exact hq.elim
 | cond o x z ihx ihz =>
  intro s y σ a w h hr
  simp only [rc] at h
  split at h
  ·rename_i hb
   have := aR9 (GR.of hr.tm) _ _ hb
   generalize hv : a.eval o = v at this
   cases this
   exact wp_cond hv (ihx s y σ a w h hr)
  ·rename_i hb
   have := aR9 (GR.of hr.tm) _ _ hb
   generalize hv : a.eval o = v at this
   cases this
   exact wp_cond hv (ihz s y σ a w h hr)
  ·cases h
 | block id x ih =>
  intro s y σ a w h hr
  simp only [rc, oM] at h
  obtain ⟨u, h1, rfl⟩ := h
  refine wp_block (Code.wp_mono (fun e a' w' hq => ?_) (ih s u σ a w h1 hr))
  cases e with
  | normal => obtain ⟨q1, q2⟩ := hq; simp only [Exit.inBlock, q1]; exact ⟨q1, q2⟩
  | ret => obtain ⟨q1, q2⟩ := hq; simp only [Exit.inBlock, q1]; exact ⟨q1, q2⟩
  | exit i =>
   obtain ⟨q1, q2⟩ := hq
   simp only [Exit.inBlock, q1]
   by_cases hi : i = id
   ·subst hi
    rw [iP rfl, Nat.beq_refl]
    exact ⟨rfl, q2⟩
   ·have : Nat.beq i id = false := by cases hb : Nat.beq i id with | false => rfl | true => exact absurd (eq_of_beq_eq_true hb) hi
    rw [iN hi, this]
    exact ⟨q1, q2⟩
  | _ => exact hq.elim
 | loop x ih =>
  intro s y σ a w h hr
  exact wp_loop_rounds 1000 (bg5 (fun s y σ a w h1 h2 => ih s y σ a w h1 h2) 1000 s y σ a w h hr)
 | region id ops draw =>
  intro s y σ a w h hr
  simp only [rc] at h
  cases draw with
  | false =>
   simp only [oM] at h
   obtain ⟨s', h1, rfl⟩ := h
   refine wp_region ?_
   have hsz : List.range ops.size = range' 0 ops.toList.length := by rw [List.range_eq_range']; simp
   rw [hsz]
   exact bo1 hcall h1 (fun k => by simp) (by simp) hr fun σ' a' w' he hr' => ⟨rfl, σ', he, hr'⟩
  | true =>
   simp only [oM] at h
   obtain ⟨s', h1, rfl⟩ := h
   unfold cv7 at h1
   simp only [oE] at h1
   obtain ⟨⟨evs, tm', h'⟩, h2, h3⟩ := h1
   split at h3
   ·rename_i hc
    simp only [oI] at h3; subst h3
    simp only [bA] at hc
    obtain ⟨c1, c2, c3, c4⟩ := hc
    refine wp_region_any hmix ?_
    have hD : (fun j => (Array.replicate ops.size false).getD j false) = fun _ => false := by
     funext j
     simp only [Array.getD_eq_getD_getElem?, Array.getElem?_replicate]
     split <;> rfl
    have hnone : ∀ {α : Type} (f : Nat → Option α) (n : Nat), Vm.lastIn (fun _ => false) f n = none := by
     intro α f n
     induction n with
     | zero => rfl
     | succ n ih => simp [Vm.lastIn, ih]
    refine bT8 (tm := s.tm) (df := s.df) (h := s.h) (σ0 := σ) hcall h2 c1 c2 c3 c4 (fun σ' a' w' he hr' => ⟨rfl, σ', he, hr'⟩) ops.size _ a w.drew σ (Ext.refl _) (by simp) ?_ ?_ hr.df ?_ ?_ ?_
    ·rw [hD]
     intro t x hx
     simp only [bi6, hnone] at hx
     exact GR.of hr.tm t x hx
    ·have := hr.tm.length; simpa using this.symm
    ·rw [hD]
     simp only [hpE, hnone]
     exact hr.inv.drew
    ·intro i o ho hl
     rw [show (Array.replicate ops.size false).getD i false = false from congrFun hD i] at hl
     cases hl
    ·rw [hD]
     have : ∀ n, Vm.undone (fun _ => false) n = n := by
      intro n
      induction n with
      | zero => rfl
      | succ n ih => simp [Vm.undone, ih]; omega
     rw [this]; exact le_refl _
   ·cases h3
 | _ => intro s y σ a w h hr; cases h
end Go.Gr
namespace Go.Gr
set_option linter.unusedVariables false
set_option linter.unusedSimpArgs false
open Go.Vm (aa9 ad9 ad7 ak0 ah1 ag2 Shape.size aw7 aJ0 PV RepP RepPs CallOK GlobOK Prot Kept)
open Go.RowKit (Below)
variable {P : Program} {w0 w : World} {σ : Mp}
theorem br7 {f : FuncId} {fn : Func} {c : Code} (h : fnL P f = some (fn, c)) : P.funcs[f]? = some fn ∧ fn.body = some c ∧ (fn.name == "runtime.NumGoroutine") = false := by
 unfold fnL at h
 split at h
 ·rename_i g hg
  split at h
  ·rename_i c' hb
   split at h
   ·cases h
   ·rename_i hn
    simp only [oI, pJ] at h
    obtain ⟨rfl, rfl⟩ := h
    exact ⟨hg, hb, hn⟩
  ·cases h
 ·cases h
theorem a19 {f : FuncId} {q : Func × Code} (h : fnL P f = some q) (args : Array Value) (w : World) : (callFunc f args).run P w = .ok (.enter f args) w := by
 obtain ⟨h1, h2, h3⟩ := br7 (fn := q.1) (c := q.2) h
 exact Vm.enter_of h1 (by rw [h2]; rfl) h3 args w
theorem VRs.undefs (σ : Mp) : ∀ n, VRs σ (replicate n (.tup [])) (replicate n Go.undef)
 | 0 => .nil
 | n + 1 => .cons (.undef σ) (VRs.undefs σ n)
theorem b52 {fn : Func} {args : List LV} {vs : Array Value} (h : VRs σ args vs.toList) : VRs σ (tm0 fn args) (vs ++ Array.replicate (fn.ntmps - vs.size) undef).toList := by
 unfold tm0
 have e : args.length = vs.size := by simpa using h.length
 rw [e, Array.toList_append, Array.toList_replicate]
 exact h.append (VRs.undefs σ _)
theorem bT9 {get : Get} {a : Act} {h : Hp} (hg : GR σ get a) (hi : Inv P w0 σ h w) {x : ResultVar} {y : LV} (hx : bL6 P get h x = some y) : ∃ v, (aJ0 a.tmps x).run P w = .ok v w ∧ VR σ y v := by
 cases x with
 | tmp t =>
  obtain ⟨v, h1, h2⟩ := hg t y hx
  refine ⟨v, ?_, h2⟩
  simp [aJ0, Array.getD_eq_getD_getElem?, h1]
 | cell t ty =>
  simp only [bL6, oE] at hx
  obtain ⟨p, hp, hx⟩ := hx
  obtain ⟨v, h1, h2⟩ := hg t p hp
  unfold cv9 at hx
  split at hx
  ·rename_i b o
   split at hx
   ·rename_i e cs hb
    simp only [oE] at hx
    obtain ⟨sh, hsh, hx⟩ := hx
    cases h2 with
    | @p _ _ q hq =>
    obtain ⟨vs, cur, g1, g2, g3, g4, g5⟩ := aC4 hi hb hq
    obtain ⟨r1, r2⟩ := aN8 g1 hx
    refine ⟨_, ?_, r1⟩
    have hrun := ah1 (P := P) (w := w) hsh (g := q.b) (o := o) (us := (vs.drop o).take sh.size) (by simp; omega) fun j v hjv => g5 _ _ (Vm.drop_take_get hjv)
    simp [aJ0, Array.getD_eq_getD_getElem?, h1, asAddr, hrun]
   ·cases hx
  ·cases hx
theorem bg6 {fn : Func} {tmps : Array Value} {vs : List Value} (h1 : (fn.results.toList.mapM (aJ0 tmps)).run P w = .ok vs w) : (results fn tmps).run P w = .ok (if h : vs.toArray.size = 1 then vs.toArray[0] else .tuple vs.toArray) w := by
 have h3 : (results fn tmps).run P w = (((fn.results.toList.mapM (aJ0 tmps)).run P w).andThen fun vs w' => .ok (if h : vs.toArray.size = 1 then vs.toArray[0] else .tuple vs.toArray) w') := by
  have e : (fun x => match x with | .tmp t => pure (tmps.getD t undef) | .cell a' t => do loadVar t (← asAddr (tmps.getD a' undef)) : ResultVar → Sem Value) = aJ0 tmps := by
   funext x; cases x <;> rfl
  unfold results
  rw [Array.mapM_eq_mapM_toList]
  simp only [rB, Sem.run_map, Sem.run_pure]
  rw [← e]
  generalize (List.mapM _ fn.results.toList : Sem (List Value)).run P w = r
  cases r <;> rfl
 rw [h3, h1, aO]
theorem bL8 {fn : Func} {get : Get} {a : Act} {h : Hp} (hg : GR σ get a) (hi : Inv P w0 σ h w) {y : LV} (hx : resL P fn get h = some y) : ∃ v, (results fn a.tmps).run P w = .ok v w ∧ VR σ y v := by
 have key : ∀ (l : List ResultVar) (ys : List LV), l.mapM (bL6 P get h) = some ys → ∃ vs, (l.mapM (aJ0 a.tmps)).run P w = .ok vs w ∧ VRs σ ys vs := by
  intro l
  induction l with
  | nil =>
   intro ys h1
   simp at h1; subst h1
   exact ⟨[], by simp, .nil⟩
  | cons x l ih =>
   intro ys h1
   simp only [mapM_cons, bind_eq_bind, pure_def, oE] at h1
   obtain ⟨t, ht, ts, hts, h1⟩ := h1
   simp only [oI] at h1; subst h1
   obtain ⟨v, hv1, hv2⟩ := bT9 hg hi ht
   obtain ⟨vs, hvs1, hvs2⟩ := ih ts hts
   exact ⟨v :: vs, by simp only [mapM_cons, rB, hv1, aO, hvs1, Sem.run_pure], .cons hv2 hvs2⟩
 unfold resL at hx
 simp only [oM] at hx
 obtain ⟨ys, hy, rfl⟩ := hx
 obtain ⟨vs, h1, h2⟩ := key _ ys hy
 rw [bg6 h1]
 cases h2 with
 | nil => exact ⟨_, rfl, .tup .nil⟩
 | cons x1 r1 => cases r1 with
  | nil => exact ⟨_, rfl, x1⟩
  | cons x2 r2 => exact ⟨_, by simp, .tup (.cons x1 (.cons x2 r2))⟩
theorem b53 {c : Code} {ops : Array Oper} {d0 d1 : Nat} {rest : Code} (h : recB c = some (ops, d0, d1, rest)) : ∃ id o0 o1 cl, c = .seq (.region id ops false) rest ∧ ops.toList = [o0, o1] ∧ o0.op = .call cl ∧ o0.guard = none ∧ o0.dst = some d0 ∧
  o1.op = .assign (.tmp d0) ∧ o1.guard = none ∧ o1.dst = some d1 ∧ cl.callee = .builtin .recover ∧ cl.args = #[] := by
 unfold recB at h
 split at h
 ·rename_i id ops' rest'
  split at h
  ·rename_i o0 o1 ho
   split at h
   ·rename_i cl e1 t e2 e3 e4 e5 e6 e7 e8
    split at h
    ·rename_i h1 h2
     split at h
     ·rename_i hb
      simp only [oI, pJ] at h
      obtain ⟨rfl, rfl, rfl, rfl⟩ := h
      have := eq_of_beq_eq_true hb; subst this
      exact ⟨id, o0, o1, cl, rfl, ho, by assumption, by assumption, by assumption, by assumption, by assumption, by assumption, h1, by apply Array.ext'; simpa using h2⟩
     ·cases h
    ·cases h
   ·cases h
  ·cases h
 ·cases h
theorem by3 {call : aI5} (hcall : aW4 P w0 call) (hmix : P.follows .mixedOrders = true) {f : FuncId} {caps : List LV} {h h' : Hp} (hd : b51 P call f caps h = some h') (hi : Inv P w0 σ h w) {cap : Array Value} (hc : VRs σ caps cap.toList) :
  (callFunc f cap).run P w = .ok (.enter f cap) w ∧ CallsD P f cap .returning w fun e u' w' => (∃ v, e = .returned v) ∧ u' = .returning ∧ ∃ σ', Ext σ σ' ∧ Inv P w0 σ' h' w' := by
 unfold b51 at hd
 simp only [oE] at hd
 obtain ⟨⟨fn, c⟩, h1, ⟨ops, d0, d1, rest⟩, h2, hd⟩ := hd
 obtain ⟨f1, f2, f3⟩ := br7 h1
 obtain ⟨id, o0, o1, cl, rfl, ho, b1, b2, b3, b4, b5, b6, b7, b8⟩ := b53 h2
 refine ⟨a19 h1 cap w, ?_⟩
 split at hd
 case h_2 => cases hd
 rename_i hcnd
 simp only [bA] at hcnd
 obtain ⟨hlt, hres⟩ := hcnd
 have hlt : d0 < (tm0 fn caps).length := by simpa using hlt
 simp only [oE] at hd
 obtain ⟨y, hy, hd⟩ := hd
 refine callsD_of_wpS f1 f2 fun c₀ cs hm => ?_
 have hrec : recoverD (c₀ :: cs) = none := by simp [recoverD, hm]
 have hops : ops = #[o0, o1] := by apply Array.ext'; simpa using ho
 have e0 : ops[0]? = some o0 := by rw [hops]; rfl
 have e1 : ops[1]? = some o1 := by rw [hops]; rfl
 have hsz : List.range ops.size = [0, 1] := by rw [hops]; rfl
 have htm := b52 (fn := fn) hc
 generalize ha : ({ tmps := cap ++ Array.replicate (fn.ntmps - cap.size) undef, defers := [] } : Act) = a at *
 have hat : VRs σ (tm0 fn caps) a.tmps.toList := by rw [← ha]; exact htm
 have had : a.defers = [] := by rw [← ha]
 have w0' : ∀ (o : Oper) (a : Act), o.guard = none → Region.wanted o (yielded ops a.tmps) = true := by
  intro o a h; unfold Region.wanted; rw [h]
 have hr0 : (execOp a.eval o0).run P w = .ok .recover w := by
  simp [execOp, b1, resolve, b7, b8, invoke]
  rfl
 refine wpS_seq (wpS_region ?_)
 rw [hsz]
 simp only [wpOpsS, e0, w0' o0 a b2, if_true, hr0, hrec]
 have hr1 : (execOp (a.put o0.dst .nilIface).eval o1).run P w = .ok (.value .nilIface) w := by
  have : (a.put o0.dst Value.nilIface).eval (.tmp d0) = .nilIface := by
   have hl : d0 < a.tmps.size := by have := hat.length; simp at this; omega
   rw [b3]
   simp [Act.eval, Act.put, Array.getD_eq_getD_getElem?, Array.getElem?_setIfInBounds, hl]
  simp [execOp, b4, this]
 simp only [e1, w0' o1 _ b5, if_true, hr1, Oper.upon]
 show rest.wpS P _ _ _ _
 refine wpS_of_wp ?_
 have hput : VRs σ (((tm0 fn caps).set d0 .n0).set d1 .n0) ((a.put o0.dst .nilIface).put o1.dst .nilIface).tmps.toList := by
  rw [b3, b6]
  exact bg2 (bg2 hat .n0 (some d0)) .n0 (some d1)
 have hdf : ((a.put o0.dst .nilIface).put o1.dst .nilIface).defers = [] := by rw [aF5, aF5, had]
 refine Code.wp_mono (fun e a' w' hq => ?_) (bL7 hcall hmix rest _ y σ _ w hy ⟨hput, by rw [hdf]; exact .nil, hi⟩)
 have fin : ∀ σ', Ext σ σ' → SR P w0 σ' y.2 a' w' → (y.1 = .n ∨ y.1 = .r) → a'.defers = [] ∧ ∃ u', c₀ :: cs = { c₀ with mode := u' } :: cs ∧ ∃ v, (results fn a'.tmps).run P w' = .ok v w' ∧
   ((∃ v', Ending.returned v = .returned v') ∧ u' = .returning ∧ ∃ σ', Ext σ σ' ∧ Inv P w0 σ' h' w') := by
  intro σ' he hr hyy
  have hh : y.2.df = [] ∧ y.2.h = h' := by
   split at hd
   ·rename_i h3; simp only [oI] at hd; exact ⟨h3, hd⟩
   ·rename_i h3; simp only [oI] at hd; exact ⟨h3, hd⟩
   ·cases hd
  have hdf' : a'.defers = [] := by
   have := hr.df; rw [hh.1] at this
   generalize a'.defers = l at this
   cases this; rfl
  refine ⟨hdf', .returning, by rw [← hm], _, bg6 (vs := []) ?_, ⟨_, rfl⟩, rfl, σ', he, by rw [← hh.2]; exact hr.inv⟩
  have : fn.results.toList = [] := by simpa using hres
  rw [this]; simp
 cases e with
 | normal => obtain ⟨q1, σ', q2, q3⟩ := hq; exact fin σ' q2 q3 (.inl q1)
 | ret => obtain ⟨q1, σ', q2, q3⟩ := hq; exact fin σ' q2 q3 (.inr q1)
 | exit id =>
  have q := hq.1
  split at hd
  ·rename_i h3 _; rw [h3] at q; cases q
  ·rename_i h3 _; rw [h3] at q; cases q
  ·cases hd
 | _ => exact hq.elim
def Ret (P : Program) (w0 : World) (σ : Mp) (x : LV) (h' : Hp) (e : Ending) (w' : World) : Prop := ∃ v σ', e = .returned v ∧ Ext σ σ' ∧ Inv P w0 σ' h' w' ∧ VR σ' x v
theorem bU0 {call : aI5} (hcall : aW4 P w0 call) (hmix : P.follows .mixedOrders = true) {fn : Func} {s : RS} {a : Act} (hr : SR P w0 σ s a w) {x : LV} {h' : Hp} (h : rend P call fn s = some (x, h')) : Leaves P fn a.tmps (Ret P w0 σ x h') a.defers .returning w := by
 unfold rend at h
 have hdf := hr.df
 split at h
 ·rename_i h0
  rw [h0] at hdf
  simp only [oM, pJ] at h
  obtain ⟨x', h1, rfl, rfl⟩ := h
  obtain ⟨v, h2, h3⟩ := bL8 (GR.of hr.tm) hr.inv h1
  generalize a.defers = l at hdf
  cases hdf
  exact ⟨v, h2, v, σ, rfl, Ext.refl _, hr.inv, h3⟩
 ·rename_i f caps h0
  rw [h0] at hdf
  simp only [oE, oM, pJ] at h
  obtain ⟨h1, hd, x', hx, rfl, rfl⟩ := h
  generalize a.defers = l at hdf
  cases hdf with
  | @cons _ _ cap _ _ hc hn =>
   cases hn
   obtain ⟨g1, g2⟩ := by3 hcall hmix hd hr.inv hc
   refine leaves_cons (by simp) (f := f) (args := cap) (by simpa [invoke] using g1) ?_
   refine g2.mono ?_
   rintro e u' w' ⟨⟨v, rfl⟩, rfl, σ', k1, k2⟩
   show Leaves P fn a.tmps _ [] (settle .returning) w'
   obtain ⟨v2, h2, h3⟩ := bL8 (GR.of (hr.tm.mono k1)) k2 hx
   exact ⟨v2, h2, v2, σ', rfl, k1, k2, h3⟩
 ·cases h
theorem bG2 {call : aI5} (hcall : aW4 P w0 call) (hmix : P.follows .mixedOrders = true) : aW4 P w0 (cp3 P call) := by
 intro f args h x h' hb σ w vs hi ha
 unfold cp3 at hb
 simp only [oE] at hb
 obtain ⟨⟨fn, c⟩, h1, y, h2, h3⟩ := hb
 obtain ⟨f1, f2, f3⟩ := br7 h1
 refine .inl ⟨a19 h1 vs w, ?_⟩
 show Calls P f vs w (Ret P w0 σ x h')
 refine calls_of_wp_defers f1 f2 ?_
 refine Code.wp_mono (fun e a' w' hq => ?_) (bL7 hcall hmix c _ y σ _ w h2 ⟨b52 ha, .nil, hi⟩)
 have fin : ∀ σ', Ext σ σ' → SR P w0 σ' y.2 a' w' → (y.1 = .n ∨ y.1 = .r) → Leaves P fn a'.tmps (Ret P w0 σ x h') a'.defers .returning w' := by
  intro σ' he hr hyy
  have hh : rend P call fn y.2 = some (x, h') := by
   split at h3
   ·cases h3
   ·exact h3
  have := bU0 hcall hmix hr hh
  have mono : ∀ (ds : List Deferred) (u : FrameMode) (w : World), Leaves P fn a'.tmps (Ret P w0 σ' x h') ds u w → Leaves P fn a'.tmps (Ret P w0 σ x h') ds u w := by
   have hR : ∀ e w, Ret P w0 σ' x h' e w → Ret P w0 σ x h' e w := fun e w ⟨v, σ2, k1, k2, k3⟩ => ⟨v, σ2, k1, he.trans k2, k3⟩
   intro ds
   induction ds with
   | nil =>
    intro u w h
    cases u with
    | run => exact h
    | returning => obtain ⟨v, k1, k2⟩ := h; exact ⟨v, k1, hR _ _ k2⟩
    | panicking ch => exact hR _ _ h
   | cons d ds ih =>
    intro u w h
    obtain ⟨k1, fv, cap, f, args, k2, k3, k4⟩ := h
    refine ⟨k1, fv, cap, f, args, k2, k3, k4.mono fun e u' w' k => ?_⟩
    cases e with
    | returned v => exact ih _ _ k
    | panicked ch => exact ih _ _ k
    | outgrown => exact hR _ _ k
  exact mono _ _ _ this
 cases e with
 | normal => obtain ⟨q1, σ', q2, q3⟩ := hq; exact fin σ' q2 q3 (.inl q1)
 | ret => obtain ⟨q1, σ', q2, q3⟩ := hq; exact fin σ' q2 q3 (.inr q1)
 | exit id =>
  have q := hq.1
  dsimp only at h3
  rw [q] at h3; cases h3
 | _ => exact hq.elim
def ck6 (P : Program) (w0 : World) (tab : TabL) : Prop := ∀ f g args x, tab f = some g → g args = some x → ∀ σ w (vs : Array Value) h, Inv P w0 σ h w → VRs σ args vs.toList →
 (callFunc f vs).run P w = .ok (.enter f vs) w ∧ Calls P f vs w (Ret P w0 σ x h)
def IdsOK (P : Program) (ids : List FuncId) : Prop := ∀ f, ids.any (Nat.beq f) = true → ∀ v w, (callFunc f #[v]).run P w = .ok (.value v) w
theorem idsNil : IdsOK P [] := fun f h => by cases h
theorem idsCons {f : FuncId} {fn : Func} {ids : List FuncId} (hf : P.funcs[f]? = some fn) (hname : (fn.name == "runtime.NumGoroutine") = false) (hb : fn.body.isNone = true) (hn : Extern.findNext fn = none) (he : Extern.find fn = some Extern.AbiNoEscape.same) (h : IdsOK P ids) : IdsOK P (f :: ids) := by
 intro g hg v w
 rw [List.any_cons, or_eq_true] at hg
 rcases hg with hg | hg
 ·have := eq_of_beq_eq_true hg; subst this
  rw [run_callFunc_extern hf hname hb hn he]
  rfl
 ·exact h g hg v w
theorem Inv.stay {h : Hp} (hi : Inv P w0 σ h w) {w' : World} (hb : Below w.heap.size w w') : Inv P w0 σ h w' := by
 refine hi.step (q0 := none) ⟨hb.os.trans hi.bel.os, hb.tape.trans hi.bel.tape, hb.output.trans hi.bel.output, Nat.le_trans hi.bel.size hb.size, fun k hk => (hb.block k (Nat.lt_of_lt_of_le hk hi.bel.size)).trans (hi.bel.block k hk)⟩ _ (Ext.refl _) hi.dom fun a o ho hl => .inl ⟨ho, fun q hq => ?_⟩
 obtain ⟨q', ob, h1, _, h3⟩ := (hi.ob a o ho).blk hl
 rw [hq] at h1; cases h1
 exact hb.block _ (br5 h3)
theorem bo2 {tab : TabL} {ids : List FuncId} (htab : ck6 P w0 tab) (hids : IdsOK P ids) (hmix : P.follows .mixedOrders = true) : ∀ n, aW4 P w0 (rfun P tab ids n)
 | 0 => fun f args h x h' hx => by cases hx
 | n + 1 => by
  intro f args h x h' hx σ w vs hi ha
  simp only [rfun] at hx
  split at hx
  ·rename_i g hg
   simp only [oM, pJ] at hx
   obtain ⟨x', h1, rfl, rfl⟩ := hx
   exact .inl (htab f g args x' hg h1 σ w vs h hi ha)
  ·split at hx
   ·rename_i args x0 hany
    simp only [oI, pJ] at hx
    obtain ⟨rfl, rfl⟩ := hx
    have hv : ∃ v, vs = #[v] ∧ VR σ x0 v := by
     generalize hl : vs.toList = l at ha
     cases ha with
     | cons h1 h2 => cases h2; exact ⟨_, by apply Array.ext'; simpa using hl, h1⟩
    obtain ⟨v, rfl, hv⟩ := hv
    exact .inr ⟨v, σ, w, hids f hany v w, Ext.refl _, hi, hv⟩
   ·cases hx
   ·exact bG2 (bo2 htab hids hmix n) hmix f _ h x h' hx σ w vs hi ha
theorem bL9 {x : LV} {r : PV} (h : cv6 x = some r) {v : Value} (hv : VR σ x v) {w : World} {I : Prot} : RepP w I r v [] := by
 cases hv <;> simp only [cv6, oI, reduceCtorEq] at h
 ·subst h; exact .bool _
 ·subst h; exact .int _ _
 ·subst h; exact .str _
theorem by4 {w : World} {I : Prot} : ∀ {xs : List LV} {rs : List PV} {vs : List Value}, xs.mapM cv6 = some rs → VRs σ xs vs → RepPs w I rs vs []
 | _, rs, _, h, .nil => by simp at h; subst h; exact .nil
 | _, rs, _, h, .cons hx hr => by
  simp only [mapM_cons, bind, oE, pure, oI] at h
  obtain ⟨y, h1, ys, h2, rfl⟩ := h
  exact .cons (F := []) (G := []) (bL9 h1 hx) (by4 h2 hr)
theorem b54 {r : PV} {x : LV} (h : co9 r = some x) {w : World} {I : Prot} {v : Value} {F : List Nat} (hv : RepP w I r v F) : VR σ x v := by
 cases hv <;> simp only [co9, oI, reduceCtorEq] at h
 ·subst h; exact .b _
 ·subst h; exact .i _ _
 ·subst h; exact .s _
theorem bU1 (hg : GlobOK P w0 (fun _ => False)) (hb : Below w0.heap.size w0 w) : GlobOK P w (fun _ => False) := by
 refine ⟨fun k hk => ?_, fun g hn => ?_, fun g hn => ?_⟩
 ·obtain ⟨h1, m, h2⟩ := hg.1 k hk
  refine ⟨h1, m, ?_⟩
  have := hb.block k (Vm.cell_lt h2)
  rw [← h2]
  simp only [World.cell?, this]
 ·obtain ⟨h1, h2⟩ := hg.2.1 g hn
  exact ⟨h1, Vm.tab_same h2 hn (hb.block g (Vm.tab_lt h2 hn))⟩
 ·obtain ⟨h1, h2⟩ := hg.2.2 g hn
  exact ⟨h1, Vm.tab_same h2 hn (hb.block g (Vm.tab_lt h2 hn))⟩
abbrev TabP := FuncId → Option (List PV → Option PV)
def tabOf (t : TabP) : TabL := fun f => match t f with
 | none => none
 | some g => some fun args => (args.mapM cv6).bind fun ds => (g ds).bind co9
theorem ce7 {t : TabP} (hT : ∀ f g ds r, t f = some g → g ds = some r → CallOK P f ds r true) (hG : GlobOK P w0 (fun _ => False)) : ck6 P w0 (tabOf t) := by
 intro f g args x hf hx σ w vs h hi ha
 unfold tabOf at hf
 split at hf
 ·cases hf
 ·rename_i g' hg'
  simp only [oI] at hf; subst hf
  simp only [oE] at hx
  obtain ⟨ds, h1, r, h2, h3⟩ := hx
  have hc := hT f g' ds r hg' h2
  refine ⟨hc.enter vs w, ?_⟩
  have hnF : ∀ b, ¬ Vm.FS Prot.none [] b := by
   rintro b (hb | hb)
   ·cases hb
   ·exact hb rfl
  refine (hc.calls w Prot.none vs [] ((bU1 hG hi.bel).any hnF) (fun b o hb => False.elim hb) (by4 h1 ha) List.nodup_nil (by simp) (fun b g hb => by cases hb)).mono fun e W' hh => ?_
  obtain ⟨v, I', F, he, hbl0, _, _, _, _, hv, _⟩ := hh
  have hbl : Below w.heap.size w W' := Vm.Kept.below ⟨hbl0.os, hbl0.tape, hbl0.output, hbl0.size, fun k hk _ => hbl0.block k hk (hnF k)⟩
  exact ⟨v, σ, he, Ext.refl _, hi.stay hbl, b54 h3 hv⟩
theorem closed_ok {t : TabP} {ids : List FuncId} {n : Nat} {f : FuncId} {x : LV} {h' : Hp} {r : PV} (hmix : P.follows .mixedOrders = true) (hT : ∀ f g ds r, t f = some g → g ds = some r → CallOK P f ds r true) (hI : IdsOK P ids) {q : Func × Code} (hf : fnL P f = some q)
  (hx : rfun P (tabOf t) ids n f [] [] = some (x, h')) (hr : cv6 x = some r) : CallOK P f [] r true := by
 refine Vm.CallOK.plain (a19 hf) rfl fun w I vs hG hI' hrep => ?_
 have hvs : VRs (fun _ => none) [] vs.toList := by
  generalize vs.toList = l at hrep
  cases hrep; exact .nil
 have hi : Inv P w (fun _ => none) [] w := ⟨Below.refl _ _, by simp, by simp, by simp⟩
 rcases bo2 (ce7 hT hG) hI hmix n f [] [] x h' hx (fun _ => none) w vs hi hvs with ⟨_, h6⟩ | ⟨v, σ', w', h5, _⟩
 ·refine h6.mono ?_
  rintro e w' ⟨v, σ', rfl, g1, g2, g3⟩
  exact ⟨v, rfl, g2.bel, bL9 hr g3⟩
 ·rw [a19 hf] at h5; cases h5
end Go.Gr
namespace Go.Gr
set_option linter.unusedVariables false
open Go.Vm (PV CallOK)
open Go.RowKit (Below)
def ixb (c : UInt8) : List UInt8 → Nat → Int
 | [], _ => -1
 | b :: l, k => match b == c with
  | true => (k : Int)
  | false => ixb c l (k + 1)
theorem ck7 (c : UInt8) : ∀ (l : List UInt8) (k : Nat), ixb c l k = if Go.Lib.indexByte l c = -1 then -1 else Go.Lib.indexByte l c + k
 | [], k => by simp [ixb, Go.Lib.indexByte]
 | b :: l, k => by
  have h0 := Go.Lib.indexByte_ge l c
  unfold ixb Go.Lib.indexByte
  cases h : b == c with
  | true => simp
  | false =>
   simp only [false_eq_true, if_false]
   rw [ck7 c l (k + 1)]
   by_cases e : Go.Lib.indexByte l c = -1
   ·simp [e]
   ·have e2 : (Go.Lib.indexByte l c == -1) = false := by simpa using e
    rw [iN e, e2]
    simp only [false_eq_true, if_false]
    rw [iN (by omega)]
    omega
theorem ixb0 (l : List UInt8) (c : UInt8) : ixb c l 0 = Go.Lib.indexByte l c := by
 rw [ck7]
 split
 ·rename_i h; exact h.symm
 ·simp
def ixs (sub : List UInt8) : List UInt8 → Nat → Int
 | [], k => if sub.isEmpty then (k : Int) else -1
 | b :: l, k => match sub.isPrefixOf (b :: l) with
  | true => (k : Int)
  | false => ixs sub l (k + 1)
theorem ck8 (sub : List UInt8) : ∀ (l : List UInt8) (k : Nat), ixs sub l k = if Go.Lib.index l sub = -1 then -1 else Go.Lib.index l sub + k
 | [], k => by
  unfold ixs Go.Lib.index
  cases sub.isEmpty <;> simp
 | b :: l, k => by
  have h0 := Go.Lib.index_ge l sub
  unfold ixs Go.Lib.index
  cases h : sub.isPrefixOf (b :: l) with
  | true => simp
  | false =>
   simp only [false_eq_true, if_false]
   rw [ck8 sub l (k + 1)]
   by_cases e : Go.Lib.index l sub = -1
   ·simp [e]
   ·have e2 : (Go.Lib.index l sub == -1) = false := by simpa using e
    rw [iN e, e2]
    simp only [false_eq_true, if_false]
    rw [iN (by omega)]
    omega
theorem ixs0 (l sub : List UInt8) : ixs sub l 0 = Go.Lib.index l sub := by
 rw [ck8]
 split
 ·rename_i h; exact h.symm
 ·simp
abbrev cw1 (P : Program) (f : FuncId) (g : List PV → Option PV) : Prop := ∀ ds r, g ds = some r → CallOK P f ds r true
def tab0 : TabP := fun _ => none
def tab1 (f0 : FuncId) (g0 : List PV → Option PV) (t : TabP) : TabP := fun f => match Nat.beq f f0 with
 | true => some g0
 | false => t f
def TabGood (P : Program) (t : TabP) : Prop := ∀ f g ds r, t f = some g → g ds = some r → CallOK P f ds r true
theorem tab0_ok {P : Program} : TabGood P tab0 := fun f g ds r h => by cases h
theorem tab1_ok {P : Program} {f0 : FuncId} {g0 : List PV → Option PV} {t : TabP} (h0 : cw1 P f0 g0) (h : TabGood P t) : TabGood P (tab1 f0 g0 t) := by
 intro f g ds r hf hg
 unfold tab1 at hf
 split at hf
 ·rename_i hb
  have := eq_of_beq_eq_true hb; subst this
  cases hf
  exact h0 ds r hg
 ·exact h f g ds r hf hg
def tIndexByte : List PV → Option PV
 | [.str s, .int .u8 c] => some (.int .i64 (ixb c.toNat.toUInt8 s 0))
 | _ => none
def tIndex : List PV → Option PV
 | [.str s, .str sub] => match ble s.length 1000000 with
  | true => some (.int .i64 (ixs sub s 0))
  | false => none
 | _ => none
def tCount : List PV → Option PV
 | [.str s, .str [c]] => some (.int .i64 (Go.Lib.countByte s c : Int))
 | _ => none
def tRepeat : List PV → Option PV
 | [.str s, .int .i64 (.ofNat c)] => match ble c 1000000 && ble s.length 1000000 with
  | true => some (.str (Go.Lib.repeatL s c))
  | false => none
 | _ => none
section
variable {P : Program} {f : FuncId} {fn : Func} (hf : P.funcs[f]? = some fn) (hb : fn.body.isNone = false) (hnm : (fn.name == "runtime.NumGoroutine") = false)
include hf hb hnm
theorem g_indexByte (h : ∀ (s : ByteArray) (c : Int) (w : World), Calls P f #[.string s, .int .u8 c] w fun e w' => e = .returned (.int .i64 (Go.Lib.indexByte s.data.toList c.toNat.toUInt8)) ∧ w' = w) : cw1 P f tIndexByte := by
 intro ds r hr
 unfold tIndexByte at hr
 split at hr
 ·cases hr
  exact Go.Vm.ok_indexByte hf hb hnm h (by rw [ixb0]; rfl)
 ·cases hr
theorem g_count (h : ∀ (s : ByteArray) (c : UInt8) (w : World), Calls P f #[.string s, .string ⟨#[c]⟩] w fun e w' => e = .returned (.int .i64 (Go.Lib.countByte s.data.toList c)) ∧ w' = w) : cw1 P f tCount := by
 intro ds r hr
 unfold tCount at hr
 split at hr
 ·cases hr
  exact Go.Vm.ok_count hf hb hnm h rfl
 ·cases hr
theorem g_index {g : Nat} (hg : Go.Vm.isMaxLen P g = true) (h : ∀ (s sub : ByteArray) (m : Int) (w : World), s.size < 4294967281 → w.cell? ⟨g, 0, none⟩ = some (.int .i64 m) → Calls P f #[.string s, .string sub] w fun e w' => e = .returned (.int .i64 (Go.Lib.index s.data.toList sub.data.toList)) ∧ w' = w) : cw1 P f tIndex := by
 intro ds r hr
 unfold tIndex at hr
 split at hr
 ·rename_i s sub
  split at hr
  ·rename_i hc
   cases hr
   refine CallOK.plain (Go.Vm.enter_of hf hb hnm) rfl fun w I vs hG hI hrep => ?_
   obtain ⟨_, m, hm⟩ := hG.1 g hg
   have e := hrep.flat (us := [.string ⟨s.toArray⟩, .string ⟨sub.toArray⟩]) rfl
   have e2 : vs = #[.string ⟨s.toArray⟩, .string ⟨sub.toArray⟩] := by apply Array.ext'; rw [e]
   rw [e2]
   have sz : ∀ l : List UInt8, (ByteArray.mk l.toArray).size = l.length := fun l => by simp [ByteArray.size]
   have hc := Nat.le_of_ble_eq_true hc
   refine (h ⟨s.toArray⟩ ⟨sub.toArray⟩ m w (by rw [sz]; omega) hm).mono ?_
   rintro e w' ⟨rfl, rfl⟩
   rw [ixs0]
   exact ⟨_, rfl, Below.refl _ _, .int _ _⟩
  ·cases hr
 ·cases hr
theorem g_repeat (h : ∀ (s : ByteArray) (c : Nat) (w : World), c ≤ 9223372036854775807 → s.size * c ≤ 140737488355328 → Calls P f #[.string s, .int .i64 c] w fun e w' => e = .returned (.string ⟨(Go.Lib.repeatL s.data.toList c).toArray⟩) ∧ Below w.heap.size w w') : cw1 P f tRepeat := by
 intro ds r hr
 unfold tRepeat at hr
 split at hr
 ·rename_i s c
  split at hr
  ·rename_i hc
   cases hr
   rw [bA] at hc
   have h1 := Nat.le_of_ble_eq_true hc.1
   have h2 := Nat.le_of_ble_eq_true hc.2
   refine CallOK.plain (Go.Vm.enter_of hf hb hnm) rfl fun w I vs hG hI hrep => ?_
   have e := hrep.flat (us := [.string ⟨s.toArray⟩, .int .i64 (.ofNat c)]) rfl
   have e2 : vs = #[.string ⟨s.toArray⟩, .int .i64 (.ofNat c)] := by apply Array.ext'; rw [e]
   rw [e2]
   have sz : ∀ l : List UInt8, (ByteArray.mk l.toArray).size = l.length := fun l => by simp [ByteArray.size]
   have hm : s.length * c ≤ 1000000 * 1000000 := Nat.mul_le_mul h2 h1
   refine (h ⟨s.toArray⟩ c w (by omega) (by rw [sz]; omega)).mono ?_
   rintro e w' ⟨rfl, hb'⟩
   exact ⟨_, rfl, hb', .str _⟩
  ·cases hr
 ·cases hr
end
end Go.Gr
