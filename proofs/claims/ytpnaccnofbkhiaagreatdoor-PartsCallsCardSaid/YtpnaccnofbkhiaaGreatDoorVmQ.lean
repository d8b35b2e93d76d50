import Derived.Test.YtpnaccnofbkhiaaGreatDoorVmP
import Derived.Test.YtpnaccnofbkhiaaGreatDoorVmB
namespace Go.Vm
set_option autoImplicit false
theorem bF7 {σ τ ρ : Type} (body : τ → Option (Step τ ρ)) (mk : σ → τ) (F : σ → ρ) (m : σ → Nat) (Inv : σ → Prop)
  (h : ∀ s, Inv s → (∃ s', body (mk s) = some (.cont (mk s')) ∧ F s = F s' ∧ Inv s' ∧ m s' < m s) ∨ body (mk s) = some (.done (F s))) {s0 : σ} (h0 : Inv s0) : ae5 body (mk s0) = some (F s0) := by
 have key : ∀ (n : Nat) (s : σ), m s ≤ n → Inv s → ae5 body (mk s) = some (F s) := by
  intro n
  induction n with
  | zero =>
   intro s hm hi
   rcases h s hi with ⟨s', _, _, _, h4⟩ | h1
   ·omega
   ·exact aK0 h1
  | succ n ih =>
   intro s hm hi
   rcases h s hi with ⟨s', h1, h2, h3, h4⟩ | h1
   ·rw [a97 h1, h2]
    exact ih s' (by omega) h3
   ·exact aK0 h1
 exact key _ s0 (Nat.le_refl _) h0
theorem aX7 {p : UInt8 → Bool} (h : (List.range 256).all (fun n => p (UInt8.ofNat n)) = true) (c : UInt8) : p c = true := by
 have := List.all_eq_true.1 h c.toNat (List.mem_range.2 c.toNat_lt)
 simpa using this
theorem aT3 {α : Type} [DecidableEq α] {f g : UInt8 → α} (h : (List.range 256).all (fun n => decide (f (UInt8.ofNat n) = g (UInt8.ofNat n))) = true) (c : UInt8) : f c = g c := by
 have := aX7 (p := fun c => decide (f c = g c)) h c
 simpa using this
theorem isC (c k : UInt8) : decide ((c.toNat : Int) = (k.toNat : Int)) = decide (c = k) := by
 rw [Bool.eq_iff_iff, decide_eq_true_eq, decide_eq_true_eq]
 constructor
 ·intro h
  exact UInt8.toNat_inj.1 (by omega)
 ·rintro rfl; rfl
theorem bF8 (c : UInt8) : ((c.toNat : Int)).toNat.toUInt8 = c := by simp
theorem ad7 {a b : List UInt8} (h : a.length + b.length ≤ 9223372036854775807) : ay2 a b = some (a ++ b) := by
 unfold ay2; rw [if_pos h]
theorem aT4 {α : Type} {l : List α} {a b : Nat} (h1 : a ≤ b) (h2 : b ≤ l.length) : cut l (a : Int) (b : Int) = some ((l.take b).drop a) := by
 unfold cut
 rw [if_pos ⟨by omega, by omega, by omega⟩, Int.toNat_natCast, Int.toNat_natCast]
theorem bb2 {α : Type} {l : List α} {b : Nat} (h2 : b ≤ l.length) : cut l 0 (b : Int) = some (l.take b) := by
 have := aT4 (l := l) (a := 0) (b := b) (by omega) h2
 simpa using this
theorem aX8 {α : Type} {l : List α} {a : Nat} (h : a ≤ l.length) : cut l (a : Int) (List.length l : Int) = some (l.drop a) := by
 have := aT4 (l := l) (a := a) (b := l.length) h (Nat.le_refl _)
 simpa using this
theorem ca1 {α : Type} {l : List α} {i : Nat} (h : i < l.length) : cut l (i : Int) ((i : Int) + 1) = some [l[i]] := by
 have := aT4 (l := l) (a := i) (b := i + 1) (by omega) (by omega)
 rw [show ((i + 1 : Nat) : Int) = (i : Int) + 1 by omega] at this
 rw [this, List.take_succ_eq_append_getElem h, List.drop_append_of_le_length (by simp; omega)]
 simp
theorem cg4 (l : List UInt8) (c : UInt8) : decide (0 ≤ Go.Lib.indexByte l c) = l.contains c := by
 induction l with
 | nil => rfl
 | cons b l ih =>
  have hge := Go.Lib.indexByte_ge l c
  unfold Go.Lib.indexByte
  by_cases hb : b = c
  ·subst hb; simp
  ·have hb' : (b == c) = false := by simpa using hb
   have hb2 : (c == b) = false := by simpa using Ne.symm hb
   rw [List.contains_cons, hb2, Bool.false_or, ← ih, hb']
   simp only [Bool.false_eq_true, if_false]
   by_cases hm : Go.Lib.indexByte l c = -1
   ·simp [hm]
   ·have h1 : ¬ ((Go.Lib.indexByte l c == -1) = true) := by simpa using hm
    rw [if_neg h1]
    have : 0 ≤ Go.Lib.indexByte l c := by omega
    simp [this]; omega
end Go.Vm
