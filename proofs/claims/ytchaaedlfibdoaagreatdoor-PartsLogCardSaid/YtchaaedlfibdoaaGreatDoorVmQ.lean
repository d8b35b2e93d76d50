import Derived.Test.YtchaaedlfibdoaaGreatDoorVmP
import Derived.Test.YtchaaedlfibdoaaGreatDoorVmB
namespace Go.Vm
theorem bU2 {σ τ ρ : Type} (body : τ → Option (Step τ ρ)) (mk : σ → τ) (F : σ → ρ) (m : σ → Nat) (Inv : σ → Prop)
  (h : ∀ s, Inv s → (∃ s', body (mk s) = some (.cont (mk s')) ∧ F s = F s' ∧ Inv s' ∧ m s' < m s) ∨ body (mk s) = some (.done (F s))) {s0 : σ} (h0 : Inv s0) : ae0 body (mk s0) = some (F s0) := by
 have key : ∀ (n : Nat) (s : σ), m s ≤ n → Inv s → ae0 body (mk s) = some (F s) := by
  intro n
  induction n with
  | zero =>
   intro s hm hi
   rcases h s hi with ⟨s', _, _, _, h4⟩ | h1
   ·omega
   ·exact ab5 h1
  | succ n ih =>
   intro s hm hi
   rcases h s hi with ⟨s', h1, h2, h3, h4⟩ | h1
   ·rw [ac0 h1, h2]
    exact ih s' (by omega) h3
   ·exact ab5 h1
 exact key _ s0 (Nat.le_refl _) h0
theorem isC (c k : UInt8) : decide ((c.toNat : Int) = (k.toNat : Int)) = decide (c = k) := by
 rw [Bool.eq_iff_iff, dT, dT]
 constructor
 ·intro h
  exact UInt8.toNat_inj.1 (by omega)
 ·rintro rfl; rfl
theorem ak2 {a b : List UInt8} (h : a.length + b.length ≤ 9223372036854775807) : bj8 a b = some (a ++ b) := by
 unfold bj8; rw [iP h]
theorem aF6 {a b : List UInt8} (h : a.length + b.length ≤ 140737488355328) : bAdd a b = some (a ++ b) := by
 unfold bAdd; rw [iP h]
theorem aY1 {α : Type} {l : List α} {a b : Nat} (h1 : a ≤ b) (h2 : b ≤ l.length) : cut l (a : Int) (b : Int) = some ((l.take b).drop a) := by
 unfold cut
 rw [iP ⟨by omega, by omega, by omega⟩, Int.toNat_natCast, Int.toNat_natCast]
theorem b55 {α : Type} {l : List α} {b : Nat} (h2 : b ≤ l.length) : cut l 0 (b : Int) = some (l.take b) := by
 have := aY1 (l := l) (a := 0) (b := b) (by omega) h2
 simpa using this
theorem aT8 {α : Type} {l : List α} {a : Nat} (h : a ≤ l.length) : cut l (a : Int) (List.length l : Int) = some (l.drop a) := by
 have := aY1 (l := l) (a := a) (b := l.length) h (Nat.le_refl _)
 simpa using this
end Go.Vm
