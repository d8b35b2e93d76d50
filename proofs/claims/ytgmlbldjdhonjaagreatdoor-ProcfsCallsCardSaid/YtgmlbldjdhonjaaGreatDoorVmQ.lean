import Derived.Test.YtgmlbldjdhonjaaGreatDoorVmP
import Derived.Test.YtgmlbldjdhonjaaGreatDoorVmB
namespace Go.Vm
set_option autoImplicit false
theorem loopM_meas {σ τ ρ : Type} (body : τ → Option (Step τ ρ)) (mk : σ → τ) (F : σ → ρ) (m : σ → Nat) (Inv : σ → Prop)
  (h : ∀ s, Inv s → (∃ s', body (mk s) = some (.cont (mk s')) ∧ F s = F s' ∧ Inv s' ∧ m s' < m s) ∨ body (mk s) = some (.done (F s))) {s0 : σ} (h0 : Inv s0) : loopM body (mk s0) = some (F s0) := by
 have key : ∀ (n : Nat) (s : σ), m s ≤ n → Inv s → loopM body (mk s) = some (F s) := by
  intro n
  induction n with
  | zero =>
   intro s hm hi
   rcases h s hi with ⟨s', _, _, _, h4⟩ | h1
   ·omega
   ·exact loopM_done h1
  | succ n ih =>
   intro s hm hi
   rcases h s hi with ⟨s', h1, h2, h3, h4⟩ | h1
   ·rw [loopM_cont h1, h2]
    exact ih s' (by omega) h3
   ·exact loopM_done h1
 exact key _ s0 (Nat.le_refl _) h0
theorem isC (c k : UInt8) : decide ((c.toNat : Int) = (k.toNat : Int)) = decide (c = k) := by
 rw [Bool.eq_iff_iff, decide_eq_true_eq, decide_eq_true_eq]
 constructor
 ·intro h
  exact UInt8.toNat_inj.1 (by omega)
 ·rintro rfl; rfl
theorem catS_small {a b : List UInt8} (h : a.length + b.length ≤ 9223372036854775807) : catS a b = some (a ++ b) := by
 unfold catS; rw [if_pos h]
theorem cut_nat {α : Type} {l : List α} {a b : Nat} (h1 : a ≤ b) (h2 : b ≤ l.length) : cut l (a : Int) (b : Int) = some ((l.take b).drop a) := by
 unfold cut
 rw [if_pos ⟨by omega, by omega, by omega⟩, Int.toNat_natCast, Int.toNat_natCast]
theorem cut_to {α : Type} {l : List α} {b : Nat} (h2 : b ≤ l.length) : cut l 0 (b : Int) = some (l.take b) := by
 have := cut_nat (l := l) (a := 0) (b := b) (by omega) h2
 simpa using this
theorem cut_from {α : Type} {l : List α} {a : Nat} (h : a ≤ l.length) : cut l (a : Int) (List.length l : Int) = some (l.drop a) := by
 have := cut_nat (l := l) (a := a) (b := l.length) h (Nat.le_refl _)
 simpa using this
end Go.Vm
