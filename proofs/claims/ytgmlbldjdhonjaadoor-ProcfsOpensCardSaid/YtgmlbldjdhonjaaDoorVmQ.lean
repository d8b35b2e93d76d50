import Derived.Test.YtgmlbldjdhonjaaDoorVmP
import Derived.Test.YtgmlbldjdhonjaaDoorVmB
namespace Go.Vm
set_option autoImplicit false
theorem catS_small {a b : List UInt8} (h : a.length + b.length ≤ 9223372036854775807) : catS a b = some (a ++ b) := by
 unfold catS; rw [if_pos h]
theorem cut_nat {α : Type} {l : List α} {a b : Nat} (h1 : a ≤ b) (h2 : b ≤ l.length) : cut l (a : Int) (b : Int) = some ((l.take b).drop a) := by
 unfold cut
 rw [if_pos ⟨by omega, by omega, by omega⟩, Int.toNat_natCast, Int.toNat_natCast]
theorem cut_to {α : Type} {l : List α} {b : Nat} (h2 : b ≤ l.length) : cut l 0 (b : Int) = some (l.take b) := by
 have := cut_nat (l := l) (a := 0) (b := b) (by omega) h2
 simpa using this
theorem cut_from {α : Type} {l : List α} {a : Nat} (h : a ≤ l.length) : cut l (a : Int) (List.length l : Int) = some (l.drop a) := by
 have := cut_nat (l := l) (a := a) (b := l.length) h (Nat.le_refl _)
 simpa using this
end Go.Vm
