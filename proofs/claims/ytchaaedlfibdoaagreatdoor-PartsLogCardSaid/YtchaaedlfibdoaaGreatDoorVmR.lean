import Derived.Test.YtchaaedlfibdoaaGreatDoorVmQ
namespace Go.Vm
theorem br8 {α : Type} {a b : List α} {x y : α} : (a ++ x :: b).set a.length y = a ++ y :: b := by simp
theorem aO1 {α : Type} {a b : List α} {x : α} : ag1 (a ++ x :: b) ((a.length : Nat) : Int) = some x := by
 rw [aj4 (by simp)]; simp
theorem ce8 {α : Type} {n : Nat} {z : α} {k : Nat} (h : k * n ≤ 281474976710656) (h2 : k ≤ 9223372036854775807) : mkC n z (k : Int) (k : Int) = some (List.replicate k z) := by
 unfold mkC
 have h1 : ((k : Int) * (n : Int)) ≤ 281474976710656 := by
  have : ((k * n : Nat) : Int) ≤ 281474976710656 := Int.ofNat_le.mpr h
  rw [Int.natCast_mul] at this; exact this
 rw [iP ⟨by omega, by omega, h1, by omega⟩]
 simp
end Go.Vm
namespace Go.Vm
end Go.Vm
