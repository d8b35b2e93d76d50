import Derived.Test.YtpnaccnofbkhiaaGreatDoorVmE
import Derived.Lib.Replace
import Derived.Lib.CountLaws
namespace Go.Vm
set_option autoImplicit false
open Go.RowKit (Below)
theorem aQ0 {α : Type} {l : List α} {b : Int} {t : List α} (h : cut l 0 b = some t) : 0 ≤ b ∧ b ≤ l.length ∧ t = l.take b.toNat := by
 unfold cut at h
 split at h <;> try contradiction
 rename_i hc
 cases h
 exact ⟨hc.2.1, hc.2.2, by simp⟩
theorem b98 {α : Type} {l : List α} {b : Int} {t : List α} {n : Nat} (h : cut l 0 b = some t) (hn : n = l.length) : 0 ≤ b ∧ b ≤ ((n : Nat) : Int) ∧ ((n : Nat) : Int) ≤ ((n : Nat) : Int) := by
 obtain ⟨h1, h2, _⟩ := aQ0 h
 subst hn; exact ⟨h1, h2, Int.le_refl _⟩
theorem cg3 {α β : Type} {f : α → β} {l : List α} {b : Int} {t : List α} (h : cut l 0 b = some t) : 0 + Int.toNat b ≤ List.length (List.map f l) := by
 obtain ⟨h1, h2, _⟩ := aQ0 h
 rw [List.length_map]; omega
theorem b99 {α β : Type} {f : α → β} {l : List α} {b : Int} {t : List α} (h : cut l 0 b = some t) : List.take (0 + Int.toNat b) (List.map f l) = List.map f t := by
 obtain ⟨h1, h2, h3⟩ := aQ0 h
 rw [Nat.zero_add, h3, List.map_take]
theorem ca0 {α β : Type} {f : α → β} {l : List α} {b : Int} {t : List α} (h : cut l 0 b = some t) : Int.toNat b - Int.toNat 0 = (List.map f t).length := by
 obtain ⟨h1, h2, h3⟩ := aQ0 h
 rw [h3, List.length_map, List.length_take]
 have : Int.toNat 0 = 0 := rfl
 omega
theorem aX6 {α β : Type} {f : α → β} {l : List α} (h : l ≠ []) : List.isEmpty (List.map f l) = false := by
 cases l with
 | nil => exact (h rfl).elim
 | cons _ _ => rfl
theorem CallOK.nilSplit {P : Program} {f : FuncId} {sh : Shape} {r : PV} {fl : Bool} (h1 : CallOK P f [.nilsl] r fl) (h2 : CallOK P f [.esl sh] r fl) : CallOK P f [.sl sh []] r fl := by
 refine ⟨h1.enter, fun w I vs Fa hG hI hrep hn hFa hNa => ?_⟩
 obtain ⟨vl⟩ := vs
 simp only at hrep
 cases hrep with
 | @cons _ v F1 _ vs1 G1 ha hr =>
  cases hr
  generalize hL : ([] : List PV) = L at ha
  cases ha with
  | slNil => exact h1.calls w I _ _ hG hI (.cons .nilsl .nil) hn hFa hNa
  | slE _ a cap => exact h2.calls w I _ _ hG hI (.cons (.esl sh a cap) .nil) hn hFa hNa
  | @sl _ _ ws b o cap hIb hfit hcap hrs hcell =>
   subst hL
   exact h2.calls w I _ _ hG hI (.cons (.esl sh ⟨b, o, none⟩ cap) .nil) hn hFa hNa
section
variable {P : Program} {f : FuncId} {fn : Func} {T e : TypeId} (hf : P.funcs[f]? = some fn) (hb : fn.body.isNone = false) (hnm : (fn.name == "runtime.NumGoroutine") = false)
include hf hb hnm
end
end Go.Vm
