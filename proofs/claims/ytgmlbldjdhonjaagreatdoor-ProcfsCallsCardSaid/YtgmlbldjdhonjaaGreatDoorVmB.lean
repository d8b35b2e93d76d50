import Derived.Test.YtgmlbldjdhonjaaGreatDoorVmE
import Derived.Lib.Replace
import Derived.Lib.CountLaws
namespace Go.Vm
set_option autoImplicit false
open Go.RowKit (Below)
theorem isEmptyF {α β : Type} {f : α → β} {l : List α} (h : l ≠ []) : List.isEmpty (List.map f l) = false := by
 cases l with
 | nil => exact (h rfl).elim
 | cons _ _ => rfl
theorem CallOK.nilSplit {P : Program} {f : FuncId} {sh : Shape} {r : PV} {fl : Bool} (h1 : CallOK P f [.nilsl] r fl) (h2 : CallOK P f [.esl sh] r fl) : CallOK P f [.sl sh []] r fl := by
 refine ⟨h1.enter, fun w I vs Fa hG hI hrep hn hFa hNa => ?_⟩
 obtain ⟨vl⟩ := vs
 simp only at hrep
 cases hrep with
 | @cons _ v F1 _ vs1 G1 ha hr =>
  cases hr
  generalize hL : ([] : List PV) = L at ha
  cases ha with
  | slNil => exact h1.calls w I _ _ hG hI (.cons .nilsl .nil) hn hFa hNa
  | slE _ a cap => exact h2.calls w I _ _ hG hI (.cons (.esl sh a cap) .nil) hn hFa hNa
  | @sl _ _ ws b o cap hIb hfit hcap hrs hcell =>
   subst hL
   exact h2.calls w I _ _ hG hI (.cons (.esl sh ⟨b, o, none⟩ cap) .nil) hn hFa hNa
section
variable {P : Program} {f : FuncId} {fn : Func} {T e : TypeId} (hf : P.funcs[f]? = some fn) (hb : fn.body.isNone = false) (hnm : (fn.name == "runtime.NumGoroutine") = false)
include hf hb hnm
end
end Go.Vm
