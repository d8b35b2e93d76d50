import Derived.Test.YtpnaccnofbkhiaaGreatDoorVmE
import Derived.Sort.Grow
import Derived.Deep.Draws
namespace Go.Vm
set_option autoImplicit false
open Go.RowKit (Below)
def aK3 (n b : Int) : Option (List UInt8) := if b = 10 ∧ -9223372036854775808 ≤ n ∧ n ≤ 9223372036854775807 then some (Go.Lib.itoa n) else none
theorem bF6 {w : World} {k : Nat} {os : Array Obj} : Below w.heap.size w (Go.Sort.grow (w.drewN k) os) :=
 ⟨rfl, rfl, rfl, by simp [Go.Sort.grow, World.drewN], fun j hj => by simp [Go.Sort.grow, World.drewN, Array.getElem?_append_left hj]⟩
theorem bk5 {P : Program} {f : FuncId} {fn : Func} (hf : P.funcs[f]? = some fn) (hb : fn.body.isNone = false) (hnm : (fn.name == "runtime.NumGoroutine") = false) (hg : (P.globalNamed "internal/strconv.uint64pow10").isSome = true)
  (h : ∀ (n : Int) (_ : -9223372036854775808 ≤ n) (_ : n ≤ 9223372036854775807) (w : World) (_ : Go.Lib.TabIs P w "internal/strconv.uint64pow10" .u64 Go.Lib.pow10Tab),
   Calls P f #[.int .i64 n, .int .i64 10] w fun e w' => e = .returned (.string ⟨(Go.Lib.itoa n).toArray⟩) ∧ ∃ k os, w' = Go.Sort.grow (w.drewN k) os)
  {n b : Int} {r : List UInt8} (hx : aK3 n b = some r) : CallOK P f [.int .i64 n, .int .i64 b] (.str r) true := by
 unfold aK3 at hx
 split at hx <;> cases hx
 rename_i hc
 obtain ⟨rfl, h0, h1⟩ := hc
 refine CallOK.plain (enter_of hf hb hnm) rfl fun w I vs hG hI hrep => ?_
 obtain ⟨g, hg'⟩ := Option.isSome_iff_exists.1 hg
 have e := hrep.flat (us := [.int .i64 n, .int .i64 10]) rfl
 have e2 : vs = #[.int .i64 n, .int .i64 10] := by apply Array.ext'; rw [e]
 rw [e2]
 refine (h n h0 h1 w (hG.2.1 g hg').2).mono ?_
 rintro e w' ⟨rfl, k, os, rfl⟩
 exact ⟨_, rfl, bF6, .str _⟩
end Go.Vm
