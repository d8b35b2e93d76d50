import Derived.Test.YtiliognepodhnaaGreatDoorSA
namespace Go.Proofs.YtiliognepodhnaaGreatDoor
open Go.Vm
set_option autoImplicit false
set_option linter.unusedVariables false
set_option linter.unusedSimpArgs false
set_option maxRecDepth 100000
variable {a : aa2} {id : Int}
theorem cu4 (v : Val a) (h : id ≤ 16) (off cnt : Int) : bi5 a id off cnt = by1 a id off cnt := by
 unfold by1 bi5
 rw [cr2 v h]
 simp only [show ¬ (0 : Int) ≤ -1 by omega, if_false]
theorem cj0 (off cnt : Int) : (by1 a id off cnt).1 = a := by
 unfold by1
 split
 ·split
  ·rfl
  ·split <;> rfl
 ·rfl
theorem a09 (a : aa2) (x_ : ar6) (wa : aG4 a) (wx : aO0 x_) : ay4 a x_ = some true := by
 have wi := wfI wx.1
 unfold ay4
 rw [cq3 wa, Option.bind_some]
 cases hsm : bM2 a with
 | false => simp only [Bool.not_false, if_true, Option.bind_some, a45]
 | true =>
  have hl := ce4 hsm
  simp only [Bool.not_true, Bool.false_eq_true, if_false]
  by_cases h16 : 16 < x_.Id
  ·simp only [h16, decide_true, if_true, Option.bind_some, a45]
  ·simp only [h16, decide_false, Bool.false_eq_true, if_false, bT3 hl, Option.bind_some]
   cases hr : a07 a with
   | false => simp only [Bool.not_false, if_true, Option.bind_some, a45]
   | true =>
    have v : Val a := ⟨hl, hr⟩
    have hlow := cu4 v (show x_.Id ≤ 16 by omega) x_.Offset x_.Count
    have h1 := cj0 (a := a) (id := x_.Id) x_.Offset x_.Count
    simp only [Bool.not_true, Bool.false_eq_true, if_false, bH5 v wi, b75 v wi, Option.bind_some, hlow, h1, hl.same, if_true, decide_true, a45]
variable {s : Str} {k : List aa1} {c d : aa3}
structure One (c : aa3) : Prop where
 id : c.Id = 1
 fr : ao7 c = false
def Turn (c d c' d' : aa3) : Prop := (¬ c.Phase = 1 ∧ c' = c ∧ d' = d) ∨ ∃ t, aV1 c = (c', t, 0) ∧ aG6 d t = (d', 0) ∧ t.length ≤ 1000
theorem w17 : (-9223372036854775808 : Int) ≤ 17 ∧ (17 : Int) ≤ 9223372036854775807 := by omega
structure Round (s s' : aa3 × aa3) : Prop where
 a : One s.1
 b : One s.2
 ex : ∃ c1 d1, Turn s.1 s.2 c1 d1 ∧ Turn d1 c1 s'.2 s'.1 ∧ One c1 ∧ One d1
def cv (p : Str) (r ph st : Int) (k : List aa1) (own peer user : Str) : aa3 := ⟨1, p, r, ph, st, k, own, peer, user, 0⟩
variable {n m : Str}
def t0 (s : Str) : aa2 := ⟨[97, 100, 109], s, [], 1, [], 0⟩
def t1 (s : Str) (k : List aa1) : aa2 := ⟨[97, 100, 109], s, [k], 1, [], 0⟩
def t2 (s : Str) (k : List aa1) : aa2 := ⟨[97, 100, 109], s, [k], 2, [b11 1], 0⟩
def aN0 (s : Str) : Str := bn2 s (Go.Lib.itoa 0)
structure Begins (k : List aa1) (t p : Str) (r : Int) (l : List aa1) : Prop where
 e3 : (bv9 ++ [32]).isPrefixOf t = true
 e4 : ao6 (t.drop 6) = (l, 0, 0)
 h1 : am5 be5 l = (p, true)
 h2 : by3 l = r
 hr : r = 1 ∨ r = 2
 h3 : bH7 (ci2 l) [k] = (k, true)
 hp : ag8 p = true
 h4 : aW2 k = 0
 h5 : bh7 k = true
end Go.Proofs.YtiliognepodhnaaGreatDoor
