import Derived.Test.YtiliognepodhnaaGreatDoorSA
open Bool (false_eq_true)
open List (length)
namespace Go.Proofs.YtiliognepodhnaaGreatDoor
open Go.Vm
set_option linter.unusedVariables false
set_option linter.unusedSimpArgs false
set_option maxRecDepth 100000
variable {a : aa2} {id : Int}
theorem a55 (a : aa2) (o : ay3) (wa : aJ7 a) (wo : aQ5 o) : aA5 a o = some true := by
 unfold aA5
 rw [cv6 wa, Option.bind_some]
 cases hsm : bP9 a with
 | false => simp only [Bool.not_false, if_true, Option.bind_some, aW4]
 | true =>
  have hl := ck0 hsm
  simp only [Bool.not_true, false_eq_true, if_false]
  by_cases h1 : (2000 : Int) < (length o.Text : Int)
  ·simp only [h1, decide_true, if_true, Option.bind_some, aW4]
  by_cases h2 : (1000 : Int) < (length o.Uz : Int)
  ·simp only [h1, h2, decide_true, decide_false, false_eq_true, if_false, if_true, Option.bind_some, aW4]
  simp only [h1, h2, decide_false, false_eq_true, if_false, bW9 hl, Option.bind_some]
  cases hr : a54 a with
  | false => simp only [Bool.not_false, if_true, Option.bind_some, aW4]
  | true =>
   have v : Val a := ⟨hl, hr⟩
   simp only [Bool.not_true, false_eq_true, if_false, cI7 v wo (show o.Text.length ≤ 2000 by omega), Option.bind_some, if_true, aW4]
variable {s : Str} {k : List aa1} {c d : aa3}
structure One (c : aa3) : Prop where
 id : c.Id = 1
 fr : ao7 c = false
def Turn (c d c' d' : aa3) : Prop := (¬ c.Hz = 1 ∧ c' = c ∧ d' = d) ∨ ∃ t, aZ7 c = (c', t, 0) ∧ aE2 d t = (d', 0) ∧ t.length ≤ 1000
theorem w17 : (-9223372036854775808 : Int) ≤ 17 ∧ (17 : Int) ≤ 9223372036854775807 := by omega
structure Round (s s' : aa3 × aa3) : Prop where
 a : One s.1
 b : One s.2
 ex : ∃ c1 d1, Turn s.1 s.2 c1 d1 ∧ Turn d1 c1 s'.2 s'.1 ∧ One c1 ∧ One d1
def cv (p : Str) (r ph st : Int) (k : List aa1) (own peer user : Str) : aa3 := ⟨1, p, r, ph, st, k, own, peer, user, 0⟩
variable {n m : Str}
def t0 (s : Str) : aa2 := ⟨[97, 100, 109], s, [], 1, [], 0⟩
def t1 (s : Str) (k : List aa1) : aa2 := ⟨[97, 100, 109], s, [k], 1, [], 0⟩
def t2 (s : Str) (k : List aa1) : aa2 := ⟨[97, 100, 109], s, [k], 2, [b61 1], 0⟩
def aR5 (s : Str) : Str := bp9 s (Go.Lib.itoa 0)
structure Begins (k : List aa1) (t p : Str) (r : Int) (l : List aa1) : Prop where
 e3 : (ba7 ++ [32]).isPrefixOf t = true
 e4 : af0 (t.drop 6) = (l, 0, 0)
 h1 : aj4 aR4 l = (p, true)
 h2 : bi8 l = r
 hr : r = 1 ∨ r = 2
 h3 : bo9 (bY9 l) [k] = (k, true)
 hp : ag9 p = true
 h4 : aW5 k = 0
 h5 : bh8 k = true
end Go.Proofs.YtiliognepodhnaaGreatDoor
