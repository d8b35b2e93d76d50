import Derived.Test.YtiliognepodhnaaGreatDoorSA
namespace Go.Proofs.YtiliognepodhnaaGreatDoor
open Go.Vm
set_option autoImplicit false
set_option linter.unusedVariables false
set_option linter.unusedSimpArgs false
set_option maxRecDepth 100000
variable {a : aa2} {id : Int}
theorem cu2 (o s : Str) : ∃ r, ak0 o s = some r ∧ aJ5 o s = some r ∧ af4 r.1 r.1 = some true := by
 refine ⟨(if (decide (o = []) || decide (32 < (List.length o : Int))) = true then (⟨[], [], [], 0, [], 0⟩, 25) else if decide (1024 < (List.length s : Int)) = true then (⟨[], [], [], 0, [], 0⟩, 4) else (⟨o, s, [], 1, [], 0⟩, 0)), ?_, ?_, ?_⟩
 ·unfold ak0; split
  ·rfl
  ·split <;> rfl
 ·rw [← cJ6]; unfold ak0; split
  ·rfl
  ·split <;> rfl
 ·split
  ·exact aD9 (by simp) (by simp) (by simp) (by simp)
  ·split
   ·exact aD9 (by simp) (by simp) (by simp) (by simp)
   ·exact aD9 (by simp) (by simp) (by simp) (by simp)
theorem a05 (a : aa2) (seed : Str) (x_ : aq9) (wa : aF2 a) (ws : List.length seed ≤ maxLen) (wx : aN2 x_) : aw9 a seed x_ = some true := by
 have wi := wfI wx.1
 unfold aw9
 rw [cp9 wa, Option.bind_some]
 cases hsm : bK7 a with
 | false => simp only [Bool.not_false, if_true, Option.bind_some, aI7]
 | true =>
  have hl := ce2 hsm
  simp only [Bool.not_true, Bool.false_eq_true, if_false]
  by_cases h1 : (2000 : Int) < (List.length seed : Int)
  ·simp only [h1, decide_true, if_true, Option.bind_some, aI7]
  by_cases h2 : (1000 : Int) < (List.length x_.Name : Int)
  ·simp only [h1, h2, decide_true, decide_false, Bool.false_eq_true, if_false, if_true, Option.bind_some, aI7]
  simp only [h1, h2, decide_false, Bool.false_eq_true, if_false, bE8 wx.2.2.2.2.1, Option.bind_some]
  cases hp : aV1 x_.Pattern with
  | false => simp only [Bool.not_false, if_true, aI7, Option.bind_some]
  | true =>
   have hpl := (bE9 hp).le
   obtain ⟨r, r1, r2, r3⟩ := cu2 x_.Name seed
   simp only [Bool.not_true, Bool.false_eq_true, if_false, r1, r2, r3, Option.bind_some, decide_true, Bool.or_self, bS3 hl, bZ6 hl]
   cases hr : a02 a with
   | false => simp only [Bool.not_false, if_true, Option.bind_some, aI7]
   | true =>
    have v : Val a := ⟨hl, hr⟩
    have hkl := cq6 hl x_.Pattern
    have hs := bs8 (l := (be2 x_.Pattern a.Keys).1) (by omega)
    have hd := cf3 (cq9 (id := x_.Id) v)
    simp only [Bool.not_true, Bool.false_eq_true, if_false, cw3 hl hpl, cf0 hl hpl, cB2 v wi, b55 v wi, cf2 v wi, bg8 v wi, cB3 v wi, b57 v wi, Option.bind_some, if_true, hs, hd, decide_true, Bool.and_self, aI7]
variable {s : Str} {k : List aa1} {c d : aa3}
structure One (c : aa3) : Prop where
 id : c.Id = 1
 fr : ap0 c = false
def Turn (c d c' d' : aa3) : Prop := (¬ c.Phase = 1 ∧ c' = c ∧ d' = d) ∨ ∃ t, a90 c = (c', t, 0) ∧ aF4 d t = (d', 0) ∧ t.length ≤ 1000
theorem w17 : (-9223372036854775808 : Int) ≤ 17 ∧ (17 : Int) ≤ 9223372036854775807 := by omega
structure Round (s s' : aa3 × aa3) : Prop where
 a : One s.1
 b : One s.2
 ex : ∃ c1 d1, Turn s.1 s.2 c1 d1 ∧ Turn d1 c1 s'.2 s'.1 ∧ One c1 ∧ One d1
def cv (p : Str) (r ph st : Int) (k : List aa1) (own peer user : Str) : aa3 := ⟨1, p, r, ph, st, k, own, peer, user, 0⟩
variable {n m : Str}
def t0 (s : Str) : aa2 := ⟨[97, 100, 109], s, [], 1, [], 0⟩
def t1 (s : Str) (k : List aa1) : aa2 := ⟨[97, 100, 109], s, [k], 1, [], 0⟩
def t2 (s : Str) (k : List aa1) : aa2 := ⟨[97, 100, 109], s, [k], 2, [b04 1], 0⟩
def aL7 (s : Str) : Str := bS8 s (Go.Lib.itoa 0)
structure Begins (k : List aa1) (t p : Str) (r : Int) (l : List aa1) : Prop where
 e3 : (bu9 ++ [32]).isPrefixOf t = true
 e4 : an6 (t.drop 6) = (l, 0, 0)
 h1 : ak4 bd9 l = (p, true)
 h2 : bx1 l = r
 hr : r = 1 ∨ r = 2
 h3 : be2 (ch9 l) [k] = (k, true)
 hp : ah7 p = true
 h4 : a87 k = 0
 h5 : bg6 k = true
end Go.Proofs.YtiliognepodhnaaGreatDoor
