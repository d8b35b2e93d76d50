import Derived.Test.YtiliognepodhnaaGreatDoorSA
namespace Go.Proofs.YtiliognepodhnaaGreatDoor
open Go.Vm
set_option linter.unusedVariables false
set_option linter.unusedSimpArgs false
set_option maxRecDepth 100000
variable {a : aa2} {id : Int}
theorem cx0 (o s : Str) : ∃ r, ak2 o s = some r ∧ aT3 o s = some r ∧ af9 r.1 r.1 = some true := by
 refine ⟨(if (decide (o = []) || decide (32 < (List.length o : Int))) = true then (⟨[], [], [], 0, [], 0⟩, 25) else if decide (1024 < (List.length s : Int)) = true then (⟨[], [], [], 0, [], 0⟩, 4) else (⟨o, s, [], 1, [], 0⟩, 0)), ?_, ?_, ?_⟩
 ·unfold ak2; split
  ·rfl
  ·split <;> rfl
 ·rw [← cM5]; unfold ak2; split
  ·rfl
  ·split <;> rfl
 ·split
  ·exact aH5 (by simp) (by simp) (by simp) (by simp)
  ·split
   ·exact aH5 (by simp) (by simp) (by simp) (by simp)
   ·exact aH5 (by simp) (by simp) (by simp) (by simp)
theorem a42 (owner seed : Str) (l : List ax7) (w1 : List.length owner ≤ maxLen) (w2 : List.length seed ≤ maxLen) (wl : List.length l ≤ bB8 ∧ ∀ y ∈ l, aP6 y) : aA0 owner seed l = some true := by
 unfold aA0
 by_cases h0 : (decide ((25 : Int) < (List.length l : Int)) || (decide ((2000 : Int) < (List.length seed : Int)) || decide ((1000 : Int) < (List.length owner : Int)))) = true
 ·rw [if_pos h0, a82]; rfl
 rw [if_neg h0]
 simp only [Bool.or_eq_true, decide_eq_true_eq, not_or] at h0
 obtain ⟨r, r1, _, _⟩ := cx0 owner seed
 rw [r1, Option.bind_some]
 by_cases h1 : r.2 = 0
 case neg => rw [decide_eq_false h1, Bool.not_false, if_pos rfl, a82]; rfl
 rw [decide_eq_true h1, Bool.not_true, if_neg (by simp)]
 have r1' : ak2 owner seed = some (r.1, 0) := by rw [r1, ← h1]
 have v0 : Val r.1 := (cm1 r1' (by omega)).1
 refine (ad1 l.length (fun (b : aa2) i => (i, b)) (fun s => ak4 l s.1 s.2) (fun _ _ => true) (fun _ b => Val b) (s0 := r.1) v0 ?_ ?_)
 ·intro b i hi vb
  simp only [ak4, dlt hi, if_true, aa8 hi, Option.bind_some]
  by_cases h2 : (decide ((500 : Int) < (List.length (l[i]).Text : Int)) || decide ((1000 : Int) < (List.length (l[i]).Uz : Int))) = true
  ·right
   rw [if_pos h2, a82]; rfl
  ·left
   rw [if_neg h2]
   simp only [Bool.or_eq_true, decide_eq_true_eq, not_or] at h2
   have ht : (l[i]).Text.length ≤ 2000 := by omega
   have vs := b44 vb ht
   refine ⟨cl9 b l[i], ?_, trivial, vs⟩
   simp only [cG6 vb (wl.2 _ (List.getElem_mem hi)) ht, Option.bind_some, Bool.not_true, Bool.false_eq_true, if_false, b30 vs.lim, vs.ok]
   rw [ab0 (by omega)]
 ·intro b vb
  simp [ak4, ay4, a82]
variable {s : Str} {k : List aa1} {c d : aa3}
structure One (c : aa3) : Prop where
 id : c.Id = 1
 fr : ap8 c = false
def Turn (c d c' d' : aa3) : Prop := (¬ c.Hz = 1 ∧ c' = c ∧ d' = d) ∨ ∃ t, aY8 c = (c', t, 0) ∧ aD5 d t = (d', 0) ∧ t.length ≤ 1000
theorem w17 : (-9223372036854775808 : Int) ≤ 17 ∧ (17 : Int) ≤ 9223372036854775807 := by omega
structure Round (s s' : aa3 × aa3) : Prop where
 a : One s.1
 b : One s.2
 ex : ∃ c1 d1, Turn s.1 s.2 c1 d1 ∧ Turn d1 c1 s'.2 s'.1 ∧ One c1 ∧ One d1
def cv (p : Str) (r ph st : Int) (k : List aa1) (own peer user : Str) : aa3 := ⟨1, p, r, ph, st, k, own, peer, user, 0⟩
variable {n m : Str}
def t0 (s : Str) : aa2 := ⟨[97, 100, 109], s, [], 1, [], 0⟩
def t1 (s : Str) (k : List aa1) : aa2 := ⟨[97, 100, 109], s, [k], 1, [], 0⟩
def t2 (s : Str) (k : List aa1) : aa2 := ⟨[97, 100, 109], s, [k], 2, [b38 1], 0⟩
def aQ5 (s : Str) : Str := bo4 s (Go.Lib.itoa 0)
structure Begins (k : List aa1) (t p : Str) (r : Int) (l : List aa1) : Prop where
 e3 : (a98 ++ [32]).isPrefixOf t = true
 e4 : af0 (t.drop 6) = (l, 0, 0)
 h1 : aj3 aQ4 l = (p, true)
 h2 : bh4 l = r
 hr : r = 1 ∨ r = 2
 h3 : bn4 (bX0 l) [k] = (k, true)
 hp : ah1 p = true
 h4 : aV5 k = 0
 h5 : bg1 k = true
end Go.Proofs.YtiliognepodhnaaGreatDoor
