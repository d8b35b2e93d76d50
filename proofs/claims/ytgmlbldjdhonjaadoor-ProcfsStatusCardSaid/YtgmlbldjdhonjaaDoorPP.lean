import Derived.Test.YtgmlbldjdhonjaaDoorR
import Derived.Test.YtgmlbldjdhonjaaDoorVmR
namespace Go.Proofs.YtgmlbldjdhonjaaDoor
open Go.Vm
set_option autoImplicit false
set_option linter.unusedVariables false
set_option linter.unusedSimpArgs false
set_option maxRecDepth 100000
theorem bind_id {α : Type} {o : Option α} : (o.bind fun x => some x) = o := by cases o <;> rfl
def badC (c : UInt8) : Bool := decide ((c.toNat : Int) < 33) || (decide (126 < (c.toNat : Int)) || decide ((c.toNat : Int) = 47))
def validN (name : Str) : Bool := !(decide (name = []) || (decide (name = [46]) || (decide (name = [46, 46]) || decide (64 < (List.length name : Int))))) && !name.any badC
def rootedB (p : Str) : Bool := match p with
 | c :: _ => decide (c = 47)
 | [] => false
def splitOn : Str → Str → List Str
 | acc, [] => [acc]
 | acc, c :: r => if c = 47 then acc :: splitOn [] r else splitOn (acc ++ [c]) r
def parts (p : Str) : List Str := splitOn [] p
def stepE (rt : Bool) (out : List Str) (x : Str) : List Str :=
 if x = [] ∨ x = [46] then out
 else if x = [46, 46] then (match out.getLast? with
  | some y => if y = [46, 46] then (if rt = true then out else out ++ [x]) else out.dropLast
  | none => if rt = true then out else out ++ [x])
 else out ++ [x]
def elems (rt : Bool) (l : List Str) : List Str := l.foldl (stepE rt) []
def plainB (x : Str) : Bool := decide (x = []) || (decide (x = [46]) || decide (x = [46, 46]))
def badP (x : Str) : Bool := !plainB x && !validN x
def fin (out : List Str) : List Str × Int := if (32 : Int) < (List.length out : Int) then ([], 4) else (out, 0)
def splitL (rt : Bool) (l : List Str) : List Str × Int := if l.any badP = true then ([], 6) else fin (elems rt l)
def splitP (p : Str) : List Str × Int := if (1024 : Int) < (List.length p : Int) then ([], 4) else splitL (rootedB p) (parts p)
def join47 (l : List Str) : Str := [(47 : UInt8)].intercalate l
def buildP (rt : Bool) (l : List Str) : Str := if rt = true then 47 :: join47 l else if l = [] then [46] else join47 l
def total (l : List Str) : Nat := (l.map fun x => x.length + 1).sum
theorem join47_cons2 (x y : Str) (r : List Str) : join47 (x :: y :: r) = x ++ 47 :: join47 (y :: r) := by
 simp [join47, List.intercalate, List.intersperse]
theorem join47_one (x : Str) : join47 [x] = x := by simp [join47, List.intercalate]
theorem join47_len : ∀ (l : List Str), l ≠ [] → (join47 l).length + 1 = total l
 | [x], _ => by simp [join47_one, total]
 | x :: y :: r, _ => by
  rw [join47_cons2]
  have := join47_len (y :: r) (by simp)
  simp only [total, List.map_cons, List.sum_cons, List.length_append, List.length_cons] at *
  omega
theorem total_append (a b : List Str) : total (a ++ b) = total a + total b := by simp [total]
theorem total_take (l : List Str) (i : Nat) : total (l.take i) ≤ total l := by
 have := total_append (l.take i) (l.drop i)
 rw [List.take_append_drop] at this
 omega
theorem total_mono_dropLast (l : List Str) : total l.dropLast ≤ total l := by rw [List.dropLast_eq_take]; exact total_take l _
theorem stepE_total (rt : Bool) (out : List Str) (x : Str) : total (stepE rt out x) ≤ total out + (if x = [] then 0 else x.length + 1) := by
 unfold stepE
 split
 ·omega
 ·rename_i h
  simp only [not_or] at h
  rw [if_neg h.1]
  split
  ·split
   ·split
    ·split
     ·omega
     ·rw [total_append]; simp [total]
    ·have := total_mono_dropLast out; omega
   ·split
    ·omega
    ·rw [total_append]; simp [total]
  ·rw [total_append]; simp [total]
def weight (l : List Str) : Nat := (l.map fun x => if x = [] then 0 else x.length + 1).sum
theorem foldl_total (rt : Bool) : ∀ (l : List Str) (out : List Str), total (l.foldl (stepE rt) out) ≤ total out + weight l
 | [], out => by simp [weight]
 | x :: r, out => by
  have h1 := stepE_total rt out x
  have h2 := foldl_total rt r (stepE rt out x)
  simp only [List.foldl_cons, weight, List.map_cons, List.sum_cons] at *
  omega
theorem weight_le (l : List Str) : weight l ≤ total l := by
 induction l with
 | nil => simp [weight, total]
 | cons x r ih =>
  simp only [weight, total, List.map_cons, List.sum_cons] at *
  split <;> omega
theorem total_splitOn : ∀ (p acc : Str), total (splitOn acc p) = acc.length + p.length + 1
 | [], acc => by simp [splitOn, total]
 | c :: r, acc => by
  unfold splitOn
  split
  ·have := total_splitOn r []
   simp only [total, List.map_cons, List.sum_cons, List.length_cons, List.length_nil] at *
   omega
  ·have := total_splitOn r (acc ++ [c])
   simp only [List.length_append, List.length_cons, List.length_nil] at *
   omega
theorem weight_parts (p : Str) : weight (parts p) ≤ p.length + (if rootedB p = true then 0 else 1) := by
 have h1 := weight_le (parts p)
 have h2 := total_splitOn p []
 unfold parts at *
 cases p with
 | nil => simp [splitOn, weight]
 | cons c r =>
  simp only [rootedB]
  by_cases hc : c = 47
  ·subst hc
   have h3 := weight_le (splitOn [] r)
   have h4 := total_splitOn r []
   simp only [splitOn, if_true, weight, List.map_cons, List.sum_cons, List.length_cons, List.length_nil, decide_true] at *
   omega
  ·simp only [hc, decide_false, Bool.false_eq_true, if_false, List.length_cons, List.length_nil] at *
   omega
theorem elems_total (p : Str) : total (elems (rootedB p) (parts p)) ≤ p.length + (if rootedB p = true then 0 else 1) := by
 have h1 := foldl_total (rootedB p) (parts p) []
 have h2 := weight_parts p
 unfold elems
 simp only [total, List.map_nil, List.sum_nil] at *
 omega
def good (x : Str) : Prop := x ≠ [] ∧ x ≠ [46] ∧ x ≠ [46, 46] ∧ validN x = true
def okE (rt : Bool) (l : List Str) : Prop := ∃ k b, l = List.replicate k [46, 46] ++ b ∧ (∀ x ∈ b, good x) ∧ (rt = true → k = 0)
theorem okE_nil (rt : Bool) : okE rt [] := ⟨0, [], rfl, by simp, fun _ => rfl⟩
theorem okE_step {rt : Bool} {out : List Str} {x : Str} (h : okE rt out) (hx : badP x = false) : okE rt (stepE rt out x) := by
 unfold stepE
 split
 ·exact h
 ·rename_i h1
  simp only [not_or] at h1
  obtain ⟨k, b, rfl, hb, hk⟩ := h
  split
  ·rename_i h2
   subst h2
   rcases List.eq_nil_or_concat b with rfl | ⟨b', y, rfl⟩
   ·rw [List.append_nil]
    cases k with
    | zero =>
     cases hr : rt with
     | true => exact ⟨0, [], by simp, by simp, fun _ => rfl⟩
     | false => exact ⟨1, [], by simp, by simp, fun h => by cases h⟩
    | succ k =>
     have hf : rt = false := by
      cases rt with
      | true => have := hk rfl; omega
      | false => rfl
     subst hf
     have hl : (List.replicate (k + 1) ([46, 46] : Str)).getLast? = some [46, 46] := by
      rw [List.getLast?_replicate]; simp
     rw [hl]
     simp only [if_true, Bool.false_eq_true, if_false]
     exact ⟨k + 2, [], by rw [List.append_nil, ← List.replicate_succ'], by simp, fun h => by cases h⟩
   ·have hy := hb y (by simp)
    have hl : (List.replicate k ([46, 46] : Str) ++ (b' ++ [y])).getLast? = some y := by simp
    rw [List.concat_eq_append] at *
    rw [hl]
    simp only [if_neg hy.2.2.1]
    refine ⟨k, b', ?_, fun z hz => hb z (by simp [hz]), hk⟩
    rw [← List.append_assoc, List.dropLast_concat]
  ·rename_i h2
   refine ⟨k, b ++ [x], by simp, fun z hz => ?_, hk⟩
   rcases List.mem_append.1 hz with hz | hz
   ·exact hb z hz
   ·obtain rfl := List.mem_singleton.1 hz
    refine ⟨h1.1, h1.2, h2, ?_⟩
    unfold badP plainB at hx
    simp only [h1.1, h1.2, h2, decide_false, Bool.or_self, Bool.not_false, Bool.true_and, Bool.not_eq_false'] at hx
    exact hx
theorem okE_foldl {rt : Bool} : ∀ {l out : List Str}, okE rt out → l.any badP = false → okE rt (l.foldl (stepE rt) out)
 | [], _, h, _ => h
 | x :: r, _, h, hb => by
  simp only [List.any_cons, Bool.or_eq_false_iff] at hb
  rw [List.foldl_cons]
  exact okE_foldl (okE_step h hb.1) hb.2
theorem okE_elems {rt : Bool} {l : List Str} (h : l.any badP = false) : okE rt (elems rt l) := okE_foldl (okE_nil rt) h
theorem build_len {rt : Bool} {l : List Str} : (buildP rt l).length ≤ max 1 (total l + (if rt = true then 0 else 0) - (if rt = true then 0 else 1)) := by
 unfold buildP
 by_cases hl : l = []
 ·subst hl; cases rt <;> simp [join47, List.intercalate] <;> exact Nat.le_max_left _ _
 ·have := join47_len l hl
  cases rt <;> simp [hl] <;> omega
def cleanP (p : Str) : Str × Int := if (splitP p).2 = 0 then (buildP (rootedB p) (splitP p).1, 0) else ([], (splitP p).2)
theorem splitP_cases (p : Str) : ((splitP p).2 ≠ 0 ∧ (splitP p).1 = []) ∨ ((splitP p).2 = 0 ∧ p.length ≤ 1024 ∧ (parts p).any badP = false ∧ (splitP p).1 = elems (rootedB p) (parts p) ∧ (elems (rootedB p) (parts p)).length ≤ 32 ∧ okE (rootedB p) (splitP p).1) := by
 unfold splitP splitL fin
 by_cases h1 : (1024 : Int) < (List.length p : Int)
 ·simp [h1]
 ·rw [if_neg h1]
  cases h2 : (parts p).any badP with
  | true => simp
  | false =>
   simp only [Bool.false_eq_true, if_false]
   by_cases h3 : (32 : Int) < (List.length (elems (rootedB p) (parts p)) : Int)
   ·simp [h3]
   ·right
    rw [if_neg h3]
    exact ⟨rfl, by omega, trivial, rfl, by omega, okE_elems h2⟩
theorem splitP_ok {p : Str} (h : (splitP p).2 = 0) : p.length ≤ 1024 ∧ (parts p).any badP = false ∧ (splitP p).1 = elems (rootedB p) (parts p) ∧ (splitP p).1.length ≤ 32 ∧ okE (rootedB p) (splitP p).1 := by
 rcases splitP_cases p with ⟨h1, _⟩ | ⟨_, h1, h2, h3, h4, h5⟩
 ·exact (h1 h).elim
 ·exact ⟨h1, h2, h3, h3 ▸ h4, h5⟩
theorem build_short {p : Str} (h : (splitP p).2 = 0) : (buildP (rootedB p) (splitP p).1).length ≤ 1024 := by
 obtain ⟨h1, h2, h3, h4, h5⟩ := splitP_ok h
 have hb := build_len (rt := rootedB p) (l := (splitP p).1)
 have ht := elems_total p
 rw [← h3] at ht
 cases hr : rootedB p <;> rw [hr] at ht hb <;> simp at ht hb <;> omega
end Go.Proofs.YtgmlbldjdhonjaaDoor
