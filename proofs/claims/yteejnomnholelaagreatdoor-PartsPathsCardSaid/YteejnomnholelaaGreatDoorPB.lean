import Derived.Test.YteejnomnholelaaGreatDoorPA
namespace Go.Proofs.YteejnomnholelaaGreatDoor
open Go.Vm
set_option autoImplicit false
set_option linter.unusedVariables false
set_option linter.unusedSimpArgs false
set_option maxRecDepth 100000
section
variable {K : Type} [DecidableEq K]
def bW9 (k : K) (l : List (K × Int × Nat)) : Int := match ak3 k l with | some q => q.2.1 | none => 0
theorem b45 (k : K) : bW9 k [] = 0 := rfl
theorem aD7 (k : K) (q : K × Int × Nat) (r : List (K × Int × Nat)) : bW9 k (q :: r) = if k = q.1 then q.2.1 else bW9 k r := by
 by_cases h : k = q.1
 ·simp [bW9, ak3, h]
 ·simp only [bW9, ak3, if_neg h]
  cases ak3 k r <;> rfl
theorem aH2 (m : aE5 K) (k : K) : aP1 m k = bW9 k m.1 := rfl
theorem a93 {k : K} {v : Int} {b : Nat} : ∀ {l : List (K × Int × Nat)}, ak3 k l = none → ∀ k', bW9 k' (l ++ [(k, v, b)]) = if k = k' then v else bW9 k' l
 | [], _, k' => by
  rw [List.nil_append, aD7, b45]
  by_cases h : k = k'
  ·subst h; simp
  ·rw [if_neg h, if_neg (fun e => h e.symm)]
 | q :: r, h, k' => by
  simp only [ak3] at h
  split at h
  ·cases h
  ·rename_i hk
   rw [Option.map_eq_none_iff] at h
   rw [List.cons_append, aD7, aD7, a93 h k']
   by_cases h1 : k' = q.1
   ·rw [if_pos h1, if_pos h1, if_neg (by rintro rfl; exact hk h1)]
   ·rw [if_neg h1, if_neg h1]
theorem aJ2 {k : K} {v : Int} : ∀ {l : List (K × Int × Nat)} {i : Nat} {q : Int × Nat}, ak3 k l = some (i, q) → ∀ k', bW9 k' (l.modify i fun e => (e.1, v, e.2.2)) = if k = k' then v else bW9 k' l
 | [], i, q, h, k' => by cases h
 | a :: r, i, q, h, k' => by
  simp only [ak3] at h
  split at h
  ·rename_i hk
   cases h
   rw [List.modify_zero_cons, aD7, aD7]
   by_cases h1 : k' = a.1
   ·rw [if_pos h1, if_pos (hk.trans h1.symm)]
   ·rw [if_neg h1, if_neg h1, if_neg (by rintro rfl; exact h1 hk)]
  ·rename_i hk
   obtain ⟨⟨j, q'⟩, hj, he⟩ := Option.map_eq_some_iff.1 h
   cases he
   rw [List.modify_succ_cons, aD7, aD7, aJ2 hj k']
   by_cases h1 : k' = a.1
   ·rw [if_pos h1, if_pos h1, if_neg (by rintro rfl; exact hk h1)]
   ·rw [if_neg h1, if_neg h1]
theorem bq4 (m : aE5 K) (k : K) (v : Int) (k' : K) : aP1 (bW7 m k v) k' = if k = k' then v else aP1 m k' := by
 unfold bW7
 rw [aH2, aH2]
 cases h : ak3 k m.1 with
 | none => exact a93 h k'
 | some q => obtain ⟨i, q⟩ := q; exact aJ2 h k'
def Rise (m : aE5 K) : Prop := m.1.Pairwise (fun a b => a.2.2 < b.2.2) ∧ ∀ q ∈ m.1, q.2.2 < m.2
omit [DecidableEq K] in
theorem Rise.nil : Rise (([], 0) : aE5 K) := ⟨.nil, by simp⟩
omit [DecidableEq K] in
theorem Rise.push {m : aE5 K} (h : Rise m) (k : K) (v : Int) : Rise ((m.1 ++ [(k, v, m.2)], m.2 + 1) : aE5 K) := by
 refine ⟨List.pairwise_append.2 ⟨h.1, by simp, fun a ha b hb => ?_⟩, fun q hq => ?_⟩
 ·simp only [List.mem_singleton] at hb; subst hb; exact h.2 a ha
 ·rcases List.mem_append.1 hq with hq | hq
  ·exact Nat.lt_succ_of_lt (h.2 q hq)
  ·simp only [List.mem_singleton] at hq; subst hq; exact Nat.lt_succ_self _
omit [DecidableEq K] in
theorem aV5 (v : Int) : ∀ (l : List (K × Int × Nat)) (i : Nat), (l.modify i fun e => (e.1, v, e.2.2)).map (fun q => q.2.2) = l.map (fun q => q.2.2)
 | [], i => by cases i <;> rfl
 | a :: r, 0 => by simp
 | a :: r, i + 1 => by simp [aV5 v r i]
omit [DecidableEq K] in
theorem Rise.modify {m : aE5 K} (h : Rise m) (i : Nat) (v : Int) : Rise ((m.1.modify i fun e => (e.1, v, e.2.2), m.2) : aE5 K) := by
 have e := aV5 v m.1 i
 have h1 : (m.1.map (fun q => q.2.2)).Pairwise (· < ·) := List.pairwise_map.2 h.1
 refine ⟨?_, ?_⟩
 ·have := e ▸ h1
  exact List.pairwise_map.1 this
 ·intro q hq
  have : q.2.2 ∈ (m.1.modify i fun e => (e.1, v, e.2.2)).map (fun q => q.2.2) := List.mem_map_of_mem hq
  rw [e] at this
  obtain ⟨p, hp, hpe⟩ := List.mem_map.1 this
  have := h.2 p hp
  simp only at hpe ⊢
  omega
theorem Rise.set {m : aE5 K} (h : Rise m) (k : K) (v : Int) : Rise (bW7 m k v) := by
 unfold bW7
 cases hf : ak3 k m.1 with
 | none => exact h.push k v
 | some q => exact h.modify _ v
theorem Rise.ent {m : aE5 K} (h : Rise m) (k : K) : Rise (bb8 m k).2.2 := by
 unfold bb8
 cases hf : ak3 k m.1 with
 | none => exact h.push k 0
 | some q => exact h
theorem a94 {k : K} : ∀ {l : List (K × Int × Nat)} {i : Nat} {v : Int} {b : Nat}, l.Pairwise (fun a b => a.2.2 < b.2.2) → ak3 k l = some (i, v, b) → l.findIdx? (fun q => (q.2.2 : Int) == (b : Int)) = some i
 | [], _, _, _, _, h => by cases h
 | a :: r, i, v, b, hp, h => by
  rw [List.pairwise_cons] at hp
  simp only [ak3] at h
  rw [List.findIdx?_cons]
  split at h
  ·simp only [Option.some.injEq, Prod.mk.injEq] at h
   obtain ⟨rfl, h2⟩ := h
   simp [h2]
  ·obtain ⟨⟨j, v', b'⟩, hj, he⟩ := Option.map_eq_some_iff.1 h
   cases he
   have hm : ∃ p ∈ r, p.2.2 = b := by
    have : ∀ {l : List (K × Int × Nat)} {j : Nat}, ak3 k l = some (j, v, b) → ∃ p ∈ l, p.2.2 = b := by
     intro l
     induction l with
     | nil => intro j h; cases h
     | cons a r ih =>
      intro j h
      simp only [ak3] at h
      split at h
      ·simp only [Option.some.injEq, Prod.mk.injEq] at h
       obtain ⟨_, h2⟩ := h
       exact ⟨a, by simp, by rw [h2]⟩
      ·obtain ⟨⟨j', v', b'⟩, hj, he⟩ := Option.map_eq_some_iff.1 h
       cases he
       obtain ⟨p, h1, h2⟩ := ih hj
       exact ⟨p, by simp [h1], h2⟩
    exact this hj
   obtain ⟨p, hp1, hp2⟩ := hm
   have := hp.1 p hp1
   rw [if_neg (by simp; omega), a94 hp.2 hj]
   rfl
theorem bq5 {k : K} {v : Int} {b : Nat} : ∀ {l : List (K × Int × Nat)}, ak3 k l = none → ak3 k (l ++ [(k, v, b)]) = some (l.length, v, b)
 | [], _ => by simp [ak3]
 | q :: r, h => by
  simp only [ak3] at h
  split at h
  ·cases h
  ·rename_i hk
   rw [Option.map_eq_none_iff] at h
   simp only [List.cons_append, ak3, if_neg hk, bq5 h, Option.map_some, List.length_cons]
theorem cd5 {m : aE5 K} (h : Rise m) (k : K) (v : Int) : ∃ m', b00 (bb8 m k).2.2 ((bb8 m k).2.1 : Int) v = some m' ∧ Rise ((m', (bb8 m k).2.2.2) : aE5 K) ∧ ∀ k', aP1 (m', (bb8 m k).2.2.2) k' = if k = k' then v else aP1 m k' := by
 have hr := h.ent k
 unfold bb8 at hr ⊢
 cases hf : ak3 k m.1 with
 | none =>
  rw [hf] at hr
  simp only at hr ⊢
  have hfp := bq5 (v := 0) (b := m.2) hf
  have hix := a94 hr.1 hfp
  refine ⟨(m.1 ++ [(k, 0, m.2)]).modify m.1.length fun e => (e.1, v, e.2.2), ?_, hr.modify m.1.length v, fun k' => ?_⟩
  ·exact congrArg (Option.map fun i => (m.1 ++ [(k, 0, m.2)]).modify i fun e => (e.1, v, e.2.2)) hix
  rw [aH2, aH2]
  simp only
  rw [aJ2 hfp k', a93 hf k']
  split <;> rfl
 | some q =>
  obtain ⟨i, v0, b⟩ := q
  simp only
  have hix := a94 h.1 hf
  refine ⟨m.1.modify i fun e => (e.1, v, e.2.2), ?_, h.modify i v, fun k' => ?_⟩
  ·exact congrArg (Option.map fun i => m.1.modify i fun e => (e.1, v, e.2.2)) hix
  rw [aH2, aH2]
  exact aJ2 hf k'
end
def bU7 (c : UInt8) : Bool := decide ((c.toNat : Int) < 33) || (decide (126 < (c.toNat : Int)) || decide ((c.toNat : Int) = 47))
def aZ6 (name : Str) : Bool := !(decide (name = []) || (decide (name = [46]) || (decide (name = [46, 46]) || decide (64 < (List.length name : Int))))) && !name.any bU7
theorem bC1 {name : Str} {i : Nat} (h : i < name.length) : (name.drop i).any bU7 = (bU7 name[i] || (name.drop (i + 1)).any bU7) := by
 rw [List.drop_eq_getElem_cons h, List.any_cons]
theorem bk1 {name : Str} : aN6 name = some (aZ6 name) := by
 unfold aN6 aZ6
 cases hc : (decide (name = []) || (decide (name = [46]) || (decide (name = [46, 46]) || decide (64 < (List.length name : Int))))) with
 | true => simp
 | false =>
  have hm : name.length ≤ maxLen := by
   simp only [Bool.or_eq_false_iff, decide_eq_false_iff_not] at hc
   unfold maxLen; omega
  have := am3 name.length (fun (s : Unit) i => i) (fun s => as6 name s) (fun i _ => !(name.drop i).any bU7) (fun _ _ => True) (s0 := ()) trivial ?_ ?_
  ·simp only [Bool.false_eq_true, if_false, Bool.not_false, Bool.true_and]
   rw [this]; rfl
  ·intro s i hi _
   have hd : decide ((i : Int) < (List.length name : Int)) = true := by simp [hi]
   simp only [as6, aU3 hi, bR2 hi hm, Option.bind_some, bC1 hi, bU7, hd, if_true]
   generalize (name.drop (i + 1)).any bU7 = R
   cases decide ((name[i].toNat : Int) < 33) <;> cases decide (126 < (name[i].toNat : Int)) <;> cases decide ((name[i].toNat : Int) = 47) <;> simp
  ·intro s _; simp [as6]
theorem bc4 {name : Str} (hm : name.length ≤ maxLen) : aI8 name = some (aZ6 name) := by
 unfold aI8 aZ6
 have := am3 name.length (fun (s : Unit) i => i) (fun s => ar3 name s) (fun i _ => !(name.drop i).any bU7 && (decide (1 ≤ (List.length name : Int)) && (decide ((List.length name : Int) ≤ 64) && (!decide (name = [46]) && !decide (name = [46, 46]))))) (fun _ _ => True) (s0 := ()) trivial ?_ ?_
 ·rw [this]
  congr 1
  have h1 : decide (1 ≤ (List.length name : Int)) = !decide (name = []) := by
   cases name with
   | nil => rfl
   | cons a r => simp; omega
  have h2 : decide ((List.length name : Int) ≤ 64) = !decide (64 < (List.length name : Int)) := by
   rw [Bool.eq_iff_iff]; simp
  rw [h1, h2, List.drop_zero]
  cases name.any bU7 <;> cases decide (name = []) <;> cases decide (64 < (List.length name : Int)) <;> cases decide (name = [46]) <;> cases decide (name = [46, 46]) <;> rfl
 ·intro s i hi _
  have hd : decide ((i : Int) < (List.length name : Int)) = true := by simp [hi]
  simp only [ar3, aU3 hi, bR2 hi hm, Option.bind_some, bC1 hi, bU7, hd, if_true]
  generalize (name.drop (i + 1)).any bU7 = R
  cases decide ((name[i].toNat : Int) < 33) <;> cases decide (126 < (name[i].toNat : Int)) <;> cases decide ((name[i].toNat : Int) = 47) <;> simp
 ·intro s _; simp [ar3]
def bJ3 (m : Int) : Prop := 0 ≤ m ∧ m < 4294967296 ∧ (m - m % 512 = 0 ∨ m - m % 512 = 2147483648 ∨ m - m % 512 = 1073741824 ∨ m - m % 512 = 536870912 ∨ m - m % 512 = 1610612736)
instance (m : Int) : Decidable (bJ3 m) := by unfold bJ3; infer_instance
theorem cd6 (m : Int) : aN2 m = some (decide (bJ3 m)) := by
 unfold aN2
 by_cases h : 0 ≤ m ∧ m < 4294967296
 ·have ht : Int.tmod m 512 = m % 512 := Int.tmod_eq_emod_of_nonneg h.1
  rw [if_neg (by simp; omega), ht, ae0 (by omega) (by omega)]
  congr 1
  rw [Bool.eq_iff_iff, decide_eq_true_eq (p := bJ3 m)]
  simp only [Bool.or_eq_true, decide_eq_true_eq]
  exact ⟨fun hh => ⟨h.1, h.2, hh⟩, fun hh => hh.2.2⟩
 ·rw [if_pos (by simp; omega)]
  congr 1
  symm
  rw [decide_eq_false_iff_not]
  intro hp
  exact h ⟨hp.1, hp.2.1⟩
theorem bJ4 {m : Int} (h : bJ3 m) : aN3 m = some true := by
 obtain ⟨h0, h1, h2⟩ := h
 have ht : Int.tmod m 512 = m % 512 := Int.tmod_eq_emod_of_nonneg h0
 unfold aN3 ap1
 rw [if_neg (by simp; omega), ht, ae0 (by omega) (by omega)]
 rcases h2 with h2 | h2 | h2 | h2 | h2 <;> rw [h2] <;> simp
theorem bC2 {m : Int} (h0 : 0 ≤ m) (h1 : m < 4294967296) : am4 m = some (decide (2147483648 ≤ m)) := by
 unfold am4
 rw [Int.tdiv_eq_ediv_of_nonneg h0, ae0 (by omega) (by omega), Int.tmod_eq_emod_of_nonneg (by omega)]
 congr 1
 rw [Bool.eq_iff_iff]
 simp only [Bool.and_eq_true, decide_eq_true_eq]
 omega
structure aO1 (n : aa1) : Prop where
 mode : bJ3 n.Mode
 vers : 0 ≤ n.Vers ∧ n.Vers ≤ 2147483647
 atime : 0 ≤ n.Atime ∧ n.Atime ≤ 1099511627776
 mtime : 0 ≤ n.Mtime ∧ n.Mtime ≤ 1099511627776
 uid : n.Uid.length ≤ 64
 gid : n.Gid.length ≤ 64
 muid : n.Muid.length ≤ 64
 data : n.Data.length ≤ 65536
 dir : 2147483648 ≤ n.Mode → n.Data = []
theorem bq6 (n : aa1) : ∃ b, au0 n = some b ∧ (b = true ↔ aO1 n) := by
 unfold au0
 rw [cd6, Option.bind_some]
 split
 ·rename_i h1
  simp only [Bool.or_eq_true, Bool.not_eq_true', decide_eq_true_eq, decide_eq_false_iff_not] at h1
  refine ⟨false, rfl, fun h => (by cases h), fun h => ?_⟩
  have a1 := h.vers; have a2 := h.atime; have a3 := h.mtime
  rcases h1 with h1 | h1
  ·exact absurd h.mode h1
  ·omega
 ·rename_i h1
  simp only [Bool.or_eq_true, Bool.not_eq_true', decide_eq_true_eq, decide_eq_false_iff_not, not_or, Decidable.not_not] at h1
  split
  ·rename_i h2
   simp only [Bool.or_eq_true, decide_eq_true_eq] at h2
   refine ⟨false, rfl, fun h => (by cases h), fun h => ?_⟩
   have a1 := h.uid; have a2 := h.gid; have a3 := h.muid; have a4 := h.data
   omega
  ·rename_i h2
   simp only [Bool.or_eq_true, decide_eq_true_eq, not_or] at h2
   refine ⟨_, rfl, fun h3 => ?_, fun h => by
    simp only [Bool.or_eq_true, Bool.not_eq_true', decide_eq_true_eq, decide_eq_false_iff_not]
    by_cases hm : 2147483648 ≤ n.Mode
    ·exact .inr (h.dir hm)
    ·exact .inl hm⟩
   simp only [Bool.or_eq_true, Bool.not_eq_true', decide_eq_true_eq, decide_eq_false_iff_not] at h3
   obtain ⟨a1, a2, a3, a4, a5, a6, a7⟩ := h1
   obtain ⟨b1, b2, b3, b4⟩ := h2
   exact ⟨a1, by omega, by omega, by omega, by omega, by omega, by omega, by omega, fun hm => by
    rcases h3 with h3 | h3
    ·exact absurd hm h3
    ·exact h3⟩
theorem b46 {n : aa1} (h : aO1 n) : aN5 n = some true := by
 unfold aN5 aN4
 rw [bJ4 h.mode, Option.bind_some]
 have h1 := h.vers; have h2 := h.atime; have h3 := h.mtime; have h4 := h.uid; have h5 := h.gid; have h6 := h.muid; have h7 := h.data
 rw [if_neg (by decide), if_neg (by rw [decide_eq_true_eq]; omega), if_neg (by rw [decide_eq_true_eq]; omega), Option.bind_some, Option.bind_some, if_neg (by simp; omega), Option.bind_some]
 rw [if_neg (by simp; omega), if_neg (by simp; omega), bC2 h.mode.1 h.mode.2.1, Option.bind_some]
 congr 1
 by_cases hm : 2147483648 ≤ n.Mode
 ·simp [h.dir hm]
 ·simp [hm]
def nd (l : List aa1) (i : Nat) : aa1 := l.getD i default
theorem ax4 {l : List aa1} {i : Nat} (h : i < l.length) : ah3 l (i : Int) = some (nd l i) := by
 rw [at4 h]; simp [nd, List.getD, List.getElem?_eq_getElem h]
theorem a95 {l : List aa1} {i : Nat} (h : i < l.length) : nd l i ∈ l := by
 simp [nd, List.getD, List.getElem?_eq_getElem h]
theorem b47 {l : List aa1} {i : Nat} (h : i < l.length) (h0 : 0 < i) : ah3 l ((i : Int) - 1) = some (nd l (i - 1)) := by
 rw [show (i : Int) - 1 = ((i - 1 : Nat) : Int) by omega, ax4 (by omega)]
structure OkAt (l : List aa1) (i : Nat) : Prop where
 rise : (nd l (i - 1)).Id < (nd l i).Id
 par : (nd l i).Parent < (nd l i).Id
 name : aZ6 (nd l i).Name = true
 fields : aO1 (nd l i)
 dir : ∃ k, k < i ∧ (nd l k).Id = (nd l i).Parent ∧ 2147483648 ≤ (nd l k).Mode
 one : ∀ k, 0 < k → k < i → ¬ ((nd l k).Parent = (nd l i).Parent ∧ (nd l k).Name = (nd l i).Name)
open Classical in
theorem b48 {t : aa3} {i : Nat} (hi : i < t.Nodes.length) (hl : t.Nodes.length ≤ 1024) : ae4 (fun s => an6 t (i : Int) s.1 s.2) (false, 0) =
  some (if (∀ k, 0 < k → k < i → ¬ ((nd t.Nodes k).Parent = (nd t.Nodes i).Parent ∧ (nd t.Nodes k).Name = (nd t.Nodes i).Name)) ∧ (∃ k, k < i ∧ (nd t.Nodes k).Id = (nd t.Nodes i).Parent ∧ 2147483648 ≤ (nd t.Nodes k).Mode) then .cont ((i + 1 : Nat) : Int) else .done false) := by
 refine (am3 i (fun (d : Bool) k => (d, k)) (fun s => an6 t (i : Int) s.1 s.2)
  (fun k d => if (∀ j, 0 < j → k ≤ j → j < i → ¬ ((nd t.Nodes j).Parent = (nd t.Nodes i).Parent ∧ (nd t.Nodes j).Name = (nd t.Nodes i).Name)) ∧ (d = true ∨ ∃ j, k ≤ j ∧ j < i ∧ (nd t.Nodes j).Id = (nd t.Nodes i).Parent ∧ 2147483648 ≤ (nd t.Nodes j).Mode) then .cont ((i + 1 : Nat) : Int) else .done false)
  (fun _ _ => True) (s0 := false) trivial ?_ ?_).trans ?_
 ·intro d k hk _
  have hkl : k < t.Nodes.length := by omega
  unfold an6 aI7
  simp only
  rw [if_pos (dlt hk), ax4 hkl, ax4 hi]
  simp only [Option.bind_some]
  have e1 : (if d = true then some true else if decide ((nd t.Nodes k).Id = (nd t.Nodes i).Parent) = true then some (decide (2147483648 ≤ (nd t.Nodes k).Mode)) else some false) = some (d || (decide ((nd t.Nodes k).Id = (nd t.Nodes i).Parent) && decide (2147483648 ≤ (nd t.Nodes k).Mode))) := by
   cases d <;> simp
   split <;> simp [*]
  have e2 : (if decide (0 < (k : Int)) = true then if decide ((nd t.Nodes k).Parent = (nd t.Nodes i).Parent) = true then some (decide ((nd t.Nodes k).Name = (nd t.Nodes i).Name)) else some false else some false) = some (decide (0 < k) && (decide ((nd t.Nodes k).Parent = (nd t.Nodes i).Parent) && decide ((nd t.Nodes k).Name = (nd t.Nodes i).Name))) := by
   by_cases h0 : 0 < k
   ·rw [if_pos (by simp; omega)]
    split <;> simp [*]
   ·rw [if_neg (by simp; omega)]; simp [h0]
  rw [e1, Option.bind_some, e2, Option.bind_some]
  by_cases hb : 0 < k ∧ (nd t.Nodes k).Parent = (nd t.Nodes i).Parent ∧ (nd t.Nodes k).Name = (nd t.Nodes i).Name
  ·right
   rw [if_pos (by simp [hb]), if_neg]
   rintro ⟨h, _⟩
   exact h k hb.1 (Nat.le_refl _) hk hb.2
  ·left
   rw [if_neg (by simp only [Bool.and_eq_true, decide_eq_true_eq]; exact hb), aj2 (by omega)]
   refine ⟨_, rfl, ?_, trivial⟩
   congr 1
   rw [eq_iff_iff]
   refine and_congr ?_ ?_
   ·constructor
    ·intro h j h1 h2 h3; exact h j h1 (by omega) h3
    ·intro h j h1 h2 h3
     by_cases hj : j = k
     ·subst hj; exact fun hh => hb ⟨h1, hh⟩
     ·exact h j h1 (by omega) h3
   ·simp only [Bool.or_eq_true, Bool.and_eq_true, decide_eq_true_eq]
    constructor
    ·rintro (h | ⟨j, h1, h2, h3⟩)
     ·exact .inl (.inl h)
     ·by_cases hj : j = k
      ·subst hj; exact .inl (.inr h3)
      ·exact .inr ⟨j, by omega, h2, h3⟩
    ·rintro ((h | h) | ⟨j, h1, h2, h3⟩)
     ·exact .inl h
     ·exact .inr ⟨k, Nat.le_refl _, hk, h⟩
     ·exact .inr ⟨j, by omega, h2, h3⟩
 ·intro d _
  unfold an6 az3
  simp only
  rw [if_neg (by simp)]
  have : ¬ (∃ j, i ≤ j ∧ j < i ∧ (nd t.Nodes j).Id = (nd t.Nodes i).Parent ∧ 2147483648 ≤ (nd t.Nodes j).Mode) := by rintro ⟨j, h1, h2, _⟩; omega
  cases d
  ·rw [if_pos (show (!false) = true from rfl), if_neg (by
    rintro ⟨_, h | h⟩
    ·cases h
    ·exact this h)]
   rfl
  ·rw [if_neg (show ¬ (!true) = true by decide), if_pos ⟨fun j _ h1 h2 => by omega, .inl rfl⟩, aj2 (by omega)]
   rfl
 ·congr 1
  simp
structure RightT (t : aa3) : Prop where
 len : 1 ≤ t.Nodes.length ∧ t.Nodes.length ≤ 1024
 id0 : (nd t.Nodes 0).Id = 1
 par0 : (nd t.Nodes 0).Parent = 1
 name0 : (nd t.Nodes 0).Name = [47]
 mode0 : 2147483648 ≤ (nd t.Nodes 0).Mode
 f0 : aO1 (nd t.Nodes 0)
 next : (nd t.Nodes (t.Nodes.length - 1)).Id < t.Next ∧ t.Next ≤ 1048576
 ok : ∀ i, 0 < i → i < t.Nodes.length → OkAt t.Nodes i
open Classical in
theorem b49 {t : aa3} (hn : ∀ n ∈ t.Nodes, n.Name.length ≤ 1000) (hl : t.Nodes.length ≤ 1024) : ae4 (fun s => ak4 t s) 1 = some (decide (∀ j, 0 < j → j < t.Nodes.length → OkAt t.Nodes j)) := by
 by_cases h0 : t.Nodes.length = 0
 ·have e : decide (∀ j, 0 < j → j < t.Nodes.length → OkAt t.Nodes j) = true := decide_eq_true fun j h1 h2 => by omega
  rw [e]
  refine ab6 ?_
  unfold ak4
  rw [if_neg (by rw [decide_eq_true_eq]; omega)]
 have key := am3 (t.Nodes.length - 1) (fun (_ : Unit) i => i + 1) (fun s => ak4 t s) (fun i _ => decide (∀ j, i < j → j < t.Nodes.length → OkAt t.Nodes j)) (fun _ _ => True) (s0 := ()) trivial
  (by
   intro _ i hi _
   have hp : i + 1 < t.Nodes.length := by omega
   have ep : (i : Int) + 1 = ((i + 1 : Nat) : Int) := by omega
   obtain ⟨f, hf, hf2⟩ := bq6 (nd t.Nodes (i + 1))
   have hname := hn _ (a95 hp)
   have hin := b48 hp hl
   unfold ak4
   rw [ep, if_pos (dlt hp), ax4 hp, ae0 (by omega) (by omega), show ((i + 1 : Nat) : Int) - 1 = (i : Int) by omega, ax4 (show i < t.Nodes.length by omega)]
   simp only [Option.bind_some]
   rw [bc4 (by unfold maxLen; omega), hf]
   simp only [Option.bind_some]
   have chk : ∃ c, (if decide ((nd t.Nodes (i + 1)).Id ≤ (nd t.Nodes i).Id) = true then some true else if decide ((nd t.Nodes (i + 1)).Id ≤ (nd t.Nodes (i + 1)).Parent) = true then some true else if (!aZ6 (nd t.Nodes (i + 1)).Name) = true then some true else some (!f)) = some c ∧
     (c = false ↔ (nd t.Nodes i).Id < (nd t.Nodes (i + 1)).Id ∧ (nd t.Nodes (i + 1)).Parent < (nd t.Nodes (i + 1)).Id ∧ aZ6 (nd t.Nodes (i + 1)).Name = true ∧ f = true) := by
    by_cases a1 : (nd t.Nodes (i + 1)).Id ≤ (nd t.Nodes i).Id
    ·exact ⟨true, by simp [a1], by simp; omega⟩
    ·by_cases a2 : (nd t.Nodes (i + 1)).Id ≤ (nd t.Nodes (i + 1)).Parent
     ·exact ⟨true, by simp [a1, a2], by simp; omega⟩
     ·cases a3 : aZ6 (nd t.Nodes (i + 1)).Name with
      | false => exact ⟨true, by simp [a1, a2], by simp⟩
      | true => exact ⟨!f, by simp [a1, a2], by simp only [Bool.not_eq_false']; exact ⟨fun h => ⟨by omega, by omega, trivial, h⟩, fun h => h.2.2.2⟩⟩
   obtain ⟨c, hc, hc2⟩ := chk
   rw [hc, Option.bind_some]
   cases c with
   | true =>
    right
    rw [if_pos rfl]
    congr 2
    symm
    rw [decide_eq_false_iff_not]
    intro h
    have ok := h (i + 1) (by omega) hp
    have := hc2.2 ⟨by simpa using ok.rise, ok.par, ok.name, hf2.2 ok.fields⟩
    cases this
   | false =>
    obtain ⟨d1, d2, d3, d4⟩ := hc2.1 rfl
    rw [if_neg (by decide), hin]
    split
    ·rename_i hg
     left
     refine ⟨(), rfl, ?_, trivial⟩
     rw [decide_eq_decide]
     constructor
     ·intro h j h1 h2; exact h j (by omega) h2
     ·intro h j h1 h2
      by_cases hj : j = i + 1
      ·subst hj; exact ⟨by simpa using d1, d2, d3, hf2.1 d4, hg.2, hg.1⟩
      ·exact h j (by omega) h2
    ·rename_i hg
     right
     congr 2
     symm
     rw [decide_eq_false_iff_not]
     intro h
     have ok := h (i + 1) (by omega) hp
     exact hg ⟨ok.one, ok.dir⟩)
  (by
   intro _ _
   unfold ak4
   rw [show ((t.Nodes.length - 1 : Nat) : Int) + 1 = (t.Nodes.length : Int) by omega, if_neg (by simp)]
   congr 2
   symm
   rw [decide_eq_true_eq]
   intro j h1 h2; omega)
 exact key
open Classical in
theorem bw9 (t : aa3) (hn : ∀ n ∈ t.Nodes, n.Name.length ≤ 1000) (hnx : t.Nodes.length ≤ 1024) : ∃ b, aC5 t = some b ∧ (b = true → RightT t) := by
 unfold aC5
 by_cases h1 : t.Nodes.length < 1
 ·rw [if_pos (by rw [decide_eq_true_eq]; omega), Option.bind_some, if_pos rfl]
  exact ⟨false, rfl, fun h => by cases h⟩
 rw [if_neg (by rw [decide_eq_true_eq]; omega), if_neg (by rw [decide_eq_true_eq]; omega)]
 have l0 : ah3 t.Nodes 0 = some (nd t.Nodes 0) := ax4 (i := 0) (by omega)
 rw [l0]
 simp only [Option.bind_some]
 obtain ⟨f, hf, hf2⟩ := bq6 (nd t.Nodes 0)
 rw [hf, Option.bind_some]
 have root : ∃ c, (if (!decide ((nd t.Nodes 0).Id = 1)) = true then some true else if (!decide ((nd t.Nodes 0).Parent = 1)) = true then some true else if (!decide ((nd t.Nodes 0).Name = [47])) = true then some true else if decide ((nd t.Nodes 0).Mode < 2147483648) = true then some true else some (!f)) = some c ∧
   (c = false → (nd t.Nodes 0).Id = 1 ∧ (nd t.Nodes 0).Parent = 1 ∧ (nd t.Nodes 0).Name = [47] ∧ 2147483648 ≤ (nd t.Nodes 0).Mode ∧ f = true) := by
  by_cases a1 : (nd t.Nodes 0).Id = 1
  ·by_cases a2 : (nd t.Nodes 0).Parent = 1
   ·by_cases a3 : (nd t.Nodes 0).Name = [47]
    ·by_cases a4 : (nd t.Nodes 0).Mode < 2147483648
     ·exact ⟨true, by simp [a1, a2, a3, a4], fun h => by cases h⟩
     ·exact ⟨!f, by simp [a1, a2, a3, a4], fun h => ⟨a1, a2, a3, by omega, by simpa using h⟩⟩
    ·exact ⟨true, by simp [a1, a2, a3], fun h => by cases h⟩
   ·exact ⟨true, by simp [a1, a2], fun h => by cases h⟩
  ·exact ⟨true, by simp [a1], fun h => by cases h⟩
 obtain ⟨c, hc, hc2⟩ := root
 rw [hc, Option.bind_some]
 cases c with
 | true => exact ⟨false, rfl, fun h => by cases h⟩
 | false =>
  obtain ⟨b1, b2, b3, b4, b5⟩ := hc2 rfl
  rw [if_neg (by decide), ae0 (by omega) (by omega), show ((List.length t.Nodes : Int) - 1) = ((t.Nodes.length - 1 : Nat) : Int) by omega, ax4 (by omega), Option.bind_some]
  split
  ·exact ⟨false, rfl, fun h => by cases h⟩
  ·rename_i hnext
   simp only [Bool.or_eq_true, decide_eq_true_eq, not_or] at hnext
   refine ⟨_, b49 hn hnx, fun h => ?_⟩
   have hall := of_decide_eq_true h
   exact ⟨by omega, b1, b2, b3, b4, hf2.1 b5, by omega, fun i h1 h2 => hall i h1 h2⟩
theorem RightT.lt {t : aa3} (h : RightT t) : ∀ {j i : Nat}, i < j → j < t.Nodes.length → (nd t.Nodes i).Id < (nd t.Nodes j).Id
 | 0, i, h1, _ => by omega
 | j + 1, i, h1, h2 => by
  have hr := (h.ok (j + 1) (by omega) h2).rise
  rw [Nat.add_sub_cancel] at hr
  by_cases hij : i = j
  ·subst hij; exact hr
  ·exact Int.lt_trans (h.lt (j := j) (i := i) (by omega) (by omega)) hr
theorem RightT.inj {t : aa3} (h : RightT t) {i j : Nat} (hi : i < t.Nodes.length) (hj : j < t.Nodes.length) (he : (nd t.Nodes i).Id = (nd t.Nodes j).Id) : i = j := by
 rcases Nat.lt_trichotomy i j with h1 | h1 | h1
 ·have := h.lt h1 hj; omega
 ·exact h1
 ·have := h.lt h1 hi; omega
theorem RightT.id_lt {t : aa3} (h : RightT t) {i : Nat} (hi : i < t.Nodes.length) : 1 ≤ (nd t.Nodes i).Id ∧ (nd t.Nodes i).Id < t.Next := by
 have h1 := h.id0
 have h2 := h.next
 constructor
 ·by_cases h0 : i = 0
  ·subst h0; omega
  ·have := h.lt (i := 0) (j := i) (by omega) hi; omega
 ·by_cases h0 : i = t.Nodes.length - 1
  ·subst h0; exact h2.1
  ·have := h.lt (i := i) (j := t.Nodes.length - 1) (by omega) (by omega); omega
theorem RightT.fields {t : aa3} (h : RightT t) {i : Nat} (hi : i < t.Nodes.length) : aO1 (nd t.Nodes i) := by
 by_cases h0 : i = 0
 ·subst h0; exact h.f0
 ·exact (h.ok i (by omega) hi).fields
def cd7 (t : aa3) (k : Nat) : ab9 := ⟨(nd t.Nodes k).Parent, (nd t.Nodes k).Name⟩
structure InvM (t : aa3) (i : Nat) (m1 : aE5 Int) (m2 : aE5 ab9) : Prop where
 rise : Rise m2
 rng : ∀ id, 0 ≤ aP1 m1 id ∧ aP1 m1 id ≤ i
 dirs : ∀ k, k < i → 2147483648 ≤ (nd t.Nodes k).Mode → 1 ≤ aP1 m1 (nd t.Nodes k).Id
 names : ∀ key, (∀ k, 0 < k → k < i → key ≠ cd7 t k) → aP1 m2 key = 0
theorem b92 {t : aa3} {i : Nat} {m1 : aE5 Int} {m2 : aE5 ab9} (hl : t.Nodes.length ≤ 1024) (hi : i < t.Nodes.length) (hf : aO1 (nd t.Nodes i)) (hr : ∀ id, 0 ≤ aP1 m1 id ∧ aP1 m1 id ≤ i)
  (hd : ∀ k, k < i → 2147483648 ≤ (nd t.Nodes k).Mode → 1 ≤ aP1 m1 (nd t.Nodes k).Id) :
  ∃ m1', as7 (i : Int) m1 (nd t.Nodes i) m2 = some (.cont (((i : Int) + 1), m1', m2)) ∧ (∀ id, 0 ≤ aP1 m1' id ∧ aP1 m1' id ≤ ((i + 1 : Nat) : Int)) ∧ ∀ k, k < i + 1 → 2147483648 ≤ (nd t.Nodes k).Mode → 1 ≤ aP1 m1' (nd t.Nodes k).Id := by
 unfold as7
 rw [bC2 hf.mode.1 hf.mode.2.1, Option.bind_some, aj2 (by omega)]
 have h0 := hr (nd t.Nodes i).Id
 by_cases hm : 2147483648 ≤ (nd t.Nodes i).Mode
 ·rw [if_pos (by simp [hm]), ae0 (by omega) (by omega)]
  refine ⟨_, rfl, fun id => ?_, fun k hk hkm => ?_⟩
  ·rw [bq4]
   have := hr id
   split <;> omega
  ·rw [bq4]
   split
   ·omega
   ·rename_i hne
    exact hd k (by
     have : k ≠ i := by rintro rfl; exact hne rfl
     omega) hkm
 ·rw [if_neg (by simpa using hm)]
  refine ⟨_, rfl, fun id => ?_, fun k hk hkm => ?_⟩
  ·have := hr id; omega
  ·exact hd k (by
    have : k ≠ i := by rintro rfl; exact hm hkm
    omega) hkm
theorem bg0 {t : aa3} (h : RightT t) : aB2 t = some true := by
 have hlen := h.len
 unfold aB2
 rw [if_neg (by
  have := h.next
  simp only [Bool.or_eq_true, decide_eq_true_eq]; omega)]
 refine am3 t.Nodes.length (fun (m : aE5 Int × aE5 ab9) i => (i, m.1, m.2)) (fun s => as9 t s.1 s.2.1 s.2.2) (fun _ _ => true) (fun i m => InvM t i m.1 m.2) (s0 := (([], 0), ([], 0)))
  ⟨Rise.nil, fun id => ⟨Int.le_refl _, Int.le_refl _⟩, fun k hk => by omega, fun key _ => rfl⟩ ?_ ?_
 ·rintro ⟨m1, m2⟩ i hi inv
  left
  have hf := h.fields hi
  have hid := h.id_lt hi
  simp only at inv
  unfold as9
  simp only
  rw [if_pos (dlt hi), ax4 hi, Option.bind_some, b46 hf, Option.bind_some, if_neg (by decide), if_neg (by rw [decide_eq_true_eq]; omega)]
  by_cases h0 : i = 0
  ·subst h0
   rw [if_neg (by simp), Option.bind_some, if_neg (by decide), if_pos (by simp)]
   rw [if_neg (by rw [h.id0]; decide), if_neg (by rw [h.par0]; decide), if_neg (by rw [h.name0]; decide), bC2 hf.mode.1 hf.mode.2.1, Option.bind_some, decide_eq_true h.mode0, Option.bind_some, if_neg (by decide)]
   unfold as8
   rw [if_neg (by simp)]
   obtain ⟨m1', e1, e2, e3⟩ := b92 (m2 := m2) hlen.2 hi hf inv.rng inv.dirs
   exact ⟨(m1', m2), e1, trivial, inv.rise, e2, e3, fun key hk => inv.names key fun k q1 q2 => by omega⟩
  ·have ok := h.ok i (by omega) hi
   rw [if_pos (by rw [decide_eq_true_eq]; omega), ae0 (by omega) (by omega), b47 hi (by omega), Option.bind_some, Option.bind_some, if_neg (by rw [decide_eq_true_eq]; have := ok.rise; omega), if_neg (by rw [decide_eq_true_eq]; omega)]
   rw [bk1, Option.bind_some, ok.name]
   obtain ⟨k, k1, k2, k3⟩ := ok.dir
   have hdir := inv.dirs k k1 k3
   rw [k2] at hdir
   have hnm : aP1 m2 (cd7 t i) = 0 := inv.names _ fun k q1 q2 he => by
    have := ok.one k q1 q2
    unfold cd7 at he
    simp only [ab9.mk.injEq] at he
    exact this ⟨he.1.symm, he.2.symm⟩
   have hnm' : aP1 m2 (ab9.mk (nd t.Nodes i).Parent (nd t.Nodes i).Name) = 0 := hnm
   rw [if_neg (by
    rw [hnm']
    simp only [Bool.not_true, Bool.false_or, Bool.or_eq_true, decide_eq_true_eq]
    omega)]
   unfold as8
   rw [if_pos (by rw [decide_eq_true_eq]; omega), hnm', show IntKind.wrap .i64 (0 + 1) = 1 by decide]
   obtain ⟨m', p1, p2, p3⟩ := cd5 inv.rise (ab9.mk (nd t.Nodes i).Parent (nd t.Nodes i).Name) 1
   rw [p1, Option.bind_some]
   obtain ⟨m1', e1, e2, e3⟩ := b92 (m2 := (m', (bb8 m2 (ab9.mk (nd t.Nodes i).Parent (nd t.Nodes i).Name)).2.2.2)) hlen.2 hi hf inv.rng inv.dirs
   refine ⟨(m1', (m', (bb8 m2 (ab9.mk (nd t.Nodes i).Parent (nd t.Nodes i).Name)).2.2.2)), e1, trivial, p2, e2, e3, fun key hk => ?_⟩
   simp only
   rw [p3, if_neg (by intro he; exact hk i (by omega) (by omega) he.symm)]
   exact inv.names key fun k q1 q2 => hk k q1 (by omega)
 ·rintro ⟨m1, m2⟩ _
  unfold as9
  simp only
  rw [if_neg (by simp)]
theorem bg1 {α : Type} {p : α → Bool} : ∀ {l : List α} {i : Nat} (hi : i < l.length), p l[i] = true → (∀ j (hj : j < i), p (l[j]'(by omega)) = false) → a01 p l = (i : Int)
 | [], i, hi, _, _ => by simp at hi
 | a :: r, 0, hi, h, _ => bj5 h
 | a :: r, i + 1, hi, h, hb => by
  have h0 := hb 0 (by omega)
  have ih := bg1 (p := p) (l := r) (i := i) (by simpa using hi) (by simpa using h) (fun j hj => by simpa using hb (j + 1) (by omega))
  rw [aM1 (by simpa using h0), ih, if_neg (by omega)]
  omega
theorem bU8 {t : aa3} (hl : t.Nodes.length ≤ 1024) (id : Int) : aG7 t id = some (a01 (fun n : aa1 => decide (n.Id = id)) t.Nodes) := by
 unfold aG7 aF5
 have hb : ∀ i (h : i < t.Nodes.length), ak1 t id (i : Int) = if (fun n : aa1 => decide (n.Id = id)) t.Nodes[i] = true then some (.done (i : Int)) else some (.cont (IntKind.wrap .i64 ((i : Int) + 1))) := by
  intro i h
  unfold ak1 aL8
  rw [if_pos (dlt h), at4 h, Option.bind_some, Option.bind_some]
 have he : ak1 t id (t.Nodes.length : Int) = some (.done (-1)) := by
  unfold ak1
  rw [if_neg (by simp)]
 rw [a12 (p := fun n : aa1 => decide (n.Id = id)) (by omega) hb he, Option.bind_some]
theorem a96 {l : List aa1} {i : Nat} (h : i < l.length) : l[i] = nd l i := by simp [nd, List.getD, List.getElem?_eq_getElem h]
theorem b50 {t : aa3} (h : RightT t) {i : Nat} (hi : i < t.Nodes.length) : aG7 t (nd t.Nodes i).Id = some (i : Int) := by
 have hlen := h.len
 rw [bU8 hlen.2]
 congr 1
 refine bg1 hi (by rw [a96 hi]; simp) fun j hj => ?_
 rw [a96 (by omega), decide_eq_false_iff_not]
 intro he
 have := h.inj (by omega) hi he
 omega
theorem a97 {t : aa3} (h : RightT t) {i : Nat} (hi : i < t.Nodes.length) : aC6 t (nd t.Nodes i).Id = some (nd t.Nodes i, true) := by
 unfold aC6
 rw [b50 h hi, Option.bind_some, if_neg (by simp), ax4 hi, Option.bind_some]
def ak2 (y : aa1) : Int := if 2147483648 ≤ y.Mode then 3 else 1
def ao7 (y : aa1) (kids : List aa2) : Str := if 2147483648 ≤ y.Mode then kids.flatMap ah9 else y.Data
def ap4 (y : aa1) (kids : List aa2) : aa2 := ⟨{ y with Data := [] }, ak8 (ak2 y) (ao7 y kids)⟩
def as4 : List aa1 → Int → List aa2
 | [], _ => []
 | y :: r, id => if y.Parent = id then ap4 y (as4 r y.Id) :: as4 r id else as4 r id
def aw0 : List aa1 → Int → List aa1
 | [], _ => []
 | y :: r, id => if y.Parent = id then (y :: aw0 r y.Id) ++ aw0 r id else aw0 r id
def hasAll (s : aa0) : List aa1 → Int → Prop
 | [], _ => True
 | y :: r, id => (y.Parent = id → Stored s (ak2 y) (ao7 y (as4 r y.Id)) ∧ hasAll s r y.Id) ∧ hasAll s r id
theorem hasAll.mono {s s' : aa0} (he : Ext s s') : ∀ {l : List aa1} {id : Int}, hasAll s l id → hasAll s' l id
 | [], _, _ => trivial
 | y :: r, id, h => ⟨fun hp => ⟨(h.1 hp).1.mono he, hasAll.mono he (h.1 hp).2⟩, hasAll.mono he h.2⟩
theorem aX7 {s : aa0} : ∀ {l : List aa1} {id : Int}, (∀ y ∈ l, y.Parent ≠ id) → hasAll s l id ∧ as4 l id = [] ∧ aw0 l id = []
 | [], _, _ => ⟨trivial, rfl, rfl⟩
 | y :: r, id, h => by
  obtain ⟨h1, h2, h3⟩ := aX7 (s := s) (l := r) (id := id) fun z hz => h z (by simp [hz])
  have hy := h y (by simp)
  exact ⟨⟨fun e => absurd e hy, h1⟩, by rw [as4, if_neg hy, h2], by rw [aw0, if_neg hy, h3]⟩
structure Sm (t : aa3) : Prop where
 right : RightT t
 len : t.Nodes.length ≤ 12
 name : ∀ n ∈ t.Nodes, n.Name.length ≤ 200
 data : ∀ n ∈ t.Nodes, n.Data.length ≤ 3000
theorem RightT.par {t : aa3} (h : RightT t) {i : Nat} (hi : i < t.Nodes.length) : 1 ≤ (nd t.Nodes i).Parent ∧ (nd t.Nodes i).Parent ≤ (nd t.Nodes i).Id := by
 by_cases h0 : i = 0
 ·subst h0
  have := h.par0; have := h.id0; omega
 ·have ok := h.ok i (by omega) hi
  obtain ⟨k, k1, k2, _⟩ := ok.dir
  have := (h.id_lt (i := k) (by omega)).1
  have := ok.par
  omega
theorem bU9 (kind : Int) {data : Str} (h : data.length ≤ 32768) : (ak8 kind data).Score.length = 32 ∧ (ak8 kind data).Length = data.length ∧ (0 ≤ (ak8 kind data).Levels ∧ (ak8 kind data).Levels < 256) := by
 unfold ak8
 split
 ·exact ⟨aB3 _ _, rfl, by simp⟩
 ·exact ⟨aB3 _ _, rfl, by simp⟩
theorem Sm.okE {t : aa3} (h : Sm t) {i : Nat} (hi : i < t.Nodes.length) {kids : List aa2} (hc : (ao7 (nd t.Nodes i) kids).length ≤ 32768) : OkE (ap4 (nd t.Nodes i) kids) := by
 have hf := h.right.fields hi
 have hid := h.right.id_lt hi
 have hp := h.right.par hi
 have hn := h.right.next
 obtain ⟨r1, r2, r3⟩ := bU9 (ak2 (nd t.Nodes i)) hc
 have hv := hf.vers; have hm := hf.mode; have ha := hf.atime; have hmt := hf.mtime
 have hnm := h.name _ (a95 hi)
 refine ⟨?_, ?_, ?_, ?_, ?_, ?_, hnm, hf.uid, hf.gid, hf.muid, ?_, r3, r1⟩
 ·unfold U32 ap4; simp only; omega
 ·unfold U32 ap4; simp only; omega
 ·unfold U32 ap4; simp only; omega
 ·unfold U32 ap4; simp only; exact ⟨hm.1, hm.2.1⟩
 ·exact ha
 ·exact hmt
 ·unfold ap4; simp only; rw [r2]; unfold U32; omega
theorem aR4 {l : List aa1} {j : Nat} (h : j < l.length) : l.drop j = nd l j :: l.drop (j + 1) := by
 rw [List.drop_eq_getElem_cons h, a96 h]
theorem Sm.ents_ok {t : aa3} (h : Sm t) : ∀ (m j : Nat) (id : Int), m + j = t.Nodes.length → (∀ x ∈ as4 (t.Nodes.drop j) id, OkE x ∧ x.node.Data = []) ∧ ((as4 (t.Nodes.drop j) id).flatMap ah9).length ≤ 500 * m ∧ (as4 (t.Nodes.drop j) id).length ≤ m
 | 0, j, id, hj => by
  rw [List.drop_of_length_le (by omega)]
  exact ⟨by simp [as4], by simp [as4], by simp [as4]⟩
 | m + 1, j, id, hj => by
  obtain ⟨h1, h2, h3⟩ := h.ents_ok m (j + 1) id (by omega)
  obtain ⟨k1, k2, k3⟩ := h.ents_ok m (j + 1) (nd t.Nodes j).Id (by omega)
  have hlen := h.len
  have hj' : j < t.Nodes.length := by omega
  rw [aR4 hj', as4]
  split
  ·have hc : (ao7 (nd t.Nodes j) (as4 (t.Nodes.drop (j + 1)) (nd t.Nodes j).Id)).length ≤ 32768 := by
    unfold ao7
    split
    ·omega
    ·have := h.data _ (a95 hj'); omega
   have ok := h.okE hj' hc
   refine ⟨fun x hx => ?_, ?_, ?_⟩
   ·rcases List.mem_cons.1 hx with rfl | hx
    ·exact ⟨ok, rfl⟩
    ·exact h1 x hx
   ·have := (aD6 ok).2
    rw [List.flatMap_cons, List.length_append]
    omega
   ·rw [List.length_cons]; omega
  ·exact ⟨h1, by omega, by omega⟩
theorem Sm.cont_len {t : aa3} (h : Sm t) {j : Nat} (hj : j < t.Nodes.length) : (ao7 (nd t.Nodes j) (as4 (t.Nodes.drop (j + 1)) (nd t.Nodes j).Id)).length ≤ 32768 := by
 have hlen := h.len
 unfold ao7
 split
 ·have := (h.ents_ok (t.Nodes.length - (j + 1)) (j + 1) (nd t.Nodes j).Id (by omega)).2.1; omega
 ·have := h.data _ (a95 hj); omega
theorem RightT.leaf {t : aa3} (h : RightT t) {i : Nat} (hi : i < t.Nodes.length) (hm : ¬ 2147483648 ≤ (nd t.Nodes i).Mode) : ∀ y ∈ t.Nodes.drop (i + 1), y.Parent ≠ (nd t.Nodes i).Id := by
 intro y hy he
 obtain ⟨k, hk, rfl⟩ := List.getElem_of_mem hy
 rw [List.length_drop] at hk
 rw [List.getElem_drop, a96 (by omega)] at he
 obtain ⟨q, q1, q2, q3⟩ := (h.ok (i + 1 + k) (by omega) (by omega)).dir
 rw [he] at q2
 have := h.inj (by omega) hi q2
 subst this
 exact hm q3
def az8 (l : List aa1) (id : Int) : List Int := (l.filter fun y => decide (y.Parent = id)).map (·.Id)
theorem bV0 {t : aa3} (h : RightT t) {i : Nat} (hi : i < t.Nodes.length) (hm : 2147483648 ≤ (nd t.Nodes i).Mode) : aI9 t (nd t.Nodes i).Id = some 0 := by
 have hf := h.fields hi
 unfold aI9
 rw [a97 h hi, Option.bind_some, if_neg (by simp), bC2 hf.mode.1 hf.mode.2.1, Option.bind_some, if_neg (by simp [hm])]
theorem a98 {t : aa3} (h : RightT t) {i : Nat} (hi : i < t.Nodes.length) (hm : 2147483648 ≤ (nd t.Nodes i).Mode) : aA3 t (nd t.Nodes i).Id = some (az8 (t.Nodes.drop (i + 1)) (nd t.Nodes i).Id) := by
 have hlen := h.len
 unfold aA3
 rw [bV0 h hi hm, Option.bind_some, if_neg (by decide)]
 have key := am3 t.Nodes.length (fun (out : List Int) j => (j, out)) (fun s => an7 t (nd t.Nodes i).Id s.1 s.2)
  (fun j out => out ++ az8 (if j ≤ i then t.Nodes.drop (i + 1) else t.Nodes.drop j) (nd t.Nodes i).Id) (fun j out => out.length ≤ j ∧ (j ≤ i → out = [])) (s0 := []) ⟨Nat.le_refl _, fun _ => rfl⟩
  (by
   rintro out j hj ⟨ho, ho2⟩
   left
   unfold an7
   rw [if_pos (dlt hj), ax4 hj, Option.bind_some, aj2 (by omega)]
   by_cases hji : j ≤ i
   ·have hno : ((decide ((nd t.Nodes j).Parent = (nd t.Nodes i).Id)) && (!decide ((nd t.Nodes j).Id = 1))) = false := by
     by_cases h0 : j = 0
     ·subst h0; rw [h.id0]; simp
     ·have hp := (h.ok j (by omega) hj).par
      have : (nd t.Nodes j).Id ≤ (nd t.Nodes i).Id := by
       by_cases hij : j = i
       ·subst hij; exact Int.le_refl _
       ·exact Int.le_of_lt (h.lt (by omega) hi)
      rw [show decide ((nd t.Nodes j).Parent = (nd t.Nodes i).Id) = false from decide_eq_false (by omega)]
      rfl
    rw [hno, if_neg Bool.false_ne_true]
    refine ⟨out, rfl, ?_, by omega, fun _ => ho2 hji⟩
    rw [if_pos hji]
    by_cases hj1 : j + 1 ≤ i
    ·rw [if_pos hj1]
    ·rw [if_neg hj1, show j + 1 = i + 1 by omega]
   ·have hid : ¬ (nd t.Nodes j).Id = 1 := by
     have := h.lt (i := 0) (j := j) (by omega) hj
     have := h.id0
     omega
    rw [if_neg hji, aR4 hj]
    by_cases hp : (nd t.Nodes j).Parent = (nd t.Nodes i).Id
    ·rw [if_pos (by simp [hp, hid]), ak0 (by simp; omega) (by simp; omega), Option.bind_some]
     refine ⟨out ++ [(nd t.Nodes j).Id], rfl, ?_, by simp; omega, fun h' => by omega⟩
     rw [if_neg (by omega)]
     simp [az8, hp]
    ·rw [if_neg (by simp [hp])]
     refine ⟨out, rfl, ?_, by omega, fun h' => by omega⟩
     rw [if_neg (by omega)]
     simp [az8, hp])
  (by
   rintro out _
   unfold an7
   rw [if_neg (by simp), if_neg (by omega), List.drop_length]
   simp [az8])
 rw [if_pos (by omega)] at key
 exact key
theorem b51 {t : aa3} (h : Sm t) {j : Nat} (hj : j ≤ t.Nodes.length) (id : Int) : ((as4 (t.Nodes.drop j) id).flatMap ah9).length ≤ 6000 := by
 have hlen := h.len
 have := (h.ents_ok (t.Nodes.length - j) j id (by omega)).2.1
 omega
theorem b52 {n : aa1} {s : aa0} {kind : Int} {data : Str} (hk : 1 ≤ kind ∧ kind ≤ 4) (hd : data.length ≤ 32768) (hc : s.Cap = 400) (hb : s.Blocks.length + 33 ≤ 400) :
  ∃ s' x e, al6 (n, true) kind data s = some (s', x, e) ∧ (e = 34 ∨ (e = 0 ∧ x = ⟨{ n with Data := [] }, ak8 kind data⟩ ∧ Ext s s' ∧ Stored s' kind data ∧ s'.Blocks.length ≤ s.Blocks.length + 33)) := by
 obtain ⟨s', r, e, h1, h2⟩ := putF hk hd hc hb
 unfold al6
 rw [h1, Option.bind_some]
 refine ⟨_, _, _, rfl, ?_⟩
 rcases h2 with h2 | ⟨h2, rfl, h3⟩
 ·exact .inl h2
 ·exact .inr ⟨h2, rfl, h3⟩
theorem bJ5 {t : aa3} (h : Sm t) : ∀ (f i : Nat) (s : aa0), i < t.Nodes.length → t.Nodes.length ≤ f + 1 + i → s.Cap = 400 → s.Blocks.length + 33 * (1 + (aw0 (t.Nodes.drop (i + 1)) (nd t.Nodes i).Id).length) ≤ 400 →
  ∃ s' x e, ah6 (f + 1) s t (nd t.Nodes i).Id = some (s', x, e) ∧ (e = 34 ∨ (e = 0 ∧ x = ap4 (nd t.Nodes i) (as4 (t.Nodes.drop (i + 1)) (nd t.Nodes i).Id) ∧ Ext s s' ∧
   Stored s' (ak2 (nd t.Nodes i)) (ao7 (nd t.Nodes i) (as4 (t.Nodes.drop (i + 1)) (nd t.Nodes i).Id)) ∧ hasAll s' (t.Nodes.drop (i + 1)) (nd t.Nodes i).Id ∧
   s'.Blocks.length ≤ s.Blocks.length + 33 * (1 + (aw0 (t.Nodes.drop (i + 1)) (nd t.Nodes i).Id).length))) := by
 intro f
 induction f with
 | zero =>
  intro i s hi hf hc hb
  have hil : i + 1 = t.Nodes.length := by omega
  have hlen := h.len
  have hdr : t.Nodes.drop (i + 1) = [] := List.drop_of_length_le (by omega)
  rw [hdr] at hb ⊢
  simp only [aw0, List.length_nil] at hb ⊢
  simp only [ah6, ao0, af3]
  rw [a97 h.right hi, Option.bind_some, Option.bind_some]
  simp only
  by_cases hm : 2147483648 ≤ (nd t.Nodes i).Mode
  ·rw [if_pos (by simp [hm]), a98 h.right hi hm, Option.bind_some, hdr]
   obtain ⟨s', x, e, q1, q2⟩ := b52 (n := nd t.Nodes i) (s := s) (kind := 3) (data := []) (by decide) (by simp) hc (by omega)
   refine ⟨s', x, e, ab6 (by
    unfold af5
    rw [if_neg (by simp [az8]), q1]; rfl), ?_⟩
   rcases q2 with q2 | ⟨q2, q3, q4, q5, q6⟩
   ·exact .inl q2
   ·refine .inr ⟨q2, ?_, q4, ?_, trivial, by omega⟩
    ·rw [q3]; unfold ap4 ak2 ao7; rw [if_pos hm, if_pos hm]; rfl
    ·unfold ak2 ao7; rw [if_pos hm, if_pos hm]; exact q5
  ·rw [if_neg (by simpa using hm)]
   have hdl := h.data _ (a95 hi)
   obtain ⟨s', x, e, q1, q2⟩ := b52 (n := nd t.Nodes i) (s := s) (kind := 1) (data := (nd t.Nodes i).Data) (by decide) (by omega) hc (by omega)
   refine ⟨s', x, e, q1, ?_⟩
   rcases q2 with q2 | ⟨q2, q3, q4, q5, q6⟩
   ·exact .inl q2
   ·refine .inr ⟨q2, ?_, q4, ?_, trivial, by omega⟩
    ·rw [q3]; unfold ap4 ak2 ao7; rw [if_neg hm, if_neg hm]
    ·unfold ak2 ao7; rw [if_neg hm, if_neg hm]; exact q5
 | succ f ih =>
  intro i s hi hf hc hb
  have hlen := h.len
  rw [show ah6 (f + 1 + 1) s t (nd t.Nodes i).Id = ao0 (ah6 (f + 1)) s t (nd t.Nodes i).Id from rfl]
  simp only [ao0, af3]
  rw [a97 h.right hi, Option.bind_some, Option.bind_some]
  simp only
  by_cases hm : 2147483648 ≤ (nd t.Nodes i).Mode
  ·rw [if_pos (by simp [hm]), a98 h.right hi hm, Option.bind_some]
   generalize hx9 : az8 (t.Nodes.drop (i + 1)) (nd t.Nodes i).Id = x9
   have key : ∀ (m j : Nat) (done : List Int) (data : Str) (s : aa0), m + j = t.Nodes.length → i < j → x9 = done ++ az8 (t.Nodes.drop j) (nd t.Nodes i).Id → s.Cap = 400 → s.Blocks.length + 33 * (1 + (aw0 (t.Nodes.drop j) (nd t.Nodes i).Id).length) ≤ 400 →
     data.length + ((as4 (t.Nodes.drop j) (nd t.Nodes i).Id).flatMap ah9).length ≤ 32768 →
     ∃ s' x e, ae4 (fun q => af5 (ah6 (f + 1)) t (nd t.Nodes i, true) x9 q.1 q.2.1 q.2.2) (data, (done.length : Int), s) = some (s', x, e) ∧ (e = 34 ∨ (e = 0 ∧
      x = ⟨{ nd t.Nodes i with Data := [] }, ak8 3 (data ++ (as4 (t.Nodes.drop j) (nd t.Nodes i).Id).flatMap ah9)⟩ ∧ Ext s s' ∧ Stored s' 3 (data ++ (as4 (t.Nodes.drop j) (nd t.Nodes i).Id).flatMap ah9) ∧
      hasAll s' (t.Nodes.drop j) (nd t.Nodes i).Id ∧ s'.Blocks.length ≤ s.Blocks.length + 33 * (1 + (aw0 (t.Nodes.drop j) (nd t.Nodes i).Id).length))) := by
    intro m
    induction m with
    | zero =>
     intro j done data s hj hij hx hc hb hd
     have hdr : t.Nodes.drop j = [] := List.drop_of_length_le (by omega)
     rw [hdr] at hx hb hd ⊢
     simp only [az8, List.filter_nil, List.map_nil, List.append_nil, as4, aw0, List.length_nil, List.flatMap_nil] at hx hb hd ⊢
     obtain ⟨s', x, e, q1, q2⟩ := b52 (n := nd t.Nodes i) (s := s) (kind := 3) (data := data) (by decide) (by omega) hc (by omega)
     refine ⟨s', x, e, ab6 (by
      unfold af5
      rw [hx, if_neg (by simp), q1]; rfl), ?_⟩
     rcases q2 with q2 | ⟨q2, q3, q4, q5, q6⟩
     ·exact .inl q2
     ·exact .inr ⟨q2, q3, q4, q5, trivial, by omega⟩
    | succ m ihm =>
     intro j done data s hj hij hx hc hb hd
     have hjl : j < t.Nodes.length := by omega
     have hdr := aR4 hjl
     by_cases hp : (nd t.Nodes j).Parent = (nd t.Nodes i).Id
     ·
      have hk : az8 (t.Nodes.drop j) (nd t.Nodes i).Id = (nd t.Nodes j).Id :: az8 (t.Nodes.drop (j + 1)) (nd t.Nodes i).Id := by
       rw [hdr]; simp [az8, hp]
      have hde : aw0 (t.Nodes.drop j) (nd t.Nodes i).Id = (nd t.Nodes j :: aw0 (t.Nodes.drop (j + 1)) (nd t.Nodes j).Id) ++ aw0 (t.Nodes.drop (j + 1)) (nd t.Nodes i).Id := by
       rw [hdr, aw0, if_pos hp]
      have hen : as4 (t.Nodes.drop j) (nd t.Nodes i).Id = ap4 (nd t.Nodes j) (as4 (t.Nodes.drop (j + 1)) (nd t.Nodes j).Id) :: as4 (t.Nodes.drop (j + 1)) (nd t.Nodes i).Id := by
       rw [hdr, as4, if_pos hp]
      have hdl : (aw0 (t.Nodes.drop j) (nd t.Nodes i).Id).length = 1 + (aw0 (t.Nodes.drop (j + 1)) (nd t.Nodes j).Id).length + (aw0 (t.Nodes.drop (j + 1)) (nd t.Nodes i).Id).length := by
       rw [hde]; simp; omega
      rw [hk] at hx
      rw [hdl] at hb ⊢
      rw [hen] at hd ⊢
      have ok := h.okE hjl (h.cont_len hjl)
      rw [List.flatMap_cons, List.length_append] at hd
      obtain ⟨s1, x, e, r1, r2⟩ := ih j s hjl (by omega) hc (by omega)
      have hat : ah3 x9 (done.length : Int) = some (nd t.Nodes j).Id := by rw [hx]; exact aI6
      have hvl : done.length < x9.length := by rw [hx]; simp
      have hx9l : x9.length ≤ 1000 := by
       rw [← hx9]; unfold az8
       rw [List.length_map]
       have := List.length_filter_le (fun y => decide (y.Parent = (nd t.Nodes i).Id)) (t.Nodes.drop (i + 1))
       rw [List.length_drop] at this
       omega
      rcases r2 with rfl | ⟨rfl, rfl, r3, r4, r5, r6⟩
      ·refine ⟨s, _, 34, ab6 (by
        unfold af5
        simp only
        rw [if_pos (by simp; omega), hat, Option.bind_some, r1, Option.bind_some, if_pos (by simp)]), .inl rfl⟩
      ·have hstep : (fun q : Str × Int × aa0 => af5 (ah6 (f + 1)) t (nd t.Nodes i, true) x9 q.1 q.2.1 q.2.2) (data, (done.length : Int), s) =
         some (.cont (data ++ ah9 (ap4 (nd t.Nodes j) (as4 (t.Nodes.drop (j + 1)) (nd t.Nodes j).Id)), ((done ++ [(nd t.Nodes j).Id]).length : Int), s1)) := by
        unfold af5
        simp only
        rw [if_pos (by simp; omega), hat, Option.bind_some, r1, Option.bind_some, if_neg (by simp), bp9 ok, Option.bind_some, al0 (by omega), Option.bind_some, aj2 (by omega)]
        simp
       obtain ⟨s', x, e, q1, q2⟩ := ihm (j + 1) (done ++ [(nd t.Nodes j).Id]) (data ++ ah9 (ap4 (nd t.Nodes j) (as4 (t.Nodes.drop (j + 1)) (nd t.Nodes j).Id))) s1 (by omega) (by omega) (by rw [hx]; simp) (r3.1.trans hc) (by omega) (by rw [List.length_append]; omega)
       refine ⟨s', x, e, (ac3 hstep).trans q1, ?_⟩
       rcases q2 with q2 | ⟨q2, q3, q4, q5, q6, q7⟩
       ·exact .inl q2
       ·rw [List.append_assoc] at q3 q5
        refine .inr ⟨q2, q3, r3.trans q4, q5, ?_, by omega⟩
        rw [hdr]
        exact ⟨fun _ => ⟨r4.mono q4, r5.mono q4⟩, q6⟩
     ·
      have hk : az8 (t.Nodes.drop j) (nd t.Nodes i).Id = az8 (t.Nodes.drop (j + 1)) (nd t.Nodes i).Id := by
       rw [hdr]; simp [az8, hp]
      have hde : aw0 (t.Nodes.drop j) (nd t.Nodes i).Id = aw0 (t.Nodes.drop (j + 1)) (nd t.Nodes i).Id := by rw [hdr, aw0, if_neg hp]
      have hen : as4 (t.Nodes.drop j) (nd t.Nodes i).Id = as4 (t.Nodes.drop (j + 1)) (nd t.Nodes i).Id := by rw [hdr, as4, if_neg hp]
      rw [hk] at hx
      rw [hde] at hb ⊢
      rw [hen] at hd ⊢
      obtain ⟨s', x, e, q1, q2⟩ := ihm (j + 1) done data s (by omega) (by omega) hx hc hb hd
      refine ⟨s', x, e, q1, ?_⟩
      rcases q2 with q2 | ⟨q2, q3, q4, q5, q6, q7⟩
      ·exact .inl q2
      ·refine .inr ⟨q2, q3, q4, q5, ?_, q7⟩
       rw [hdr]
       exact ⟨fun e => absurd e hp, q6⟩
   have hel := b51 h (j := i + 1) (by omega) (nd t.Nodes i).Id
   obtain ⟨s', x, e, q1, q2⟩ := key (t.Nodes.length - (i + 1)) (i + 1) [] [] s (by omega) (by omega) (by rw [← hx9]; rfl) hc hb (by rw [List.length_nil]; omega)
   refine ⟨s', x, e, q1, ?_⟩
   rcases q2 with q2 | ⟨q2, q3, q4, q5, q6, q7⟩
   ·exact .inl q2
   ·refine .inr ⟨q2, ?_, q4, ?_, q6, q7⟩
    ·rw [q3]; unfold ap4 ak2 ao7; rw [if_pos hm, if_pos hm]; rfl
    ·unfold ak2 ao7; rw [if_pos hm, if_pos hm]; exact q5
  ·rw [if_neg (by simpa using hm)]
   have hdl := h.data _ (a95 hi)
   obtain ⟨s', x, e, q1, q2⟩ := b52 (n := nd t.Nodes i) (s := s) (kind := 1) (data := (nd t.Nodes i).Data) (by decide) (by omega) hc (by omega)
   refine ⟨s', x, e, q1, ?_⟩
   have hnb := aX7 (s := s') (h.right.leaf hi hm)
   rcases q2 with q2 | ⟨q2, q3, q4, q5, q6⟩
   ·exact .inl q2
   ·refine .inr ⟨q2, ?_, q4, ?_, hnb.1, by omega⟩
    ·rw [q3]; unfold ap4 ak2 ao7; rw [if_neg hm, if_neg hm]
    ·unfold ak2 ao7; rw [if_neg hm, if_neg hm]; exact q5
theorem bV1 {xs : List aa2} {x : aa2} (h : ∀ y ∈ xs, y.node.Parent = x.node.Id) (hl : xs.length ≤ 1000) : ab1 xs x = some false := by
 unfold ab1 ad7
 have hb : ∀ i (hi : i < xs.length), aa7 xs x (i : Int) = if (fun _ : aa2 => false) xs[i] = true then some (.done (i : Int)) else some (.cont (IntKind.wrap .i64 ((i : Int) + 1))) := by
  intro i hi
  unfold aa7 ar7
  rw [if_pos (dlt hi), at4 hi, Option.bind_some, Option.bind_some, h _ (List.getElem_mem hi)]
  simp
 have he : aa7 xs x (xs.length : Int) = some (.done (-1)) := by
  unfold aa7
  rw [if_neg (by simp)]
 have hn : ∀ l : List aa2, a01 (fun _ : aa2 => false) l = -1 := by
  intro l
  induction l with
  | nil => rfl
  | cons a r ih => rw [aM1 (by simp), ih, if_pos rfl]
 rw [a12 (p := fun _ : aa2 => false) (by omega) hb he, Option.bind_some, hn]
 rfl
theorem bk2 : ∀ (l : List aa1) (id : Int), ∀ x ∈ as4 l id, x.node.Parent = id
 | [], _, x, hx => by cases hx
 | y :: r, id, x, hx => by
  unfold as4 at hx
  split at hx
  ·rename_i hp
   rcases List.mem_cons.1 hx with rfl | hx
   ·exact hp
   ·exact bk2 r id x hx
  ·exact bk2 r id x hx
theorem aE9 (n : aa1) (k : List aa2) : (ap4 n k).node.Mode = n.Mode := rfl
def b93 (t : aa3) (s : aa0) (most : Int) (i : Nat) (l : List Str) (out : List aa1) (r : Option (Int × Int × aa0 × (List aa1) × (List Str))) : Prop :=
 ∃ l', r = some (0, most, s, out ++ (nd t.Nodes i :: aw0 (t.Nodes.drop (i + 1)) (nd t.Nodes i).Id), l') ∧ l'.length ≤ l.length + 33 * (1 + (aw0 (t.Nodes.drop (i + 1)) (nd t.Nodes i).Id).length)
theorem cj6 {t : aa3} (h : Sm t) {s : aa0} (hb : s.Blocks.length ≤ 400) {most : Int} : ∀ (f i : Nat) (l : List Str) (out : List aa1), i < t.Nodes.length → t.Nodes.length ≤ f + 1 + i →
  Stored s (ak2 (nd t.Nodes i)) (ao7 (nd t.Nodes i) (as4 (t.Nodes.drop (i + 1)) (nd t.Nodes i).Id)) → hasAll s (t.Nodes.drop (i + 1)) (nd t.Nodes i).Id →
  l.length + 33 * (1 + (aw0 (t.Nodes.drop (i + 1)) (nd t.Nodes i).Id).length) ≤ 50000 → (out.length : Int) + (1 + (aw0 (t.Nodes.drop (i + 1)) (nd t.Nodes i).Id).length : Nat) ≤ most → most ≤ 1000 →
  b93 t s most i l out (ac1 (f + 1) (ap4 (nd t.Nodes i) (as4 (t.Nodes.drop (i + 1)) (nd t.Nodes i).Id)) most s l out) := by
 intro f
 induction f with
 | zero =>
  intro i l out hi hf hst hall hl hm hmm
  have hil : i + 1 = t.Nodes.length := by omega
  have hdr : t.Nodes.drop (i + 1) = [] := List.drop_of_length_le (by omega)
  have hcl := h.cont_len hi
  rw [hdr] at hst hl hm hcl
  unfold b93
  rw [hdr]
  simp only [aw0, as4, List.length_nil] at hst hl hm hcl ⊢
  simp only [ac1, ag3, af3]
  rw [if_neg (by rw [decide_eq_true_eq]; omega), Option.bind_some]
  obtain ⟨l', q1, q2⟩ := a92 (l := l) hst hcl hb (by omega)
  by_cases hd : 2147483648 ≤ (nd t.Nodes i).Mode
  ·have hk : ak2 (nd t.Nodes i) = 3 := by unfold ak2; rw [if_pos hd]
   have hc : ao7 (nd t.Nodes i) [] = [] := by unfold ao7; rw [if_pos hd]; rfl
   rw [if_pos (by simp [aE9, hd])]
   unfold ad4
   rw [hk, hc] at q1
   rw [show (ap4 (nd t.Nodes i) []).root = ak8 3 [] by unfold ap4; rw [hk, hc], q1, Option.bind_some, if_neg (by simp)]
   simp only [af3, Option.bind_some]
   rw [if_neg (by simp [aE9, hd]), ak0 (by simp; omega) (by simp; omega), Option.bind_some]
   have he := bf8 (xs := []) (by simp) (by simp)
   simp only [List.flatMap_nil] at he
   rw [he, Option.bind_some, if_neg (by simp), bV1 (by simp) (by simp), Option.bind_some, Option.bind_some, if_neg (by decide)]
   refine ⟨l', ab6 ?_, by omega⟩
   unfold ac8
   rw [if_neg (by simp)]
   have hdat := (h.right.fields hi).dir hd
   have : (ap4 (nd t.Nodes i) []).node = nd t.Nodes i := by
    show ({ nd t.Nodes i with Data := [] } : aa1) = nd t.Nodes i
    rw [← hdat]
   rw [this]
  ·have hk : ak2 (nd t.Nodes i) = 1 := by unfold ak2; rw [if_neg hd]
   have hc : ao7 (nd t.Nodes i) [] = (nd t.Nodes i).Data := by unfold ao7; rw [if_neg hd]
   rw [if_neg (by rw [decide_eq_true_eq, aE9]; exact hd)]
   unfold ad4
   rw [hk, hc] at q1
   rw [show (ap4 (nd t.Nodes i) []).root = ak8 1 (nd t.Nodes i).Data by unfold ap4; rw [hk, hc], q1, Option.bind_some, if_neg (by simp)]
   simp only [af3, Option.bind_some]
   rw [if_pos (by rw [aE9, decide_eq_false hd]; rfl), ak0 (by simp; omega) (by simp; omega), Option.bind_some]
   exact ⟨l', rfl, by omega⟩
 | succ f ih =>
  intro i l out hi hf hst hall hl hm hmm
  have hcl := h.cont_len hi
  have hlen := h.len
  have hent := h.ents_ok (t.Nodes.length - (i + 1)) (i + 1) (nd t.Nodes i).Id (by omega)
  rw [show ac1 (f + 1 + 1) (ap4 (nd t.Nodes i) (as4 (t.Nodes.drop (i + 1)) (nd t.Nodes i).Id)) most s l out = ag3 (ac1 (f + 1)) (ap4 (nd t.Nodes i) (as4 (t.Nodes.drop (i + 1)) (nd t.Nodes i).Id)) most s l out from rfl]
  simp only [ag3, af3]
  rw [if_neg (by rw [decide_eq_true_eq]; omega), Option.bind_some]
  obtain ⟨l', q1, q2⟩ := a92 (l := l) hst hcl hb (by omega)
  by_cases hd : 2147483648 ≤ (nd t.Nodes i).Mode
  ·have hk : ak2 (nd t.Nodes i) = 3 := by unfold ak2; rw [if_pos hd]
   have hc : ao7 (nd t.Nodes i) (as4 (t.Nodes.drop (i + 1)) (nd t.Nodes i).Id) = (as4 (t.Nodes.drop (i + 1)) (nd t.Nodes i).Id).flatMap ah9 := by unfold ao7; rw [if_pos hd]
   rw [if_pos (by simp [aE9, hd])]
   unfold ad4
   rw [hk, hc] at q1
   rw [show (ap4 (nd t.Nodes i) (as4 (t.Nodes.drop (i + 1)) (nd t.Nodes i).Id)).root = ak8 3 ((as4 (t.Nodes.drop (i + 1)) (nd t.Nodes i).Id).flatMap ah9) by unfold ap4; rw [hk, hc], q1, Option.bind_some, if_neg (by simp)]
   simp only [af3, Option.bind_some]
   rw [if_neg (by simp [aE9, hd]), ak0 (by simp; omega) (by simp; omega), Option.bind_some]
   rw [bf8 hent.1 (by omega), Option.bind_some, if_neg (by simp), bV1 (xs := as4 (t.Nodes.drop (i + 1)) (nd t.Nodes i).Id) (x := ap4 (nd t.Nodes i) (as4 (t.Nodes.drop (i + 1)) (nd t.Nodes i).Id)) (fun y hy => bk2 _ _ y hy) (by omega), Option.bind_some, Option.bind_some, if_neg (by decide)]
   have hdat := (h.right.fields hi).dir hd
   have hnode : (ap4 (nd t.Nodes i) (as4 (t.Nodes.drop (i + 1)) (nd t.Nodes i).Id)).node = nd t.Nodes i := by
    show ({ nd t.Nodes i with Data := [] } : aa1) = nd t.Nodes i
    rw [← hdat]
   rw [hnode]
   generalize hx10 : (as4 (t.Nodes.drop (i + 1)) (nd t.Nodes i).Id, true) = x10
   have hx1 : x10.1 = as4 (t.Nodes.drop (i + 1)) (nd t.Nodes i).Id := by rw [← hx10]
   have key : ∀ (m j : Nat) (done : List aa2) (l : List Str) (out : List aa1), m + j = t.Nodes.length → i < j → x10.1 = done ++ as4 (t.Nodes.drop j) (nd t.Nodes i).Id → hasAll s (t.Nodes.drop j) (nd t.Nodes i).Id →
     l.length + 33 * ((aw0 (t.Nodes.drop j) (nd t.Nodes i).Id).length) ≤ 50000 → (out.length : Int) + ((aw0 (t.Nodes.drop j) (nd t.Nodes i).Id).length : Nat) ≤ most →
     ∃ l', ae4 (fun q => ac8 (ac1 (f + 1)) x10 q.1 q.2.1 q.2.2.1 q.2.2.2.1 q.2.2.2.2.1 q.2.2.2.2.2) ((done.length : Int), most, s.Cap, s.Blocks, l, out) = some (0, most, s, out ++ aw0 (t.Nodes.drop j) (nd t.Nodes i).Id, l') ∧
      l'.length ≤ l.length + 33 * (aw0 (t.Nodes.drop j) (nd t.Nodes i).Id).length := by
    intro m
    induction m with
    | zero =>
     intro j done l out hj hij hx hall hl hm
     have hdr : t.Nodes.drop j = [] := List.drop_of_length_le (by omega)
     rw [hdr] at hx ⊢
     simp only [as4, List.append_nil, aw0, List.length_nil] at hx ⊢
     refine ⟨l, ab6 ?_, by omega⟩
     unfold ac8
     rw [hx, if_neg (by simp)]
    | succ m ihm =>
     intro j done l out hj hij hx hall hl hm
     have hjl : j < t.Nodes.length := by omega
     have hdr := aR4 hjl
     by_cases hp : (nd t.Nodes j).Parent = (nd t.Nodes i).Id
     ·have hde : aw0 (t.Nodes.drop j) (nd t.Nodes i).Id = (nd t.Nodes j :: aw0 (t.Nodes.drop (j + 1)) (nd t.Nodes j).Id) ++ aw0 (t.Nodes.drop (j + 1)) (nd t.Nodes i).Id := by
       rw [hdr, aw0, if_pos hp]
      have hen : as4 (t.Nodes.drop j) (nd t.Nodes i).Id = ap4 (nd t.Nodes j) (as4 (t.Nodes.drop (j + 1)) (nd t.Nodes j).Id) :: as4 (t.Nodes.drop (j + 1)) (nd t.Nodes i).Id := by
       rw [hdr, as4, if_pos hp]
      have hdl : (aw0 (t.Nodes.drop j) (nd t.Nodes i).Id).length = 1 + (aw0 (t.Nodes.drop (j + 1)) (nd t.Nodes j).Id).length + (aw0 (t.Nodes.drop (j + 1)) (nd t.Nodes i).Id).length := by
       rw [hde]; simp; omega
      rw [hdl] at hl hm ⊢
      rw [hen] at hx
      rw [hdr] at hall
      have hkid := hall.1 hp
      obtain ⟨l1, r1, r2⟩ := ih j l out hjl (by omega) hkid.1 hkid.2 (by omega) (by omega) hmm
      have hat : ah3 x10.1 (done.length : Int) = some (ap4 (nd t.Nodes j) (as4 (t.Nodes.drop (j + 1)) (nd t.Nodes j).Id)) := by rw [hx]; exact aI6
      have hvl : done.length < x10.1.length := by rw [hx]; simp
      have hx9l : x10.1.length ≤ 1000 := by rw [hx1]; omega
      have hst' : (aa0.mk s.Cap s.Blocks) = s := rfl
      have hstep : (fun q : Int × Int × Int × (List ac5) × (List Str) × (List aa1) => ac8 (ac1 (f + 1)) x10 q.1 q.2.1 q.2.2.1 q.2.2.2.1 q.2.2.2.2.1 q.2.2.2.2.2) ((done.length : Int), most, s.Cap, s.Blocks, l, out) =
        some (.cont (((done ++ [ap4 (nd t.Nodes j) (as4 (t.Nodes.drop (j + 1)) (nd t.Nodes j).Id)]).length : Int), most, s.Cap, s.Blocks, l1, out ++ (nd t.Nodes j :: aw0 (t.Nodes.drop (j + 1)) (nd t.Nodes j).Id))) := by
       unfold ac8
       simp only
       rw [if_pos (by simp; omega), hat, Option.bind_some, hst', r1, Option.bind_some, if_neg (by simp), aj2 (by omega)]
       simp
      obtain ⟨l2, p1, p2⟩ := ihm (j + 1) (done ++ [ap4 (nd t.Nodes j) (as4 (t.Nodes.drop (j + 1)) (nd t.Nodes j).Id)]) l1 (out ++ (nd t.Nodes j :: aw0 (t.Nodes.drop (j + 1)) (nd t.Nodes j).Id)) (by omega) (by omega) (by rw [hx]; simp) hall.2 (by omega) (by simp only [List.length_append, List.length_cons]; omega)
      refine ⟨l2, (ac3 hstep).trans ?_, by omega⟩
      rw [p1, hde]
      simp
     ·have hde : aw0 (t.Nodes.drop j) (nd t.Nodes i).Id = aw0 (t.Nodes.drop (j + 1)) (nd t.Nodes i).Id := by rw [hdr, aw0, if_neg hp]
      have hen : as4 (t.Nodes.drop j) (nd t.Nodes i).Id = as4 (t.Nodes.drop (j + 1)) (nd t.Nodes i).Id := by rw [hdr, as4, if_neg hp]
      rw [hde] at hl hm ⊢
      rw [hen] at hx
      rw [hdr] at hall
      exact ihm (j + 1) done l out (by omega) (by omega) hx hall.2 hl hm
   obtain ⟨l2, p1, p2⟩ := key (t.Nodes.length - (i + 1)) (i + 1) [] l' (out ++ [nd t.Nodes i]) (by omega) (by omega) (by rw [hx1]; rfl) hall (by omega) (by rw [List.length_append]; simp only [List.length_singleton]; omega)
   refine ⟨l2, ?_, by omega⟩
   rw [show ((([] : List aa2).length : Nat) : Int) = 0 from rfl] at p1
   rw [p1]
   simp
  ·have hk : ak2 (nd t.Nodes i) = 1 := by unfold ak2; rw [if_neg hd]
   have hc : ao7 (nd t.Nodes i) (as4 (t.Nodes.drop (i + 1)) (nd t.Nodes i).Id) = (nd t.Nodes i).Data := by unfold ao7; rw [if_neg hd]
   have hnb := aX7 (s := s) (h.right.leaf hi hd)
   rw [if_neg (by rw [decide_eq_true_eq, aE9]; exact hd)]
   unfold ad4
   rw [hk, hc] at q1
   rw [show (ap4 (nd t.Nodes i) (as4 (t.Nodes.drop (i + 1)) (nd t.Nodes i).Id)).root = ak8 1 (nd t.Nodes i).Data by unfold ap4; rw [hk, hc], q1, Option.bind_some, if_neg (by simp)]
   simp only [af3, Option.bind_some]
   rw [if_pos (by rw [aE9, decide_eq_false hd]; rfl), ak0 (by simp; omega) (by simp; omega), Option.bind_some]
   refine ⟨l', ?_, by omega⟩
   rw [hnb.2.2]
   rfl
theorem bV2 {n : Nat} (h : n ≤ 12) : ∃ k, as2 (IntKind.wrap .u64 (n : Int)) = some k := by
 rw [aN9 (by omega)]
 unfold as2 aD1 aq8 aq7 aq6
 rw [if_neg (by rw [decide_eq_true_eq]; omega), if_neg (by rw [decide_eq_true_eq]; omega), if_neg (by rw [decide_eq_true_eq]; omega), bj6, show ((n : Int) % 256) = (n : Int) by omega, aU3 (by simp; omega), Option.bind_some, Option.bind_some]
 exact ⟨_, rfl⟩
theorem cj7 (m n : aa1) : ∃ c, al9 m n = some c ∧ (c < 0 ↔ m.Id < n.Id) := by
 unfold al9 av3 aA8
 rw [Option.bind_some, Option.bind_some, if_neg (by simp), if_neg (by simp)]
 by_cases h1 : m.Id < n.Id
 ·rw [if_pos (by simp [h1]), Option.bind_some]; exact ⟨-1, rfl, by simp [h1]⟩
 ·rw [if_neg (by simpa using h1)]
  by_cases h2 : n.Id < m.Id
  ·rw [if_pos (by simp [h2]), Option.bind_some]; exact ⟨1, rfl, by simp [h1]⟩
  ·rw [if_neg (by simpa using h2), Option.bind_some]; exact ⟨0, rfl, by simp [h1]⟩
def Srt (l : List aa1) : Prop := l.Pairwise fun a b => a.Id ≤ b.Id
theorem b94 (x : aa1) (C : List aa1) (i : Int) (hi : 0 ≤ i ∧ i ≤ 1000) : ∀ (k : Nat) (A B : List aa1), A.length = k → k ≤ 1000 → Srt (A ++ B) → (∀ b ∈ B, x.Id ≤ b.Id) →
  ∃ D, ae4 (fun s => aa9 0 i s.1 s.2) ((k : Int), A ++ x :: (B ++ C)) = some (.cont (i + 1, D ++ C)) ∧ D.Perm (x :: (A ++ B)) ∧ Srt D
 | 0, A, B, hA, _, hs, hb => by
  have : A = [] := List.length_eq_zero_iff.1 hA
  subst this
  refine ⟨x :: B, ab6 ?_, .refl _, List.pairwise_cons.2 ⟨hb, hs⟩⟩
  unfold aa9
  simp only
  rw [if_neg (by simp), Option.bind_some, if_neg (by simp), ae0 (by omega) (by omega)]
  rfl
 | k + 1, A, B, hA, hk, hs, hb => by
  obtain ⟨A', y, rfl⟩ : ∃ A' y, A = A' ++ [y] := by
   have hne : A ≠ [] := by rintro rfl; simp at hA
   exact ⟨A.dropLast, A.getLast hne, (List.dropLast_concat_getLast hne).symm⟩
  have hAl : A'.length = k := by simpa using hA
  have e0 : A' ++ [y] ++ x :: (B ++ C) = A' ++ y :: (x :: (B ++ C)) := by simp
  have hj : ah3 (A' ++ y :: (x :: (B ++ C))) ((k + 1 : Nat) : Int) = some x := by
   have := aI6 (a := A' ++ [y]) (b := B ++ C) (x := x)
   rw [List.append_assoc] at this
   rw [← hAl]
   simpa using this
  have hj1 : ah3 (A' ++ y :: (x :: (B ++ C))) (k : Int) = some y := by
   have := aI6 (a := A') (b := x :: (B ++ C)) (x := y)
   rw [hAl] at this; exact this
  have hw : IntKind.wrap .i64 (((k + 1 : Nat) : Int) - 1) = (k : Int) := by rw [ae0 (by omega) (by omega)]; omega
  obtain ⟨c, hc, hc2⟩ := cj7 x y
  have hs' := hs
  unfold Srt at hs'
  rw [List.append_assoc] at hs'
  by_cases hlt : x.Id < y.Id
  ·obtain ⟨D, d1, d2, d3⟩ := b94 x C i hi k A' (y :: B) hAl (by omega) (by rw [show A' ++ y :: B = A' ++ [y] ++ B by simp]; exact hs) (by
    intro b hb'
    rcases List.mem_cons.1 hb' with rfl | hb'
    ·omega
    ·exact hb b hb')
   refine ⟨D, (ac3 (s' := ((k : Int), A' ++ x :: (y :: B ++ C))) ?_).trans d1, d2.trans (by simp), d3⟩
   unfold aa9
   simp only
   rw [e0, if_pos (by rw [decide_eq_true_eq]; omega), hj, hw, hj1]
   simp only [Option.bind_some]
   rw [hc, Option.bind_some, decide_eq_true (hc2.2 hlt), Option.bind_some, if_pos rfl, Int.toNat_natCast, Int.toNat_natCast]
   have s1 : (A' ++ y :: (x :: (B ++ C))).set (k + 1) y = A' ++ y :: (y :: (B ++ C)) := by
    have := bj3 (a := A' ++ [y]) (b := B ++ C) (x := x) (y := y)
    simp only [List.length_append, List.length_singleton, hAl] at this
    simpa using this
   have s2 : (A' ++ y :: (y :: (B ++ C))).set k x = A' ++ x :: (y :: (B ++ C)) := by
    have := bj3 (a := A') (b := y :: (B ++ C)) (x := y) (y := x)
    rw [hAl] at this; exact this
   have hj2 : ah3 (A' ++ y :: (y :: (B ++ C))) (k : Int) = some y := by
    have := aI6 (a := A') (b := y :: (B ++ C)) (x := y)
    rw [hAl] at this; exact this
   rw [s1, hj2, Option.bind_some, s2]
   rfl
  ·refine ⟨A' ++ [y] ++ x :: B, ab6 ?_, List.perm_middle, ?_⟩
   ·unfold aa9
    simp only
    rw [e0, if_pos (by rw [decide_eq_true_eq]; omega), hj, hw, hj1]
    simp only [Option.bind_some]
    rw [hc, Option.bind_some, decide_eq_false (fun h => hlt (hc2.1 h)), Option.bind_some, if_neg (by decide), ae0 (by omega) (by omega)]
    simp
   ·unfold Srt at hs ⊢
    obtain ⟨p1, p2, p3⟩ := List.pairwise_append.1 hs
    refine List.pairwise_append.2 ⟨p1, List.pairwise_cons.2 ⟨hb, p2⟩, fun a ha b hb' => ?_⟩
    rcases List.mem_cons.1 hb' with rfl | hb'
    ·obtain ⟨r1, r2, r3⟩ := List.pairwise_append.1 p1
     rcases List.mem_append.1 ha with ha | ha
     ·have := r3 a ha y (by simp); omega
     ·simp only [List.mem_singleton] at ha; subst ha; omega
    ·exact p3 a ha b hb'
theorem b53 {l : List aa1} (h : 1 ≤ l.length ∧ l.length ≤ 12) : ∃ r, ac0 0 (l.length : Int) l = some r ∧ r.Perm l ∧ Srt r := by
 unfold ac0
 have key : ∀ (m i : Nat) (data : List aa1), m + i = l.length → 1 ≤ i → data.Perm l → Srt (data.take i) →
   ∃ r, ae4 (fun s => ab0 0 (l.length : Int) s.1 s.2) ((i : Int), data) = some r ∧ r.Perm l ∧ Srt r := by
  intro m
  induction m with
  | zero =>
   intro i data hm hi hp hs
   refine ⟨data, ab6 ?_, hp, ?_⟩
   ·unfold ab0
    rw [if_neg (by rw [decide_eq_true_eq]; simp only; omega)]
   ·rw [List.take_of_length_le (by rw [hp.length_eq]; omega)] at hs
    exact hs
  | succ m ih =>
   intro i data hm hi hp hs
   have hdl := hp.length_eq
   have hid : i < data.length := by omega
   have hsplit : data = data.take i ++ nd data i :: data.drop (i + 1) := by rw [← aR4 hid, List.take_append_drop]
   obtain ⟨D, d1, d2, d3⟩ := b94 (nd data i) (data.drop (i + 1)) (i : Int) (by omega) i (data.take i) [] (by simp; omega) (by omega) (by rw [List.append_nil]; exact hs) (by simp)
   simp only [List.nil_append, List.append_nil] at d1 d2
   rw [← hsplit] at d1
   have hDl : D.length = i + 1 := by rw [d2.length_eq]; simp; omega
   have hp2 : (D ++ data.drop (i + 1)).Perm l := by
    refine List.Perm.trans ?_ hp
    conv => rhs; rw [hsplit]
    exact (d2.append_right _).trans (by simpa using List.perm_middle.symm)
   obtain ⟨r, r1, r2, r3⟩ := ih (i + 1) (D ++ data.drop (i + 1)) (by omega) (by omega) hp2 (by rw [List.take_append_of_le_length (by omega), List.take_of_length_le (by omega)]; exact d3)
   refine ⟨r, (ac3 (s' := (((i + 1 : Nat) : Int), D ++ data.drop (i + 1))) ?_).trans r1, r2, r3⟩
   show ab0 0 (l.length : Int) (i : Int) data = _
   unfold ab0
   rw [if_pos (by rw [decide_eq_true_eq]; omega), d1]
   rfl
 have hw : IntKind.wrap .i64 (0 + 1) = ((1 : Nat) : Int) := by decide
 rw [hw]
 refine key (l.length - 1) 1 l (by omega) (Nat.le_refl _) (.refl _) ?_
 obtain ⟨a, r, rfl⟩ : ∃ a r, l = a :: r := by
  cases l with
  | nil => simp at h
  | cons a r => exact ⟨a, r, rfl⟩
 simp [Srt]
theorem cd8 {l : List aa1} (h : 1 ≤ l.length ∧ l.length ≤ 12) : ∃ r, ac4 l = some r ∧ r.Perm l ∧ Srt r := by
 obtain ⟨r, h1, h2, h3⟩ := b53 h
 obtain ⟨k, hk⟩ := bV2 h.2
 refine ⟨r, ?_, h2, h3⟩
 unfold ac4
 rw [hk, Option.bind_some]
 have hp : ad1 0 (l.length : Int) k l = some r := by
  unfold ad1
  refine ab6 ?_
  unfold af7 aL7
  rw [ae0 (by omega) (by omega), if_pos (by rw [decide_eq_true_eq]; omega), h1, Option.bind_some, if_pos h2.length_eq, Option.bind_some]
 unfold aL7
 rw [hp, Option.bind_some, if_pos h2.length_eq, Option.bind_some]
theorem bq7 : ∀ {a b : List aa1}, a.Perm b → Srt a → b.Pairwise (fun x y => x.Id < y.Id) → a = b
 | a, [], hp, _, _ => hp.eq_nil
 | [], y :: b, hp, _, _ => by have := hp.length_eq; simp at this
 | x :: a, y :: b, hp, hs, hb => by
  unfold Srt at hs
  rw [List.pairwise_cons] at hs hb
  have hx : x = y := by
   have h1 : x ∈ y :: b := hp.mem_iff.1 (by simp)
   have h2 : y ∈ x :: a := hp.mem_iff.2 (by simp)
   rcases List.mem_cons.1 h1 with h1 | h1
   ·exact h1
   ·rcases List.mem_cons.1 h2 with h2 | h2
    ·exact h2.symm
    ·have := hb.1 x h1
     have := hs.1 y h2
     omega
  subst hx
  rw [bq7 (List.Perm.cons_inv hp) hs.2 hb.2]
def OkR : List Int → List aa1 → Prop
 | _, [] => True
 | S, y :: r => y.Parent ∈ S ∧ y.Id ∉ S ∧ OkR (y.Id :: S) r
theorem a99 {y : aa1} {r : List aa1} : ∀ {S : List Int}, y.Parent ∉ S → S.flatMap (aw0 (y :: r)) = S.flatMap (aw0 r)
 | [], _ => rfl
 | a :: S, h => by
  rw [List.flatMap_cons, List.flatMap_cons, a99 (fun hm => h (by simp [hm])), aw0, if_neg (by rintro rfl; simp at h)]
theorem bq8 : ∀ (r : List aa1) (S : List Int), S.Nodup → OkR S r → (S.flatMap (aw0 r)).Perm r
 | [], S, _, _ => by
  have : ∀ S : List Int, S.flatMap (aw0 []) = [] := by
   intro S
   induction S with
   | nil => rfl
   | cons a S ih => rw [List.flatMap_cons, ih]; rfl
  rw [this]
 | y :: r, S, hn, h => by
  obtain ⟨hp, hy, hr⟩ := h
  obtain ⟨S1, S2, rfl⟩ := List.append_of_mem hp
  have ih := bq8 r (y.Id :: (S1 ++ y.Parent :: S2)) (List.nodup_cons.2 ⟨hy, hn⟩) hr
  obtain ⟨n1, n2, n3⟩ := List.nodup_append.1 hn
  have m1 : y.Parent ∉ S1 := fun hm => n3 _ hm _ (by simp) rfl
  have m2 : y.Parent ∉ S2 := (List.nodup_cons.1 n2).1
  rw [List.flatMap_append, List.flatMap_cons, a99 m1, a99 m2, aw0, if_pos rfl]
  rw [List.flatMap_cons, List.flatMap_append, List.flatMap_cons] at ih
  refine List.Perm.trans ?_ (ih.cons y)
  generalize S1.flatMap (aw0 r) = X
  generalize S2.flatMap (aw0 r) = Z
  generalize aw0 r y.Id = E
  generalize aw0 r y.Parent = F
  have e1 : X ++ (y :: E ++ F ++ Z) = X ++ y :: (E ++ (F ++ Z)) := by simp
  rw [e1]
  refine List.perm_middle.trans (List.Perm.cons y ?_)
  exact List.perm_append_comm_assoc X E (F ++ Z)
theorem RightT.okR {t : aa3} (h : RightT t) : ∀ (m j : Nat) (S : List Int), m + j = t.Nodes.length → 1 ≤ j → (∀ id, id ∈ S ↔ ∃ k, k < j ∧ id = (nd t.Nodes k).Id) → OkR S (t.Nodes.drop j)
 | 0, j, S, hm, _, _ => by rw [List.drop_of_length_le (by omega)]; trivial
 | m + 1, j, S, hm, hj, hS => by
  have hjl : j < t.Nodes.length := by omega
  rw [aR4 hjl]
  have ok := h.ok j (by omega) hjl
  obtain ⟨k, k1, k2, _⟩ := ok.dir
  refine ⟨(hS _).2 ⟨k, k1, k2.symm⟩, fun hm' => ?_, h.okR m (j + 1) _ (by omega) (by omega) fun id => ?_⟩
  ·obtain ⟨q, q1, q2⟩ := (hS _).1 hm'
   have := h.inj hjl (by omega) q2
   omega
  ·rw [List.mem_cons, hS]
   constructor
   ·rintro (rfl | ⟨q, q1, q2⟩)
    ·exact ⟨j, by omega, rfl⟩
    ·exact ⟨q, by omega, q2⟩
   ·rintro ⟨q, q1, q2⟩
    by_cases hq : q = j
    ·subst hq; exact .inl q2
    ·exact .inr ⟨q, by omega, q2⟩
theorem RightT.perm {t : aa3} (h : RightT t) : (nd t.Nodes 0 :: aw0 (t.Nodes.drop 1) (nd t.Nodes 0).Id).Perm t.Nodes := by
 have hl := h.len
 have h1 := bq8 (t.Nodes.drop 1) [(nd t.Nodes 0).Id] (by simp) (h.okR (t.Nodes.length - 1) 1 _ (by omega) (by omega) (fun id => by
  simp only [List.mem_singleton]
  constructor
  ·rintro rfl; exact ⟨0, by omega, rfl⟩
  ·rintro ⟨k, k1, k2⟩
   have : k = 0 := by omega
   subst this; exact k2))
 simp only [List.flatMap_cons, List.flatMap_nil, List.append_nil] at h1
 have h2 := h1.cons (nd t.Nodes 0)
 rwa [show nd t.Nodes 0 :: t.Nodes.drop 1 = t.Nodes by rw [← aR4 (l := t.Nodes) (j := 0) (by omega)]; rfl] at h2
theorem RightT.pairs {t : aa3} (h : RightT t) : t.Nodes.Pairwise (fun x y => x.Id < y.Id) := by
 rw [List.pairwise_iff_getElem]
 intro i j hi hj hij
 rw [a96 hi, a96 hj]
 exact h.lt hij hj
def aR5 (t : aa3) : Str := aM2 4 t.Next ++ (aM2 4 t.Nodes.length ++ ah9 (ap4 (nd t.Nodes 0) (as4 (t.Nodes.drop 1) (nd t.Nodes 0).Id)))
structure Laid (t : aa3) (s : aa0) : Prop where
 len : s.Blocks.length ≤ 400
 head : HasB s 4 (aR5 t)
 root : Stored s (ak2 (nd t.Nodes 0)) (ao7 (nd t.Nodes 0) (as4 (t.Nodes.drop 1) (nd t.Nodes 0).Id))
 all : hasAll s (t.Nodes.drop 1) (nd t.Nodes 0).Id
theorem cj8 : aU6 400 = some ⟨400, []⟩ := rfl
theorem bq9 {t : aa3} (h : Sm t) : (aR5 t).length ≤ 600 := by
 have hl := h.right.len
 have := (aD6 (h.okE (i := 0) (by omega) (h.cont_len (j := 0) (by omega)))).2
 simp only [aR5, List.length_append, aj6]
 rw [show (0 + 1) = 1 from rfl] at this
 omega
theorem bJ6 {t : aa3} (h : Sm t) : ∃ s' sc e, ar5 ⟨400, []⟩ t = some (s', sc, e) ∧ (e = 34 ∨ (e = 0 ∧ sc = af8 4 (aR5 t) ∧ Laid t s')) := by
 have hl := h.right.len
 have hlen := h.len
 have hdl : (aw0 (t.Nodes.drop 1) (nd t.Nodes 0).Id).length = t.Nodes.length - 1 := by
  have := h.right.perm.length_eq
  simp only [List.length_cons] at this
  omega
 have hnx := h.right.next
 have hid0 := (h.right.id_lt (i := 0) (by omega))
 unfold ar5
 rw [bg0 h.right, Option.bind_some, if_neg (by decide)]
 obtain ⟨s1, x, e, q1, q2⟩ := bJ5 h 15 0 ⟨400, []⟩ (by omega) (by omega) rfl (by rw [show (0 + 1) = 1 from rfl, hdl]; simp; omega)
 rw [h.right.id0] at q1
 rw [q1, Option.bind_some]
 rcases q2 with rfl | ⟨rfl, rfl, q3, q4, q5, q6⟩
 ·rw [if_pos (by simp), b90 (by simp), Option.bind_some]
  exact ⟨_, _, _, rfl, .inl rfl⟩
 ·rw [show (0 + 1) = 1 from rfl] at q4 q5 q6 ⊢
  rw [hdl] at q6
  have q6' : s1.Blocks.length ≤ 33 * (1 + (t.Nodes.length - 1)) := by simpa using q6
  rw [if_neg (by simp)]
  have hp1 := PutI (n := t.Next) (w := 4) (by omega) (by omega) (by omega) (by omega) (by omega)
  have hp2 := PutI (n := (t.Nodes.length : Int)) (w := 4) (by omega) (by omega) (by omega) (by omega) (by omega)
  rw [show ((4 : Nat) : Int) = 4 from rfl] at hp1 hp2
  have ok := h.okE (i := 0) (by omega) (h.cont_len (j := 0) (by omega))
  rw [show (0 + 1) = 1 from rfl] at ok
  have hel := (aD6 ok).2
  have hhl := bq9 h
  rw [hp1, Option.bind_some, hp2, Option.bind_some, al0 (by simp [aj6]), Option.bind_some, bp9 ok, Option.bind_some, al0 (by simp only [List.length_append, aj6]; omega), Option.bind_some]
  rw [show aM2 4 t.Next ++ aM2 4 (t.Nodes.length : Int) ++ ah9 (ap4 (nd t.Nodes 0) (as4 (t.Nodes.drop 1) (nd t.Nodes 0).Id)) = aR5 t by unfold aR5; simp]
  obtain ⟨s2, sc, e, r1, r2⟩ := PutB (s := s1) (kind := 4) (data := aR5 t) (by decide) (by omega) q3.1 (by omega)
  rw [r1, Option.bind_some]
  rcases r2 with rfl | ⟨rfl, rfl, r3, r4, r5⟩
  ·rw [if_pos (by simp), b90 (by simp), Option.bind_some]
   exact ⟨_, _, _, rfl, .inl rfl⟩
  ·rw [if_neg (by simp)]
   exact ⟨_, _, _, rfl, .inr ⟨rfl, rfl, ⟨by simp only; omega, r4, q4.mono r3, q5.mono r3⟩⟩⟩
theorem bJ7 {t : aa3} (h : Sm t) {s : aa0} (hs : Laid t s) : av4 s (af8 4 (aR5 t)) = some (t, 0) := by
 have hl := h.right.len
 have hlen := h.len
 have hdl : (aw0 (t.Nodes.drop 1) (nd t.Nodes 0).Id).length = t.Nodes.length - 1 := by
  have := h.right.perm.length_eq
  simp only [List.length_cons] at this
  omega
 have hnx := h.right.next
 have hid0 := (h.right.id_lt (i := 0) (by omega))
 have hhl := bq9 h
 have ok := h.okE (i := 0) (by omega) (h.cont_len (j := 0) (by omega))
 rw [show (0 + 1) = 1 from rfl] at ok
 unfold av4 ap2
 rw [Option.bind_some]
 simp only
 unfold am0
 rw [b43 hs.head (by omega) hs.len (by simp), Option.bind_some, if_neg (by simp)]
 simp only
 have a0 : At ⟨aR5 t, 0, false⟩ (aR5 t) (aM2 4 t.Next ++ (aM2 4 t.Nodes.length ++ (ah9 (ap4 (nd t.Nodes 0) (as4 (t.Nodes.drop 1) (nd t.Nodes 0).Id)) ++ []))) := by
  have := At.start (aR5 t)
  rw [List.append_nil]
  exact this
 obtain ⟨d1, p1, a1⟩ := a0.n32 (by omega) (by unfold U32; omega)
 obtain ⟨d2, p2, a2⟩ := a1.n32 (by omega) (by unfold U32; omega)
 obtain ⟨d3, p3, a3⟩ := a2.entry (by omega) ok rfl
 rw [p1, Option.bind_some, p2, Option.bind_some, p3, Option.bind_some]
 simp only
 obtain ⟨b1, b2, pre, b3, b4⟩ := a3
 have hat : d3.at_ = ((aR5 t).length : Int) := by rw [b4]; rw [List.append_nil] at b3; rw [b3]
 rw [if_neg (by rw [b1, hat]; simp; omega)]
 have hadd := cj6 h hs.len (most := (t.Nodes.length : Int)) 16 0 [af8 4 (aR5 t)] [] (by omega) (by omega) hs.root hs.all (by rw [show (0 + 1) = 1 from rfl, hdl]; simp; omega) (by rw [show (0 + 1) = 1 from rfl, hdl]; simp; omega) (by omega)
 obtain ⟨l', r1, r2⟩ := hadd
 rw [show (0 + 1) = 1 from rfl] at r1
 have same : al8 16 (ap4 (nd t.Nodes 0) (as4 (t.Nodes.drop 1) (nd t.Nodes 0).Id)) (t.Nodes.length : Int) s [af8 4 (aR5 t)] = ac1 17 (ap4 (nd t.Nodes 0) (as4 (t.Nodes.drop 1) (nd t.Nodes 0).Id)) (t.Nodes.length : Int) s [af8 4 (aR5 t)] [] := rfl
 rw [List.nil_append, same, r1, Option.bind_some, if_neg (by simp)]
 simp only [List.nil_append]
 obtain ⟨r, c1, c2, c3⟩ := cd8 (l := nd t.Nodes 0 :: aw0 (t.Nodes.drop 1) (nd t.Nodes 0).Id) (by simp only [List.length_cons]; omega)
 have hr : r = t.Nodes := bq7 (c2.trans h.right.perm) c3 h.right.pairs
 subst hr
 unfold aL7
 rw [c1, Option.bind_some, if_pos c2.length_eq, Option.bind_some, if_neg (by simp)]
 rw [show (aa3.mk t.Next t.Nodes) = t from rfl, bg0 h.right, Option.bind_some, Option.bind_some, if_neg (by decide), Option.bind_some]
end Go.Proofs.YteejnomnholelaaGreatDoor
