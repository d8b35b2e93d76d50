import Derived.Test.YtchaaedlfibdoaaGreatDoorPA
open Bool (not_eq_true' or_eq_true)
open Int (le_refl tmod)
open Go.IntKind (wrap)
open List (append_assoc append_nil drop_of_length_le flatMap_cons flatMap_nil getD length_append length_cons length_nil mem_cons mem_singleton nil_append pairwise_append pairwise_cons perm_middle)
namespace Go.Proofs.YtchaaedlfibdoaaGreatDoor
open Go.Vm
set_option linter.unusedVariables false
set_option linter.unusedSimpArgs false
set_option maxRecDepth 100000
section
variable {K : Type} [DecidableEq K]
def b94 (k : K) (l : List (K × Int × Nat)) : Int := match al7 k l with | some q => q.2.1 | none => 0
theorem cg8 (k : K) : b94 k [] = 0 := rfl
theorem aI4 (k : K) (q : K × Int × Nat) (r : List (K × Int × Nat)) : b94 k (q :: r) = if k = q.1 then q.2.1 else b94 k r := by
 by_cases h : k = q.1
 ·simp [b94, al7, h]
 ·simp only [b94, al7, iN h]
  cases al7 k r <;> rfl
theorem aM4 (m : ap6 K) (k : K) : aq8 m k = b94 k m.1 := rfl
theorem bh7 {k : K} {v : Int} {b : Nat} : ∀ {l : List (K × Int × Nat)}, al7 k l = none → ∀ k', b94 k' (l ++ [(k, v, b)]) = if k = k' then v else b94 k' l
 | [], _, k' => by
  rw [nil_append, aI4, cg8]
  by_cases h : k = k'
  ·subst h; simp
  ·rw [iN h, iN (fun e => h e.symm)]
 | q :: r, h, k' => by
  simp only [al7] at h
  split at h
  ·cases h
  ·rename_i hk
   rw [Option.map_eq_none_iff] at h
   rw [List.cons_append, aI4, aI4, bh7 h k']
   by_cases h1 : k' = q.1
   ·rw [iP h1, iP h1, iN (by rintro rfl; exact hk h1)]
   ·rw [iN h1, iN h1]
theorem aP4 {k : K} {v : Int} : ∀ {l : List (K × Int × Nat)} {i : Nat} {q : Int × Nat}, al7 k l = some (i, q) → ∀ k', b94 k' (l.modify i fun e => (e.1, v, e.2.2)) = if k = k' then v else b94 k' l
 | [], i, q, h, k' => by cases h
 | a :: r, i, q, h, k' => by
  simp only [al7] at h
  split at h
  ·rename_i hk
   cases h
   rw [List.modify_zero_cons, aI4, aI4]
   by_cases h1 : k' = a.1
   ·rw [iP h1, iP (hk.trans h1.symm)]
   ·rw [iN h1, iN h1, iN (by rintro rfl; exact h1 hk)]
  ·rename_i hk
   obtain ⟨⟨j, q'⟩, hj, he⟩ := oM.1 h
   cases he
   rw [List.modify_succ_cons, aI4, aI4, aP4 hj k']
   by_cases h1 : k' = a.1
   ·rw [iP h1, iP h1, iN (by rintro rfl; exact hk h1)]
   ·rw [iN h1, iN h1]
theorem aS7 (m : ap6 K) (k : K) (v : Int) (k' : K) : aq8 (a55 m k v) k' = if k = k' then v else aq8 m k' := by
 unfold a55
 rw [aM4, aM4]
 cases h : al7 k m.1 with
 | none => exact bh7 h k'
 | some q => obtain ⟨i, q⟩ := q; exact aP4 h k'
def Rise (m : ap6 K) : Prop := m.1.Pairwise (fun a b => a.2.2 < b.2.2) ∧ ∀ q ∈ m.1, q.2.2 < m.2
omit [DecidableEq K] in
theorem Rise.nil : Rise (([], 0) : ap6 K) := ⟨.nil, by simp⟩
omit [DecidableEq K] in
theorem Rise.push {m : ap6 K} (h : Rise m) (k : K) (v : Int) : Rise ((m.1 ++ [(k, v, m.2)], m.2 + 1) : ap6 K) := by
 refine ⟨pairwise_append.2 ⟨h.1, by simp, fun a ha b hb => ?_⟩, fun q hq => ?_⟩
 ·simp only [mem_singleton] at hb; subst hb; exact h.2 a ha
 ·rcases List.mem_append.1 hq with hq | hq
  ·exact Nat.lt_succ_of_lt (h.2 q hq)
  ·simp only [mem_singleton] at hq; subst hq; exact Nat.lt_succ_self _
omit [DecidableEq K] in
theorem a31 (v : Int) : ∀ (l : List (K × Int × Nat)) (i : Nat), (l.modify i fun e => (e.1, v, e.2.2)).map (fun q => q.2.2) = l.map (fun q => q.2.2)
 | [], i => by cases i <;> rfl
 | a :: r, 0 => by simp
 | a :: r, i + 1 => by simp [a31 v r i]
omit [DecidableEq K] in
theorem Rise.modify {m : ap6 K} (h : Rise m) (i : Nat) (v : Int) : Rise ((m.1.modify i fun e => (e.1, v, e.2.2), m.2) : ap6 K) := by
 have e := a31 v m.1 i
 have h1 : (m.1.map (fun q => q.2.2)).Pairwise (· < ·) := List.pairwise_map.2 h.1
 refine ⟨?_, ?_⟩
 ·have := e ▸ h1
  exact List.pairwise_map.1 this
 ·intro q hq
  have : q.2.2 ∈ (m.1.modify i fun e => (e.1, v, e.2.2)).map (fun q => q.2.2) := List.mem_map_of_mem hq
  rw [e] at this
  obtain ⟨p, hp, hpe⟩ := List.mem_map.1 this
  have := h.2 p hp
  simp only at hpe ⊢
  omega
theorem Rise.set {m : ap6 K} (h : Rise m) (k : K) (v : Int) : Rise (a55 m k v) := by
 unfold a55
 cases hf : al7 k m.1 with
 | none => exact h.push k v
 | some q => exact h.modify _ v
theorem Rise.ent {m : ap6 K} (h : Rise m) (k : K) : Rise (bj9 m k).2.2 := by
 unfold bj9
 cases hf : al7 k m.1 with
 | none => exact h.push k 0
 | some q => exact h
theorem bh8 {k : K} : ∀ {l : List (K × Int × Nat)} {i : Nat} {v : Int} {b : Nat}, l.Pairwise (fun a b => a.2.2 < b.2.2) → al7 k l = some (i, v, b) → l.findIdx? (fun q => (q.2.2 : Int) == (b : Int)) = some i
 | [], _, _, _, _, h => by cases h
 | a :: r, i, v, b, hp, h => by
  rw [pairwise_cons] at hp
  simp only [al7] at h
  rw [List.findIdx?_cons]
  split at h
  ·simp only [oI, pJ] at h
   obtain ⟨rfl, h2⟩ := h
   simp [h2]
  ·obtain ⟨⟨j, v', b'⟩, hj, he⟩ := oM.1 h
   cases he
   have hm : ∃ p ∈ r, p.2.2 = b := by
    have : ∀ {l : List (K × Int × Nat)} {j : Nat}, al7 k l = some (j, v, b) → ∃ p ∈ l, p.2.2 = b := by
     intro l
     induction l with
     | nil => intro j h; cases h
     | cons a r ih =>
      intro j h
      simp only [al7] at h
      split at h
      ·simp only [oI, pJ] at h
       obtain ⟨_, h2⟩ := h
       exact ⟨a, by simp, by rw [h2]⟩
      ·obtain ⟨⟨j', v', b'⟩, hj, he⟩ := oM.1 h
       cases he
       obtain ⟨p, h1, h2⟩ := ih hj
       exact ⟨p, by simp [h1], h2⟩
    exact this hj
   obtain ⟨p, hp1, hp2⟩ := hm
   have := hp.1 p hp1
   rw [iN (by simp; omega), bh8 hp.2 hj]
   rfl
theorem bz5 {k : K} {v : Int} {b : Nat} : ∀ {l : List (K × Int × Nat)}, al7 k l = none → al7 k (l ++ [(k, v, b)]) = some (l.length, v, b)
 | [], _ => by simp [al7]
 | q :: r, h => by
  simp only [al7] at h
  split at h
  ·cases h
  ·rename_i hk
   rw [Option.map_eq_none_iff] at h
   simp only [List.cons_append, al7, iN hk, bz5 h, Option.map_some, length_cons]
theorem cq3 {m : ap6 K} (h : Rise m) (k : K) (v : Int) : ∃ m', cc5 (bj9 m k).2.2 ((bj9 m k).2.1 : Int) v = some m' ∧ Rise ((m', (bj9 m k).2.2.2) : ap6 K) ∧ ∀ k', aq8 (m', (bj9 m k).2.2.2) k' = if k = k' then v else aq8 m k' := by
 have hr := h.ent k
 unfold bj9 at hr ⊢
 cases hf : al7 k m.1 with
 | none =>
  rw [hf] at hr
  simp only at hr ⊢
  have hfp := bz5 (v := 0) (b := m.2) hf
  have hix := bh8 hr.1 hfp
  refine ⟨(m.1 ++ [(k, 0, m.2)]).modify m.1.length fun e => (e.1, v, e.2.2), ?_, hr.modify m.1.length v, fun k' => ?_⟩
  ·exact congrArg (Option.map fun i => (m.1 ++ [(k, 0, m.2)]).modify i fun e => (e.1, v, e.2.2)) hix
  rw [aM4, aM4]
  simp only
  rw [aP4 hfp k', bh7 hf k']
  split <;> rfl
 | some q =>
  obtain ⟨i, v0, b⟩ := q
  simp only
  have hix := bh8 h.1 hf
  refine ⟨m.1.modify i fun e => (e.1, v, e.2.2), ?_, h.modify i v, fun k' => ?_⟩
  ·exact congrArg (Option.map fun i => m.1.modify i fun e => (e.1, v, e.2.2)) hix
  rw [aM4, aM4]
  exact aP4 hf k'
end
def b70 (c : UInt8) : Bool := decide ((c.toNat : Int) < 33) || (decide (126 < (c.toNat : Int)) || decide ((c.toNat : Int) = 47))
def a88 (name : Str) : Bool := !(decide (name = []) || (decide (name = [46]) || (decide (name = [46, 46]) || decide (64 < (List.length name : Int))))) && !name.any b70
theorem bM9 {name : Str} {i : Nat} (h : i < name.length) : (name.drop i).any b70 = (b70 name[i] || (name.drop (i + 1)).any b70) := by
 rw [List.drop_eq_getElem_cons h, List.any_cons]
theorem bs7 {name : Str} : aU3 name = some (a88 name) := by
 unfold aU3 a88
 cases hc : (decide (name = []) || (decide (name = [46]) || (decide (name = [46, 46]) || decide (64 < (List.length name : Int))))) with
 | true => simp
 | false =>
  have hm : name.length ≤ maxLen := by
   simp only [Bool.or_eq_false_iff, decide_eq_false_iff_not] at hc
   unfold maxLen; omega
  have := ah3 name.length (fun (s : Unit) i => i) (fun s => av4 name s) (fun i _ => !(name.drop i).any b70) (fun _ _ => True) (s0 := ()) trivial ?_ ?_
  ·simp only [Bool.false_eq_true, if_false, Bool.not_false, Bool.true_and]
   rw [this]; rfl
  ·intro s i hi _
   have hd : decide ((i : Int) < (List.length name : Int)) = true := by simp [hi]
   simp only [av4, aL3 hi, aK1 hi hm, oB, bM9 hi, b70, hd, if_true]
   generalize (name.drop (i + 1)).any b70 = R
   cases decide ((name[i].toNat : Int) < 33) <;> cases decide (126 < (name[i].toNat : Int)) <;> cases decide ((name[i].toNat : Int) = 47) <;> simp
  ·intro s _; simp [av4]
theorem bk6 {name : Str} (hm : name.length ≤ maxLen) : aO6 name = some (a88 name) := by
 unfold aO6 a88
 have := ah3 name.length (fun (s : Unit) i => i) (fun s => at4 name s) (fun i _ => !(name.drop i).any b70 && (decide (1 ≤ (List.length name : Int)) && (decide ((List.length name : Int) ≤ 64) && (!decide (name = [46]) && !decide (name = [46, 46]))))) (fun _ _ => True) (s0 := ()) trivial ?_ ?_
 ·rw [this]
  congr 1
  have h1 : decide (1 ≤ (List.length name : Int)) = !decide (name = []) := by
   cases name with
   | nil => rfl
   | cons a r => simp; omega
  have h2 : decide ((List.length name : Int) ≤ 64) = !decide (64 < (List.length name : Int)) := by
   rw [Bool.eq_iff_iff]; simp
  rw [h1, h2, List.drop_zero]
  cases name.any b70 <;> cases decide (name = []) <;> cases decide (64 < (List.length name : Int)) <;> cases decide (name = [46]) <;> cases decide (name = [46, 46]) <;> rfl
 ·intro s i hi _
  have hd : decide ((i : Int) < (List.length name : Int)) = true := by simp [hi]
  simp only [at4, aL3 hi, aK1 hi hm, oB, bM9 hi, b70, hd, if_true]
  generalize (name.drop (i + 1)).any b70 = R
  cases decide ((name[i].toNat : Int) < 33) <;> cases decide (126 < (name[i].toNat : Int)) <;> cases decide ((name[i].toNat : Int) = 47) <;> simp
 ·intro s _; simp [at4]
def bU8 (m : Int) : Prop := 0 ≤ m ∧ m < 4294967296 ∧ (m - m % 512 = 0 ∨ m - m % 512 = 2147483648 ∨ m - m % 512 = 1073741824 ∨ m - m % 512 = 536870912 ∨ m - m % 512 = 1610612736)
instance (m : Int) : Decidable (bU8 m) := by unfold bU8; infer_instance
theorem cq4 (m : Int) : aT9 m = some (decide (bU8 m)) := by
 unfold aT9
 by_cases h : 0 ≤ m ∧ m < 4294967296
 ·have ht : tmod m 512 = m % 512 := Int.tmod_eq_emod_of_nonneg h.1
  rw [iN (by simp; omega), ht, ac9 (by omega) (by omega)]
  congr 1
  rw [Bool.eq_iff_iff, dT (p := bU8 m)]
  simp only [or_eq_true, dT]
  exact ⟨fun hh => ⟨h.1, h.2, hh⟩, fun hh => hh.2.2⟩
 ·rw [iP (by simp; omega)]
  congr 1
  symm
  rw [decide_eq_false_iff_not]
  intro hp
  exact h ⟨hp.1, hp.2.1⟩
theorem bU9 {m : Int} (h : bU8 m) : aU0 m = some true := by
 obtain ⟨h0, h1, h2⟩ := h
 have ht : tmod m 512 = m % 512 := Int.tmod_eq_emod_of_nonneg h0
 unfold aU0 aq5
 rw [iN (by simp; omega), ht, ac9 (by omega) (by omega)]
 rcases h2 with h2 | h2 | h2 | h2 | h2 <;> rw [h2] <;> simp
theorem bN0 {m : Int} (h0 : 0 ≤ m) (h1 : m < 4294967296) : an5 m = some (decide (2147483648 ≤ m)) := by
 unfold an5
 rw [Int.tdiv_eq_ediv_of_nonneg h0, ac9 (by omega) (by omega), Int.tmod_eq_emod_of_nonneg (by omega)]
 congr 1
 rw [Bool.eq_iff_iff]
 simp only [bA, dT]
 omega
structure aU9 (n : aa1) : Prop where
 mode : bU8 n.Mode
 vers : 0 ≤ n.Vers ∧ n.Vers ≤ 2147483647
 atime : 0 ≤ n.Atime ∧ n.Atime ≤ 1099511627776
 mtime : 0 ≤ n.Mtime ∧ n.Mtime ≤ 1099511627776
 uid : n.Uid.length ≤ 64
 gid : n.Gid.length ≤ 64
 muid : n.Muid.length ≤ 64
 data : n.Data.length ≤ 65536
 dir : 2147483648 ≤ n.Mode → n.Data = []
theorem bz6 (n : aa1) : ∃ b, aC6 n = some b ∧ (b = true ↔ aU9 n) := by
 unfold aC6
 rw [cq4, oB]
 split
 ·rename_i h1
  simp only [or_eq_true, not_eq_true', dT, decide_eq_false_iff_not] at h1
  refine ⟨false, rfl, fun h => (by cases h), fun h => ?_⟩
  have a1 := h.vers; have a2 := h.atime; have a3 := h.mtime
  rcases h1 with h1 | h1
  ·exact absurd h.mode h1
  ·omega
 ·rename_i h1
  simp only [or_eq_true, not_eq_true', dT, decide_eq_false_iff_not, not_or, Decidable.not_not] at h1
  split
  ·rename_i h2
   simp only [or_eq_true, dT] at h2
   refine ⟨false, rfl, fun h => (by cases h), fun h => ?_⟩
   have a1 := h.uid; have a2 := h.gid; have a3 := h.muid; have a4 := h.data
   omega
  ·rename_i h2
   simp only [or_eq_true, dT, not_or] at h2
   refine ⟨_, rfl, fun h3 => ?_, fun h => by
    simp only [or_eq_true, not_eq_true', dT, decide_eq_false_iff_not]
    by_cases hm : 2147483648 ≤ n.Mode
    ·exact .inr (h.dir hm)
    ·exact .inl hm⟩
   simp only [or_eq_true, not_eq_true', dT, decide_eq_false_iff_not] at h3
   obtain ⟨a1, a2, a3, a4, a5, a6, a7⟩ := h1
   obtain ⟨b1, b2, b3, b4⟩ := h2
   exact ⟨a1, by omega, by omega, by omega, by omega, by omega, by omega, by omega, fun hm => by
    rcases h3 with h3 | h3
    ·exact absurd hm h3
    ·exact h3⟩
theorem cg9 {n : aa1} (h : aU9 n) : aU2 n = some true := by
 unfold aU2 aU1
 rw [bU9 h.mode, oB]
 have h1 := h.vers; have h2 := h.atime; have h3 := h.mtime; have h4 := h.uid; have h5 := h.gid; have h6 := h.muid; have h7 := h.data
 rw [iN (by decide), iN (by rw [dT]; omega), iN (by rw [dT]; omega), oB, oB, iN (by simp; omega), oB]
 rw [iN (by simp; omega), iN (by simp; omega), bN0 h.mode.1 h.mode.2.1, oB]
 congr 1
 by_cases hm : 2147483648 ≤ n.Mode
 ·simp [h.dir hm]
 ·simp [hm]
def nd (l : List aa1) (i : Nat) : aa1 := l.getD i default
theorem aD6 {l : List aa1} {i : Nat} (h : i < l.length) : ag1 l (i : Int) = some (nd l i) := by
 rw [aj4 h]; simp [nd, getD, gE h]
theorem bo5 {l : List aa1} {i : Nat} (h : i < l.length) : nd l i ∈ l := by
 simp [nd, getD, gE h]
theorem ch0 {l : List aa1} {i : Nat} (h : i < l.length) (h0 : 0 < i) : ag1 l ((i : Int) - 1) = some (nd l (i - 1)) := by
 rw [show (i : Int) - 1 = ((i - 1 : Nat) : Int) by omega, aD6 (by omega)]
structure OkAt (l : List aa1) (i : Nat) : Prop where
 rise : (nd l (i - 1)).Id < (nd l i).Id
 par : (nd l i).Parent < (nd l i).Id
 name : a88 (nd l i).Mz = true
 fields : aU9 (nd l i)
 dir : ∃ k, k < i ∧ (nd l k).Id = (nd l i).Parent ∧ 2147483648 ≤ (nd l k).Mode
 one : ∀ k, 0 < k → k < i → ¬ ((nd l k).Parent = (nd l i).Parent ∧ (nd l k).Mz = (nd l i).Mz)
open Classical in
theorem ch1 {t : aa3} {i : Nat} (hi : i < t.Nodes.length) (hl : t.Nodes.length ≤ 1024) : ae0 (fun s => ao7 t (i : Int) s.1 s.2) (false, 0) =
  some (if (∀ k, 0 < k → k < i → ¬ ((nd t.Nodes k).Parent = (nd t.Nodes i).Parent ∧ (nd t.Nodes k).Mz = (nd t.Nodes i).Mz)) ∧ (∃ k, k < i ∧ (nd t.Nodes k).Id = (nd t.Nodes i).Parent ∧ 2147483648 ≤ (nd t.Nodes k).Mode) then .cont ((i + 1 : Nat) : Int) else .done false) := by
 refine (ah3 i (fun (d : Bool) k => (d, k)) (fun s => ao7 t (i : Int) s.1 s.2)
  (fun k d => if (∀ j, 0 < j → k ≤ j → j < i → ¬ ((nd t.Nodes j).Parent = (nd t.Nodes i).Parent ∧ (nd t.Nodes j).Mz = (nd t.Nodes i).Mz)) ∧ (d = true ∨ ∃ j, k ≤ j ∧ j < i ∧ (nd t.Nodes j).Id = (nd t.Nodes i).Parent ∧ 2147483648 ≤ (nd t.Nodes j).Mode) then .cont ((i + 1 : Nat) : Int) else .done false)
  (fun _ _ => True) (s0 := false) trivial ?_ ?_).trans ?_
 ·intro d k hk _
  have hkl : k < t.Nodes.length := by omega
  unfold ao7 aO5
  simp only
  rw [iP (dlt hk), aD6 hkl, aD6 hi]
  simp only [oB]
  have e1 : (if d = true then some true else if decide ((nd t.Nodes k).Id = (nd t.Nodes i).Parent) = true then some (decide (2147483648 ≤ (nd t.Nodes k).Mode)) else some false) = some (d || (decide ((nd t.Nodes k).Id = (nd t.Nodes i).Parent) && decide (2147483648 ≤ (nd t.Nodes k).Mode))) := by
   cases d <;> simp
   split <;> simp [*]
  have e2 : (if decide (0 < (k : Int)) = true then if decide ((nd t.Nodes k).Parent = (nd t.Nodes i).Parent) = true then some (decide ((nd t.Nodes k).Mz = (nd t.Nodes i).Mz)) else some false else some false) = some (decide (0 < k) && (decide ((nd t.Nodes k).Parent = (nd t.Nodes i).Parent) && decide ((nd t.Nodes k).Mz = (nd t.Nodes i).Mz))) := by
   by_cases h0 : 0 < k
   ·rw [iP (by simp; omega)]
    split <;> simp [*]
   ·rw [iN (by simp; omega)]; simp [h0]
  rw [e1, oB, e2, oB]
  by_cases hb : 0 < k ∧ (nd t.Nodes k).Parent = (nd t.Nodes i).Parent ∧ (nd t.Nodes k).Mz = (nd t.Nodes i).Mz
  ·right
   rw [iP (by simp [hb]), iN]
   rintro ⟨h, _⟩
   exact h k hb.1 (Nat.le_refl _) hk hb.2
  ·left
   rw [iN (by simp only [bA, dT]; exact hb), ah6 (by omega)]
   refine ⟨_, rfl, ?_, trivial⟩
   congr 1
   rw [eq_iff_iff]
   refine and_congr ?_ ?_
   ·constructor
    ·intro h j h1 h2 h3; exact h j h1 (by omega) h3
    ·intro h j h1 h2 h3
     by_cases hj : j = k
     ·subst hj; exact fun hh => hb ⟨h1, hh⟩
     ·exact h j h1 (by omega) h3
   ·simp only [or_eq_true, bA, dT]
    constructor
    ·rintro (h | ⟨j, h1, h2, h3⟩)
     ·exact .inl (.inl h)
     ·by_cases hj : j = k
      ·subst hj; exact .inl (.inr h3)
      ·exact .inr ⟨j, by omega, h2, h3⟩
    ·rintro ((h | h) | ⟨j, h1, h2, h3⟩)
     ·exact .inl h
     ·exact .inr ⟨k, Nat.le_refl _, hk, h⟩
     ·exact .inr ⟨j, by omega, h2, h3⟩
 ·intro d _
  unfold ao7 aD5
  simp only
  rw [iN (by simp)]
  have : ¬ (∃ j, i ≤ j ∧ j < i ∧ (nd t.Nodes j).Id = (nd t.Nodes i).Parent ∧ 2147483648 ≤ (nd t.Nodes j).Mode) := by rintro ⟨j, h1, h2, _⟩; omega
  cases d
  ·rw [iP (show (!false) = true from rfl), iN (by
    rintro ⟨_, h | h⟩
    ·cases h
    ·exact this h)]
   rfl
  ·rw [iN (show ¬ (!true) = true by decide), iP ⟨fun j _ h1 h2 => by omega, .inl rfl⟩, ah6 (by omega)]
   rfl
 ·congr 1
  simp
structure RightT (t : aa3) : Prop where
 len : 1 ≤ t.Nodes.length ∧ t.Nodes.length ≤ 1024
 id0 : (nd t.Nodes 0).Id = 1
 par0 : (nd t.Nodes 0).Parent = 1
 name0 : (nd t.Nodes 0).Mz = [47]
 mode0 : 2147483648 ≤ (nd t.Nodes 0).Mode
 f0 : aU9 (nd t.Nodes 0)
 next : (nd t.Nodes (t.Nodes.length - 1)).Id < t.Xz ∧ t.Xz ≤ 1048576
 ok : ∀ i, 0 < i → i < t.Nodes.length → OkAt t.Nodes i
open Classical in
theorem ch2 {t : aa3} (hn : ∀ n ∈ t.Nodes, n.Mz.length ≤ 1000) (hl : t.Nodes.length ≤ 1024) : ae0 (fun s => al8 t s) 1 = some (decide (∀ j, 0 < j → j < t.Nodes.length → OkAt t.Nodes j)) := by
 by_cases h0 : t.Nodes.length = 0
 ·have e : decide (∀ j, 0 < j → j < t.Nodes.length → OkAt t.Nodes j) = true := decide_eq_true fun j h1 h2 => by omega
  rw [e]
  refine ab5 ?_
  unfold al8
  rw [iN (by rw [dT]; omega)]
 have key := ah3 (t.Nodes.length - 1) (fun (_ : Unit) i => i + 1) (fun s => al8 t s) (fun i _ => decide (∀ j, i < j → j < t.Nodes.length → OkAt t.Nodes j)) (fun _ _ => True) (s0 := ()) trivial
  (by
   intro _ i hi _
   have hp : i + 1 < t.Nodes.length := by omega
   have ep : (i : Int) + 1 = ((i + 1 : Nat) : Int) := by omega
   obtain ⟨f, hf, hf2⟩ := bz6 (nd t.Nodes (i + 1))
   have hname := hn _ (bo5 hp)
   have hin := ch1 hp hl
   unfold al8
   rw [ep, iP (dlt hp), aD6 hp, ac9 (by omega) (by omega), show ((i + 1 : Nat) : Int) - 1 = (i : Int) by omega, aD6 (show i < t.Nodes.length by omega)]
   simp only [oB]
   rw [bk6 (by unfold maxLen; omega), hf]
   simp only [oB]
   have chk : ∃ c, (if decide ((nd t.Nodes (i + 1)).Id ≤ (nd t.Nodes i).Id) = true then some true else if decide ((nd t.Nodes (i + 1)).Id ≤ (nd t.Nodes (i + 1)).Parent) = true then some true else if (!a88 (nd t.Nodes (i + 1)).Mz) = true then some true else some (!f)) = some c ∧
     (c = false ↔ (nd t.Nodes i).Id < (nd t.Nodes (i + 1)).Id ∧ (nd t.Nodes (i + 1)).Parent < (nd t.Nodes (i + 1)).Id ∧ a88 (nd t.Nodes (i + 1)).Mz = true ∧ f = true) := by
    by_cases a1 : (nd t.Nodes (i + 1)).Id ≤ (nd t.Nodes i).Id
    ·exact ⟨true, by simp [a1], by simp; omega⟩
    ·by_cases a2 : (nd t.Nodes (i + 1)).Id ≤ (nd t.Nodes (i + 1)).Parent
     ·exact ⟨true, by simp [a1, a2], by simp; omega⟩
     ·cases a3 : a88 (nd t.Nodes (i + 1)).Mz with
      | false => exact ⟨true, by simp [a1, a2], by simp⟩
      | true => exact ⟨!f, by simp [a1, a2], by simp only [Bool.not_eq_false']; exact ⟨fun h => ⟨by omega, by omega, trivial, h⟩, fun h => h.2.2.2⟩⟩
   obtain ⟨c, hc, hc2⟩ := chk
   rw [hc, oB]
   cases c with
   | true =>
    right
    rw [iP rfl]
    congr 2
    symm
    rw [decide_eq_false_iff_not]
    intro h
    have ok := h (i + 1) (by omega) hp
    have := hc2.2 ⟨by simpa using ok.rise, ok.par, ok.name, hf2.2 ok.fields⟩
    cases this
   | false =>
    obtain ⟨d1, d2, d3, d4⟩ := hc2.1 rfl
    rw [iN (by decide), hin]
    split
    ·rename_i hg
     left
     refine ⟨(), rfl, ?_, trivial⟩
     rw [decide_eq_decide]
     constructor
     ·intro h j h1 h2; exact h j (by omega) h2
     ·intro h j h1 h2
      by_cases hj : j = i + 1
      ·subst hj; exact ⟨by simpa using d1, d2, d3, hf2.1 d4, hg.2, hg.1⟩
      ·exact h j (by omega) h2
    ·rename_i hg
     right
     congr 2
     symm
     rw [decide_eq_false_iff_not]
     intro h
     have ok := h (i + 1) (by omega) hp
     exact hg ⟨ok.one, ok.dir⟩)
  (by
   intro _ _
   unfold al8
   rw [show ((t.Nodes.length - 1 : Nat) : Int) + 1 = (t.Nodes.length : Int) by omega, iN (by simp)]
   congr 2
   symm
   rw [dT]
   intro j h1 h2; omega)
 exact key
open Classical in
theorem bG6 (t : aa3) (hn : ∀ n ∈ t.Nodes, n.Mz.length ≤ 1000) (hnx : t.Nodes.length ≤ 1024) : ∃ b, aO7 t = some b ∧ (b = true → RightT t) := by
 unfold aO7
 by_cases h1 : t.Nodes.length < 1
 ·rw [iP (by rw [dT]; omega), oB, iP rfl]
  exact ⟨false, rfl, fun h => by cases h⟩
 rw [iN (by rw [dT]; omega), iN (by rw [dT]; omega)]
 have l0 : ag1 t.Nodes 0 = some (nd t.Nodes 0) := aD6 (i := 0) (by omega)
 rw [l0]
 simp only [oB]
 obtain ⟨f, hf, hf2⟩ := bz6 (nd t.Nodes 0)
 rw [hf, oB]
 have root : ∃ c, (if (!decide ((nd t.Nodes 0).Id = 1)) = true then some true else if (!decide ((nd t.Nodes 0).Parent = 1)) = true then some true else if (!decide ((nd t.Nodes 0).Mz = [47])) = true then some true else if decide ((nd t.Nodes 0).Mode < 2147483648) = true then some true else some (!f)) = some c ∧
   (c = false → (nd t.Nodes 0).Id = 1 ∧ (nd t.Nodes 0).Parent = 1 ∧ (nd t.Nodes 0).Mz = [47] ∧ 2147483648 ≤ (nd t.Nodes 0).Mode ∧ f = true) := by
  by_cases a1 : (nd t.Nodes 0).Id = 1
  ·by_cases a2 : (nd t.Nodes 0).Parent = 1
   ·by_cases a3 : (nd t.Nodes 0).Mz = [47]
    ·by_cases a4 : (nd t.Nodes 0).Mode < 2147483648
     ·exact ⟨true, by simp [a1, a2, a3, a4], fun h => by cases h⟩
     ·exact ⟨!f, by simp [a1, a2, a3, a4], fun h => ⟨a1, a2, a3, by omega, by simpa using h⟩⟩
    ·exact ⟨true, by simp [a1, a2, a3], fun h => by cases h⟩
   ·exact ⟨true, by simp [a1, a2], fun h => by cases h⟩
  ·exact ⟨true, by simp [a1], fun h => by cases h⟩
 obtain ⟨c, hc, hc2⟩ := root
 rw [hc, oB]
 cases c with
 | true => exact ⟨false, rfl, fun h => by cases h⟩
 | false =>
  obtain ⟨b1, b2, b3, b4, b5⟩ := hc2 rfl
  rw [iN (by decide), ac9 (by omega) (by omega), show ((List.length t.Nodes : Int) - 1) = ((t.Nodes.length - 1 : Nat) : Int) by omega, aD6 (by omega), oB]
  split
  ·exact ⟨false, rfl, fun h => by cases h⟩
  ·rename_i hnext
   simp only [or_eq_true, dT, not_or] at hnext
   refine ⟨_, ch2 hn hnx, fun h => ?_⟩
   have hall := of_decide_eq_true h
   exact ⟨by omega, b1, b2, b3, b4, hf2.1 b5, by omega, fun i h1 h2 => hall i h1 h2⟩
theorem RightT.lt {t : aa3} (h : RightT t) : ∀ {j i : Nat}, i < j → j < t.Nodes.length → (nd t.Nodes i).Id < (nd t.Nodes j).Id
 | 0, i, h1, _ => by omega
 | j + 1, i, h1, h2 => by
  have hr := (h.ok (j + 1) (by omega) h2).rise
  rw [Nat.add_sub_cancel] at hr
  by_cases hij : i = j
  ·subst hij; exact hr
  ·exact Int.lt_trans (h.lt (j := j) (i := i) (by omega) (by omega)) hr
theorem RightT.inj {t : aa3} (h : RightT t) {i j : Nat} (hi : i < t.Nodes.length) (hj : j < t.Nodes.length) (he : (nd t.Nodes i).Id = (nd t.Nodes j).Id) : i = j := by
 rcases Nat.lt_trichotomy i j with h1 | h1 | h1
 ·have := h.lt h1 hj; omega
 ·exact h1
 ·have := h.lt h1 hi; omega
theorem RightT.id_lt {t : aa3} (h : RightT t) {i : Nat} (hi : i < t.Nodes.length) : 1 ≤ (nd t.Nodes i).Id ∧ (nd t.Nodes i).Id < t.Xz := by
 have h1 := h.id0
 have h2 := h.next
 constructor
 ·by_cases h0 : i = 0
  ·subst h0; omega
  ·have := h.lt (i := 0) (j := i) (by omega) hi; omega
 ·by_cases h0 : i = t.Nodes.length - 1
  ·subst h0; exact h2.1
  ·have := h.lt (i := i) (j := t.Nodes.length - 1) (by omega) (by omega); omega
theorem RightT.fields {t : aa3} (h : RightT t) {i : Nat} (hi : i < t.Nodes.length) : aU9 (nd t.Nodes i) := by
 by_cases h0 : i = 0
 ·subst h0; exact h.f0
 ·exact (h.ok i (by omega) hi).fields
def cq5 (t : aa3) (k : Nat) : ac1 := ⟨(nd t.Nodes k).Parent, (nd t.Nodes k).Mz⟩
structure InvM (t : aa3) (i : Nat) (m1 : ap6 Int) (m2 : ap6 ac1) : Prop where
 rise : Rise m2
 rng : ∀ id, 0 ≤ aq8 m1 id ∧ aq8 m1 id ≤ i
 dirs : ∀ k, k < i → 2147483648 ≤ (nd t.Nodes k).Mode → 1 ≤ aq8 m1 (nd t.Nodes k).Id
 names : ∀ key, (∀ k, 0 < k → k < i → key ≠ cq5 t k) → aq8 m2 key = 0
theorem cl6 {t : aa3} {i : Nat} {m1 : ap6 Int} {m2 : ap6 ac1} (hl : t.Nodes.length ≤ 1024) (hi : i < t.Nodes.length) (hf : aU9 (nd t.Nodes i)) (hr : ∀ id, 0 ≤ aq8 m1 id ∧ aq8 m1 id ≤ i)
  (hd : ∀ k, k < i → 2147483648 ≤ (nd t.Nodes k).Mode → 1 ≤ aq8 m1 (nd t.Nodes k).Id) :
  ∃ m1', av5 (i : Int) m1 (nd t.Nodes i) m2 = some (.cont (((i : Int) + 1), m1', m2)) ∧ (∀ id, 0 ≤ aq8 m1' id ∧ aq8 m1' id ≤ ((i + 1 : Nat) : Int)) ∧ ∀ k, k < i + 1 → 2147483648 ≤ (nd t.Nodes k).Mode → 1 ≤ aq8 m1' (nd t.Nodes k).Id := by
 unfold av5
 rw [bN0 hf.mode.1 hf.mode.2.1, oB, ah6 (by omega)]
 have h0 := hr (nd t.Nodes i).Id
 by_cases hm : 2147483648 ≤ (nd t.Nodes i).Mode
 ·rw [iP (by simp [hm]), ac9 (by omega) (by omega)]
  refine ⟨_, rfl, fun id => ?_, fun k hk hkm => ?_⟩
  ·rw [aS7]
   have := hr id
   split <;> omega
  ·rw [aS7]
   split
   ·omega
   ·rename_i hne
    exact hd k (by
     have : k ≠ i := by rintro rfl; exact hne rfl
     omega) hkm
 ·rw [iN (by simpa using hm)]
  refine ⟨_, rfl, fun id => ?_, fun k hk hkm => ?_⟩
  ·have := hr id; omega
  ·exact hd k (by
    have : k ≠ i := by rintro rfl; exact hm hkm
    omega) hkm
theorem aV0 {t : aa3} (h : RightT t) : aA4 t = some true := by
 have hlen := h.len
 unfold aA4
 rw [iN (by
  have := h.next
  simp only [or_eq_true, dT]; omega)]
 refine ah3 t.Nodes.length (fun (m : ap6 Int × ap6 ac1) i => (i, m.1, m.2)) (fun s => av7 t s.1 s.2.1 s.2.2) (fun _ _ => true) (fun i m => InvM t i m.1 m.2) (s0 := (([], 0), ([], 0)))
  ⟨Rise.nil, fun id => ⟨le_refl _, le_refl _⟩, fun k hk => by omega, fun key _ => rfl⟩ ?_ ?_
 ·rintro ⟨m1, m2⟩ i hi inv
  left
  have hf := h.fields hi
  have hid := h.id_lt hi
  simp only at inv
  unfold av7
  simp only
  rw [iP (dlt hi), aD6 hi, oB, cg9 hf, oB, iN (by decide), iN (by rw [dT]; omega)]
  by_cases h0 : i = 0
  ·subst h0
   rw [iN (by simp), oB, iN (by decide), iP (by simp)]
   rw [iN (by rw [h.id0]; decide), iN (by rw [h.par0]; decide), iN (by rw [h.name0]; decide), bN0 hf.mode.1 hf.mode.2.1, oB, decide_eq_true h.mode0, oB, iN (by decide)]
   unfold av6
   rw [iN (by simp)]
   obtain ⟨m1', e1, e2, e3⟩ := cl6 (m2 := m2) hlen.2 hi hf inv.rng inv.dirs
   exact ⟨(m1', m2), e1, trivial, inv.rise, e2, e3, fun key hk => inv.names key fun k q1 q2 => by omega⟩
  ·have ok := h.ok i (by omega) hi
   rw [iP (by rw [dT]; omega), ac9 (by omega) (by omega), ch0 hi (by omega), oB, oB, iN (by rw [dT]; have := ok.rise; omega), iN (by rw [dT]; omega)]
   rw [bs7, oB, ok.name]
   obtain ⟨k, k1, k2, k3⟩ := ok.dir
   have hdir := inv.dirs k k1 k3
   rw [k2] at hdir
   have hnm : aq8 m2 (cq5 t i) = 0 := inv.names _ fun k q1 q2 he => by
    have := ok.one k q1 q2
    unfold cq5 at he
    simp only [ac1.mk.injEq] at he
    exact this ⟨he.1.symm, he.2.symm⟩
   have hnm' : aq8 m2 (ac1.mk (nd t.Nodes i).Parent (nd t.Nodes i).Mz) = 0 := hnm
   rw [iN (by
    rw [hnm']
    simp only [Bool.not_true, Bool.false_or, or_eq_true, dT]
    omega)]
   unfold av6
   rw [iP (by rw [dT]; omega), hnm', show wrap .i64 (0 + 1) = 1 by decide]
   obtain ⟨m', p1, p2, p3⟩ := cq3 inv.rise (ac1.mk (nd t.Nodes i).Parent (nd t.Nodes i).Mz) 1
   rw [p1, oB]
   obtain ⟨m1', e1, e2, e3⟩ := cl6 (m2 := (m', (bj9 m2 (ac1.mk (nd t.Nodes i).Parent (nd t.Nodes i).Mz)).2.2.2)) hlen.2 hi hf inv.rng inv.dirs
   refine ⟨(m1', (m', (bj9 m2 (ac1.mk (nd t.Nodes i).Parent (nd t.Nodes i).Mz)).2.2.2)), e1, trivial, p2, e2, e3, fun key hk => ?_⟩
   simp only
   rw [p3, iN (by intro he; exact hk i (by omega) (by omega) he.symm)]
   exact inv.names key fun k q1 q2 => hk k q1 (by omega)
 ·rintro ⟨m1, m2⟩ _
  unfold av7
  simp only
  rw [iN (by simp)]
theorem bo6 {α : Type} {p : α → Bool} : ∀ {l : List α} {i : Nat} (hi : i < l.length), p l[i] = true → (∀ j (hj : j < i), p (l[j]'(by omega)) = false) → aQ4 p l = (i : Int)
 | [], i, hi, _, _ => by simp at hi
 | a :: r, 0, hi, h, _ => a27 h
 | a :: r, i + 1, hi, h, hb => by
  have h0 := hb 0 (by omega)
  have ih := bo6 (p := p) (l := r) (i := i) (by simpa using hi) (by simpa using h) (fun j hj => by simpa using hb (j + 1) (by omega))
  rw [aM2 (by simpa using h0), ih, iN (by omega)]
  omega
theorem b71 {t : aa3} (hl : t.Nodes.length ≤ 1024) (id : Int) : aL5 t id = some (aQ4 (fun n : aa1 => decide (n.Id = id)) t.Nodes) := by
 unfold aL5 aK2
 have hb : ∀ i (h : i < t.Nodes.length), al5 t id (i : Int) = if (fun n : aa1 => decide (n.Id = id)) t.Nodes[i] = true then some (.done (i : Int)) else some (.cont (wrap .i64 ((i : Int) + 1))) := by
  intro i h
  unfold al5 aS4
  rw [iP (dlt h), aj4 h, oB, oB]
 have he : al5 t id (t.Nodes.length : Int) = some (.done (-1)) := by
  unfold al5
  rw [iN (by simp)]
 rw [a28 (p := fun n : aa1 => decide (n.Id = id)) (by omega) hb he, oB]
theorem a89 {l : List aa1} {i : Nat} (h : i < l.length) : l[i] = nd l i := by simp [nd, getD, gE h]
theorem ch3 {t : aa3} (h : RightT t) {i : Nat} (hi : i < t.Nodes.length) : aL5 t (nd t.Nodes i).Id = some (i : Int) := by
 have hlen := h.len
 rw [b71 hlen.2]
 congr 1
 refine bo6 hi (by rw [a89 hi]; simp) fun j hj => ?_
 rw [a89 (by omega), decide_eq_false_iff_not]
 intro he
 have := h.inj (by omega) hi he
 omega
theorem bs8 {t : aa3} (h : RightT t) {i : Nat} (hi : i < t.Nodes.length) : aL6 t (nd t.Nodes i).Id = some (nd t.Nodes i, true) := by
 unfold aL6
 rw [ch3 h hi, oB, iN (by simp), aD6 hi, oB]
def al6 (y : aa1) : Int := if 2147483648 ≤ y.Mode then 3 else 1
def aq1 (y : aa1) (kids : List aa2) : Str := if 2147483648 ≤ y.Mode then kids.flatMap aj3 else y.Data
def aq7 (y : aa1) (kids : List aa2) : aa2 := ⟨{ y with Data := [] }, am2 (al6 y) (aq1 y kids)⟩
def av0 : List aa1 → Int → List aa2
 | [], _ => []
 | y :: r, id => if y.Parent = id then aq7 y (av0 r y.Id) :: av0 r id else av0 r id
def az3 : List aa1 → Int → List aa1
 | [], _ => []
 | y :: r, id => if y.Parent = id then (y :: az3 r y.Id) ++ az3 r id else az3 r id
def hasAll (s : aa0) : List aa1 → Int → Prop
 | [], _ => True
 | y :: r, id => (y.Parent = id → Stored s (al6 y) (aq1 y (av0 r y.Id)) ∧ hasAll s r y.Id) ∧ hasAll s r id
theorem hasAll.mono {s s' : aa0} (he : Ext s s') : ∀ {l : List aa1} {id : Int}, hasAll s l id → hasAll s' l id
 | [], _, _ => trivial
 | y :: r, id, h => ⟨fun hp => ⟨(h.1 hp).1.mono he, hasAll.mono he (h.1 hp).2⟩, hasAll.mono he h.2⟩
theorem a63 {s : aa0} : ∀ {l : List aa1} {id : Int}, (∀ y ∈ l, y.Parent ≠ id) → hasAll s l id ∧ av0 l id = [] ∧ az3 l id = []
 | [], _, _ => ⟨trivial, rfl, rfl⟩
 | y :: r, id, h => by
  obtain ⟨h1, h2, h3⟩ := a63 (s := s) (l := r) (id := id) fun z hz => h z (by simp [hz])
  have hy := h y (by simp)
  exact ⟨⟨fun e => absurd e hy, h1⟩, by rw [av0, iN hy, h2], by rw [az3, iN hy, h3]⟩
structure Sm (t : aa3) : Prop where
 right : RightT t
 len : t.Nodes.length ≤ 12
 name : ∀ n ∈ t.Nodes, n.Mz.length ≤ 200
 data : ∀ n ∈ t.Nodes, n.Data.length ≤ 3000
theorem RightT.par {t : aa3} (h : RightT t) {i : Nat} (hi : i < t.Nodes.length) : 1 ≤ (nd t.Nodes i).Parent ∧ (nd t.Nodes i).Parent ≤ (nd t.Nodes i).Id := by
 by_cases h0 : i = 0
 ·subst h0
  have := h.par0; have := h.id0; omega
 ·have ok := h.ok i (by omega) hi
  obtain ⟨k, k1, k2, _⟩ := ok.dir
  have := (h.id_lt (i := k) (by omega)).1
  have := ok.par
  omega
theorem b72 (kind : Int) {data : Str} (h : data.length ≤ 32768) : (am2 kind data).Score.length = 32 ∧ (am2 kind data).Length = data.length ∧ (0 ≤ (am2 kind data).Levels ∧ (am2 kind data).Levels < 256) := by
 unfold am2
 split
 ·exact ⟨aA8 _ _, rfl, by simp⟩
 ·exact ⟨aA8 _ _, rfl, by simp⟩
theorem Sm.okE {t : aa3} (h : Sm t) {i : Nat} (hi : i < t.Nodes.length) {kids : List aa2} (hc : (aq1 (nd t.Nodes i) kids).length ≤ 32768) : OkE (aq7 (nd t.Nodes i) kids) := by
 have hf := h.right.fields hi
 have hid := h.right.id_lt hi
 have hp := h.right.par hi
 have hn := h.right.next
 obtain ⟨r1, r2, r3⟩ := b72 (al6 (nd t.Nodes i)) hc
 have hv := hf.vers; have hm := hf.mode; have ha := hf.atime; have hmt := hf.mtime
 have hnm := h.name _ (bo5 hi)
 refine ⟨?_, ?_, ?_, ?_, ?_, ?_, hnm, hf.uid, hf.gid, hf.muid, ?_, r3, r1⟩
 ·unfold U32 aq7; simp only; omega
 ·unfold U32 aq7; simp only; omega
 ·unfold U32 aq7; simp only; omega
 ·unfold U32 aq7; simp only; exact ⟨hm.1, hm.2.1⟩
 ·exact ha
 ·exact hmt
 ·unfold aq7; simp only; rw [r2]; unfold U32; omega
theorem aZ0 {l : List aa1} {j : Nat} (h : j < l.length) : l.drop j = nd l j :: l.drop (j + 1) := by
 rw [List.drop_eq_getElem_cons h, a89 h]
theorem Sm.ents_ok {t : aa3} (h : Sm t) : ∀ (m j : Nat) (id : Int), m + j = t.Nodes.length → (∀ x ∈ av0 (t.Nodes.drop j) id, OkE x ∧ x.node.Data = []) ∧ ((av0 (t.Nodes.drop j) id).flatMap aj3).length ≤ 500 * m ∧ (av0 (t.Nodes.drop j) id).length ≤ m
 | 0, j, id, hj => by
  rw [drop_of_length_le (by omega)]
  exact ⟨by simp [av0], by simp [av0], by simp [av0]⟩
 | m + 1, j, id, hj => by
  obtain ⟨h1, h2, h3⟩ := h.ents_ok m (j + 1) id (by omega)
  obtain ⟨k1, k2, k3⟩ := h.ents_ok m (j + 1) (nd t.Nodes j).Id (by omega)
  have hlen := h.len
  have hj' : j < t.Nodes.length := by omega
  rw [aZ0 hj', av0]
  split
  ·have hc : (aq1 (nd t.Nodes j) (av0 (t.Nodes.drop (j + 1)) (nd t.Nodes j).Id)).length ≤ 32768 := by
    unfold aq1
    split
    ·omega
    ·have := h.data _ (bo5 hj'); omega
   have ok := h.okE hj' hc
   refine ⟨fun x hx => ?_, ?_, ?_⟩
   ·rcases mem_cons.1 hx with rfl | hx
    ·exact ⟨ok, rfl⟩
    ·exact h1 x hx
   ·have := (aI3 ok).2
    rw [flatMap_cons, length_append]
    omega
   ·rw [length_cons]; omega
  ·exact ⟨h1, by omega, by omega⟩
theorem Sm.cont_len {t : aa3} (h : Sm t) {j : Nat} (hj : j < t.Nodes.length) : (aq1 (nd t.Nodes j) (av0 (t.Nodes.drop (j + 1)) (nd t.Nodes j).Id)).length ≤ 32768 := by
 have hlen := h.len
 unfold aq1
 split
 ·have := (h.ents_ok (t.Nodes.length - (j + 1)) (j + 1) (nd t.Nodes j).Id (by omega)).2.1; omega
 ·have := h.data _ (bo5 hj); omega
theorem RightT.leaf {t : aa3} (h : RightT t) {i : Nat} (hi : i < t.Nodes.length) (hm : ¬ 2147483648 ≤ (nd t.Nodes i).Mode) : ∀ y ∈ t.Nodes.drop (i + 1), y.Parent ≠ (nd t.Nodes i).Id := by
 intro y hy he
 obtain ⟨k, hk, rfl⟩ := List.getElem_of_mem hy
 rw [List.length_drop] at hk
 rw [List.getElem_drop, a89 (by omega)] at he
 obtain ⟨q, q1, q2, q3⟩ := (h.ok (i + 1 + k) (by omega) (by omega)).dir
 rw [he] at q2
 have := h.inj (by omega) hi q2
 subst this
 exact hm q3
def aD9 (l : List aa1) (id : Int) : List Int := (l.filter fun y => decide (y.Parent = id)).map (·.Id)
theorem b73 {t : aa3} (h : RightT t) {i : Nat} (hi : i < t.Nodes.length) (hm : 2147483648 ≤ (nd t.Nodes i).Mode) : aO8 t (nd t.Nodes i).Id = some 0 := by
 have hf := h.fields hi
 unfold aO8
 rw [bs8 h hi, oB, iN (by simp), bN0 hf.mode.1 hf.mode.2.1, oB, iN (by simp [hm])]
theorem bh9 {t : aa3} (h : RightT t) {i : Nat} (hi : i < t.Nodes.length) (hm : 2147483648 ≤ (nd t.Nodes i).Mode) : aE3 t (nd t.Nodes i).Id = some (aD9 (t.Nodes.drop (i + 1)) (nd t.Nodes i).Id) := by
 have hlen := h.len
 unfold aE3
 rw [b73 h hi hm, oB, iN (by decide)]
 have key := ah3 t.Nodes.length (fun (out : List Int) j => (j, out)) (fun s => ao9 t (nd t.Nodes i).Id s.1 s.2)
  (fun j out => out ++ aD9 (if j ≤ i then t.Nodes.drop (i + 1) else t.Nodes.drop j) (nd t.Nodes i).Id) (fun j out => out.length ≤ j ∧ (j ≤ i → out = [])) (s0 := []) ⟨Nat.le_refl _, fun _ => rfl⟩
  (by
   rintro out j hj ⟨ho, ho2⟩
   left
   unfold ao9
   rw [iP (dlt hj), aD6 hj, oB, ah6 (by omega)]
   by_cases hji : j ≤ i
   ·have hno : ((decide ((nd t.Nodes j).Parent = (nd t.Nodes i).Id)) && (!decide ((nd t.Nodes j).Id = 1))) = false := by
     by_cases h0 : j = 0
     ·subst h0; rw [h.id0]; simp
     ·have hp := (h.ok j (by omega) hj).par
      have : (nd t.Nodes j).Id ≤ (nd t.Nodes i).Id := by
       by_cases hij : j = i
       ·subst hij; exact le_refl _
       ·exact Int.le_of_lt (h.lt (by omega) hi)
      rw [show decide ((nd t.Nodes j).Parent = (nd t.Nodes i).Id) = false from decide_eq_false (by omega)]
      rfl
    rw [hno, iN fT]
    refine ⟨out, rfl, ?_, by omega, fun _ => ho2 hji⟩
    rw [iP hji]
    by_cases hj1 : j + 1 ≤ i
    ·rw [iP hj1]
    ·rw [iN hj1, show j + 1 = i + 1 by omega]
   ·have hid : ¬ (nd t.Nodes j).Id = 1 := by
     have := h.lt (i := 0) (j := j) (by omega) hj
     have := h.id0
     omega
    rw [iN hji, aZ0 hj]
    by_cases hp : (nd t.Nodes j).Parent = (nd t.Nodes i).Id
    ·rw [iP (by simp [hp, hid]), ag0 (by simp; omega) (by simp; omega), oB]
     refine ⟨out ++ [(nd t.Nodes j).Id], rfl, ?_, by simp; omega, fun h' => by omega⟩
     rw [iN (by omega)]
     simp [aD9, hp]
    ·rw [iN (by simp [hp])]
     refine ⟨out, rfl, ?_, by omega, fun h' => by omega⟩
     rw [iN (by omega)]
     simp [aD9, hp])
  (by
   rintro out _
   unfold ao9
   rw [iN (by simp), iN (by omega), List.drop_length]
   simp [aD9])
 rw [iP (by omega)] at key
 exact key
theorem ch4 {t : aa3} (h : Sm t) {j : Nat} (hj : j ≤ t.Nodes.length) (id : Int) : ((av0 (t.Nodes.drop j) id).flatMap aj3).length ≤ 6000 := by
 have hlen := h.len
 have := (h.ents_ok (t.Nodes.length - j) j id (by omega)).2.1
 omega
theorem ch5 {n : aa1} {s : aa0} {kind : Int} {data : Str} (hk : 1 ≤ kind ∧ kind ≤ 4) (hd : data.length ≤ 32768) (hc : s.Cap = 400) (hb : s.Blocks.length + 33 ≤ 400) :
  ∃ s' x e, am8 (n, true) kind data s = some (s', x, e) ∧ (e = 34 ∨ (e = 0 ∧ x = ⟨{ n with Data := [] }, am2 kind data⟩ ∧ Ext s s' ∧ Stored s' kind data ∧ s'.Blocks.length ≤ s.Blocks.length + 33)) := by
 obtain ⟨s', r, e, h1, h2⟩ := putF hk hd hc hb
 unfold am8
 rw [h1, oB]
 refine ⟨_, _, _, rfl, ?_⟩
 rcases h2 with h2 | ⟨h2, rfl, h3⟩
 ·exact .inl h2
 ·exact .inr ⟨h2, rfl, h3⟩
theorem bV0 {t : aa3} (h : Sm t) : ∀ (f i : Nat) (s : aa0), i < t.Nodes.length → t.Nodes.length ≤ f + 1 + i → s.Cap = 400 → s.Blocks.length + 33 * (1 + (az3 (t.Nodes.drop (i + 1)) (nd t.Nodes i).Id).length) ≤ 400 →
  ∃ s' x e, ai6 (f + 1) s t (nd t.Nodes i).Id = some (s', x, e) ∧ (e = 34 ∨ (e = 0 ∧ x = aq7 (nd t.Nodes i) (av0 (t.Nodes.drop (i + 1)) (nd t.Nodes i).Id) ∧ Ext s s' ∧
   Stored s' (al6 (nd t.Nodes i)) (aq1 (nd t.Nodes i) (av0 (t.Nodes.drop (i + 1)) (nd t.Nodes i).Id)) ∧ hasAll s' (t.Nodes.drop (i + 1)) (nd t.Nodes i).Id ∧
   s'.Blocks.length ≤ s.Blocks.length + 33 * (1 + (az3 (t.Nodes.drop (i + 1)) (nd t.Nodes i).Id).length))) := by
 intro f
 induction f with
 | zero =>
  intro i s hi hf hc hb
  have hil : i + 1 = t.Nodes.length := by omega
  have hlen := h.len
  have hdr : t.Nodes.drop (i + 1) = [] := drop_of_length_le (by omega)
  rw [hdr] at hb ⊢
  simp only [az3, length_nil] at hb ⊢
  simp only [ai6, ap2, af8]
  rw [bs8 h.right hi, oB, oB]
  simp only
  by_cases hm : 2147483648 ≤ (nd t.Nodes i).Mode
  ·rw [iP (by simp [hm]), bh9 h.right hi hm, oB, hdr]
   obtain ⟨s', x, e, q1, q2⟩ := ch5 (n := nd t.Nodes i) (s := s) (kind := 3) (data := []) (by decide) (by simp) hc (by omega)
   refine ⟨s', x, e, ab5 (by
    unfold ag3
    rw [iN (by simp [aD9]), q1]; rfl), ?_⟩
   rcases q2 with q2 | ⟨q2, q3, q4, q5, q6⟩
   ·exact .inl q2
   ·refine .inr ⟨q2, ?_, q4, ?_, trivial, by omega⟩
    ·rw [q3]; unfold aq7 al6 aq1; rw [iP hm, iP hm]; rfl
    ·unfold al6 aq1; rw [iP hm, iP hm]; exact q5
  ·rw [iN (by simpa using hm)]
   have hdl := h.data _ (bo5 hi)
   obtain ⟨s', x, e, q1, q2⟩ := ch5 (n := nd t.Nodes i) (s := s) (kind := 1) (data := (nd t.Nodes i).Data) (by decide) (by omega) hc (by omega)
   refine ⟨s', x, e, q1, ?_⟩
   rcases q2 with q2 | ⟨q2, q3, q4, q5, q6⟩
   ·exact .inl q2
   ·refine .inr ⟨q2, ?_, q4, ?_, trivial, by omega⟩
    ·rw [q3]; unfold aq7 al6 aq1; rw [iN hm, iN hm]
    ·unfold al6 aq1; rw [iN hm, iN hm]; exact q5
 | succ f ih =>
  intro i s hi hf hc hb
  have hlen := h.len
  rw [show ai6 (f + 1 + 1) s t (nd t.Nodes i).Id = ap2 (ai6 (f + 1)) s t (nd t.Nodes i).Id from rfl]
  simp only [ap2, af8]
  rw [bs8 h.right hi, oB, oB]
  simp only
  by_cases hm : 2147483648 ≤ (nd t.Nodes i).Mode
  ·rw [iP (by simp [hm]), bh9 h.right hi hm, oB]
   generalize hx9 : aD9 (t.Nodes.drop (i + 1)) (nd t.Nodes i).Id = x9
   have key : ∀ (m j : Nat) (done : List Int) (data : Str) (s : aa0), m + j = t.Nodes.length → i < j → x9 = done ++ aD9 (t.Nodes.drop j) (nd t.Nodes i).Id → s.Cap = 400 → s.Blocks.length + 33 * (1 + (az3 (t.Nodes.drop j) (nd t.Nodes i).Id).length) ≤ 400 →
     data.length + ((av0 (t.Nodes.drop j) (nd t.Nodes i).Id).flatMap aj3).length ≤ 32768 →
     ∃ s' x e, ae0 (fun q => ag3 (ai6 (f + 1)) t (nd t.Nodes i, true) x9 q.1 q.2.1 q.2.2) (data, (done.length : Int), s) = some (s', x, e) ∧ (e = 34 ∨ (e = 0 ∧
      x = ⟨{ nd t.Nodes i with Data := [] }, am2 3 (data ++ (av0 (t.Nodes.drop j) (nd t.Nodes i).Id).flatMap aj3)⟩ ∧ Ext s s' ∧ Stored s' 3 (data ++ (av0 (t.Nodes.drop j) (nd t.Nodes i).Id).flatMap aj3) ∧
      hasAll s' (t.Nodes.drop j) (nd t.Nodes i).Id ∧ s'.Blocks.length ≤ s.Blocks.length + 33 * (1 + (az3 (t.Nodes.drop j) (nd t.Nodes i).Id).length))) := by
    intro m
    induction m with
    | zero =>
     intro j done data s hj hij hx hc hb hd
     have hdr : t.Nodes.drop j = [] := drop_of_length_le (by omega)
     rw [hdr] at hx hb hd ⊢
     simp only [aD9, List.filter_nil, List.map_nil, append_nil, av0, az3, length_nil, flatMap_nil] at hx hb hd ⊢
     obtain ⟨s', x, e, q1, q2⟩ := ch5 (n := nd t.Nodes i) (s := s) (kind := 3) (data := data) (by decide) (by omega) hc (by omega)
     refine ⟨s', x, e, ab5 (by
      unfold ag3
      rw [hx, iN (by simp), q1]; rfl), ?_⟩
     rcases q2 with q2 | ⟨q2, q3, q4, q5, q6⟩
     ·exact .inl q2
     ·exact .inr ⟨q2, q3, q4, q5, trivial, by omega⟩
    | succ m ihm =>
     intro j done data s hj hij hx hc hb hd
     have hjl : j < t.Nodes.length := by omega
     have hdr := aZ0 hjl
     by_cases hp : (nd t.Nodes j).Parent = (nd t.Nodes i).Id
     ·
      have hk : aD9 (t.Nodes.drop j) (nd t.Nodes i).Id = (nd t.Nodes j).Id :: aD9 (t.Nodes.drop (j + 1)) (nd t.Nodes i).Id := by
       rw [hdr]; simp [aD9, hp]
      have hde : az3 (t.Nodes.drop j) (nd t.Nodes i).Id = (nd t.Nodes j :: az3 (t.Nodes.drop (j + 1)) (nd t.Nodes j).Id) ++ az3 (t.Nodes.drop (j + 1)) (nd t.Nodes i).Id := by
       rw [hdr, az3, iP hp]
      have hen : av0 (t.Nodes.drop j) (nd t.Nodes i).Id = aq7 (nd t.Nodes j) (av0 (t.Nodes.drop (j + 1)) (nd t.Nodes j).Id) :: av0 (t.Nodes.drop (j + 1)) (nd t.Nodes i).Id := by
       rw [hdr, av0, iP hp]
      have hdl : (az3 (t.Nodes.drop j) (nd t.Nodes i).Id).length = 1 + (az3 (t.Nodes.drop (j + 1)) (nd t.Nodes j).Id).length + (az3 (t.Nodes.drop (j + 1)) (nd t.Nodes i).Id).length := by
       rw [hde]; simp; omega
      rw [hk] at hx
      rw [hdl] at hb ⊢
      rw [hen] at hd ⊢
      have ok := h.okE hjl (h.cont_len hjl)
      rw [flatMap_cons, length_append] at hd
      obtain ⟨s1, x, e, r1, r2⟩ := ih j s hjl (by omega) hc (by omega)
      have hat : ag1 x9 (done.length : Int) = some (nd t.Nodes j).Id := by rw [hx]; exact aO1
      have hvl : done.length < x9.length := by rw [hx]; simp
      have hx9l : x9.length ≤ 1000 := by
       rw [← hx9]; unfold aD9
       rw [List.length_map]
       have := List.length_filter_le (fun y => decide (y.Parent = (nd t.Nodes i).Id)) (t.Nodes.drop (i + 1))
       rw [List.length_drop] at this
       omega
      rcases r2 with rfl | ⟨rfl, rfl, r3, r4, r5, r6⟩
      ·refine ⟨s, _, 34, ab5 (by
        unfold ag3
        simp only
        rw [iP (by simp; omega), hat, oB, r1, oB, iP (by simp)]), .inl rfl⟩
      ·have hstep : (fun q : Str × Int × aa0 => ag3 (ai6 (f + 1)) t (nd t.Nodes i, true) x9 q.1 q.2.1 q.2.2) (data, (done.length : Int), s) =
         some (.cont (data ++ aj3 (aq7 (nd t.Nodes j) (av0 (t.Nodes.drop (j + 1)) (nd t.Nodes j).Id)), ((done ++ [(nd t.Nodes j).Id]).length : Int), s1)) := by
        unfold ag3
        simp only
        rw [iP (by simp; omega), hat, oB, r1, oB, iN (by simp), bz1 ok, oB, ak2 (by omega), oB, ah6 (by omega)]
        simp
       obtain ⟨s', x, e, q1, q2⟩ := ihm (j + 1) (done ++ [(nd t.Nodes j).Id]) (data ++ aj3 (aq7 (nd t.Nodes j) (av0 (t.Nodes.drop (j + 1)) (nd t.Nodes j).Id))) s1 (by omega) (by omega) (by rw [hx]; simp) (r3.1.trans hc) (by omega) (by rw [length_append]; omega)
       refine ⟨s', x, e, (ac0 hstep).trans q1, ?_⟩
       rcases q2 with q2 | ⟨q2, q3, q4, q5, q6, q7⟩
       ·exact .inl q2
       ·rw [append_assoc] at q3 q5
        refine .inr ⟨q2, q3, r3.trans q4, q5, ?_, by omega⟩
        rw [hdr]
        exact ⟨fun _ => ⟨r4.mono q4, r5.mono q4⟩, q6⟩
     ·
      have hk : aD9 (t.Nodes.drop j) (nd t.Nodes i).Id = aD9 (t.Nodes.drop (j + 1)) (nd t.Nodes i).Id := by
       rw [hdr]; simp [aD9, hp]
      have hde : az3 (t.Nodes.drop j) (nd t.Nodes i).Id = az3 (t.Nodes.drop (j + 1)) (nd t.Nodes i).Id := by rw [hdr, az3, iN hp]
      have hen : av0 (t.Nodes.drop j) (nd t.Nodes i).Id = av0 (t.Nodes.drop (j + 1)) (nd t.Nodes i).Id := by rw [hdr, av0, iN hp]
      rw [hk] at hx
      rw [hde] at hb ⊢
      rw [hen] at hd ⊢
      obtain ⟨s', x, e, q1, q2⟩ := ihm (j + 1) done data s (by omega) (by omega) hx hc hb hd
      refine ⟨s', x, e, q1, ?_⟩
      rcases q2 with q2 | ⟨q2, q3, q4, q5, q6, q7⟩
      ·exact .inl q2
      ·refine .inr ⟨q2, q3, q4, q5, ?_, q7⟩
       rw [hdr]
       exact ⟨fun e => absurd e hp, q6⟩
   have hel := ch4 h (j := i + 1) (by omega) (nd t.Nodes i).Id
   obtain ⟨s', x, e, q1, q2⟩ := key (t.Nodes.length - (i + 1)) (i + 1) [] [] s (by omega) (by omega) (by rw [← hx9]; rfl) hc hb (by rw [length_nil]; omega)
   refine ⟨s', x, e, q1, ?_⟩
   rcases q2 with q2 | ⟨q2, q3, q4, q5, q6, q7⟩
   ·exact .inl q2
   ·refine .inr ⟨q2, ?_, q4, ?_, q6, q7⟩
    ·rw [q3]; unfold aq7 al6 aq1; rw [iP hm, iP hm]; rfl
    ·unfold al6 aq1; rw [iP hm, iP hm]; exact q5
  ·rw [iN (by simpa using hm)]
   have hdl := h.data _ (bo5 hi)
   obtain ⟨s', x, e, q1, q2⟩ := ch5 (n := nd t.Nodes i) (s := s) (kind := 1) (data := (nd t.Nodes i).Data) (by decide) (by omega) hc (by omega)
   refine ⟨s', x, e, q1, ?_⟩
   have hnb := a63 (s := s') (h.right.leaf hi hm)
   rcases q2 with q2 | ⟨q2, q3, q4, q5, q6⟩
   ·exact .inl q2
   ·refine .inr ⟨q2, ?_, q4, ?_, hnb.1, by omega⟩
    ·rw [q3]; unfold aq7 al6 aq1; rw [iN hm, iN hm]
    ·unfold al6 aq1; rw [iN hm, iN hm]; exact q5
theorem b74 {xs : List aa2} {x : aa2} (h : ∀ y ∈ xs, y.node.Parent = x.node.Id) (hl : xs.length ≤ 1000) : ab2 xs x = some false := by
 unfold ab2 ae2
 have hb : ∀ i (hi : i < xs.length), aa8 xs x (i : Int) = if (fun _ : aa2 => false) xs[i] = true then some (.done (i : Int)) else some (.cont (wrap .i64 ((i : Int) + 1))) := by
  intro i hi
  unfold aa8 au1
  rw [iP (dlt hi), aj4 hi, oB, oB, h _ (List.getElem_mem hi)]
  simp
 have he : aa8 xs x (xs.length : Int) = some (.done (-1)) := by
  unfold aa8
  rw [iN (by simp)]
 have hn : ∀ l : List aa2, aQ4 (fun _ : aa2 => false) l = -1 := by
  intro l
  induction l with
  | nil => rfl
  | cons a r ih => rw [aM2 (by simp), ih, iP rfl]
 rw [a28 (p := fun _ : aa2 => false) (by omega) hb he, oB, hn]
 rfl
theorem bs9 : ∀ (l : List aa1) (id : Int), ∀ x ∈ av0 l id, x.node.Parent = id
 | [], _, x, hx => by cases hx
 | y :: r, id, x, hx => by
  unfold av0 at hx
  split at hx
  ·rename_i hp
   rcases mem_cons.1 hx with rfl | hx
   ·exact hp
   ·exact bs9 r id x hx
  ·exact bs9 r id x hx
theorem aJ5 (n : aa1) (k : List aa2) : (aq7 n k).node.Mode = n.Mode := rfl
def cl7 (t : aa3) (s : aa0) (most : Int) (i : Nat) (l : List Str) (out : List aa1) (r : Option (Int × Int × aa0 × (List aa1) × (List Str))) : Prop :=
 ∃ l', r = some (0, most, s, out ++ (nd t.Nodes i :: az3 (t.Nodes.drop (i + 1)) (nd t.Nodes i).Id), l') ∧ l'.length ≤ l.length + 33 * (1 + (az3 (t.Nodes.drop (i + 1)) (nd t.Nodes i).Id).length)
theorem cx7 {t : aa3} (h : Sm t) {s : aa0} (hb : s.Blocks.length ≤ 400) {most : Int} : ∀ (f i : Nat) (l : List Str) (out : List aa1), i < t.Nodes.length → t.Nodes.length ≤ f + 1 + i →
  Stored s (al6 (nd t.Nodes i)) (aq1 (nd t.Nodes i) (av0 (t.Nodes.drop (i + 1)) (nd t.Nodes i).Id)) → hasAll s (t.Nodes.drop (i + 1)) (nd t.Nodes i).Id →
  l.length + 33 * (1 + (az3 (t.Nodes.drop (i + 1)) (nd t.Nodes i).Id).length) ≤ 50000 → (out.length : Int) + (1 + (az3 (t.Nodes.drop (i + 1)) (nd t.Nodes i).Id).length : Nat) ≤ most → most ≤ 1000 →
  cl7 t s most i l out (ac3 (f + 1) (aq7 (nd t.Nodes i) (av0 (t.Nodes.drop (i + 1)) (nd t.Nodes i).Id)) most s l out) := by
 intro f
 induction f with
 | zero =>
  intro i l out hi hf hst hall hl hm hmm
  have hil : i + 1 = t.Nodes.length := by omega
  have hdr : t.Nodes.drop (i + 1) = [] := drop_of_length_le (by omega)
  have hcl := h.cont_len hi
  rw [hdr] at hst hl hm hcl
  unfold cl7
  rw [hdr]
  simp only [az3, av0, length_nil] at hst hl hm hcl ⊢
  simp only [ac3, ag8, af8]
  rw [iN (by rw [dT]; omega), oB]
  obtain ⟨l', q1, q2⟩ := bh6 (l := l) hst hcl hb (by omega)
  by_cases hd : 2147483648 ≤ (nd t.Nodes i).Mode
  ·have hk : al6 (nd t.Nodes i) = 3 := by unfold al6; rw [iP hd]
   have hc : aq1 (nd t.Nodes i) [] = [] := by unfold aq1; rw [iP hd]; rfl
   rw [iP (by simp [aJ5, hd])]
   unfold ad8
   rw [hk, hc] at q1
   rw [show (aq7 (nd t.Nodes i) []).root = am2 3 [] by unfold aq7; rw [hk, hc], q1, oB, iN (by simp)]
   simp only [af8, oB]
   rw [iN (by simp [aJ5, hd]), ag0 (by simp; omega) (by simp; omega), oB]
   have he := bo3 (xs := []) (by simp) (by simp)
   simp only [flatMap_nil] at he
   rw [he, oB, iN (by simp), b74 (by simp) (by simp), oB, oB, iN (by decide)]
   refine ⟨l', ab5 ?_, by omega⟩
   unfold ad3
   rw [iN (by simp)]
   have hdat := (h.right.fields hi).dir hd
   have : (aq7 (nd t.Nodes i) []).node = nd t.Nodes i := by
    show ({ nd t.Nodes i with Data := [] } : aa1) = nd t.Nodes i
    rw [← hdat]
   rw [this]
  ·have hk : al6 (nd t.Nodes i) = 1 := by unfold al6; rw [iN hd]
   have hc : aq1 (nd t.Nodes i) [] = (nd t.Nodes i).Data := by unfold aq1; rw [iN hd]
   rw [iN (by rw [dT, aJ5]; exact hd)]
   unfold ad8
   rw [hk, hc] at q1
   rw [show (aq7 (nd t.Nodes i) []).root = am2 1 (nd t.Nodes i).Data by unfold aq7; rw [hk, hc], q1, oB, iN (by simp)]
   simp only [af8, oB]
   rw [iP (by rw [aJ5, decide_eq_false hd]; rfl), ag0 (by simp; omega) (by simp; omega), oB]
   exact ⟨l', rfl, by omega⟩
 | succ f ih =>
  intro i l out hi hf hst hall hl hm hmm
  have hcl := h.cont_len hi
  have hlen := h.len
  have hent := h.ents_ok (t.Nodes.length - (i + 1)) (i + 1) (nd t.Nodes i).Id (by omega)
  rw [show ac3 (f + 1 + 1) (aq7 (nd t.Nodes i) (av0 (t.Nodes.drop (i + 1)) (nd t.Nodes i).Id)) most s l out = ag8 (ac3 (f + 1)) (aq7 (nd t.Nodes i) (av0 (t.Nodes.drop (i + 1)) (nd t.Nodes i).Id)) most s l out from rfl]
  simp only [ag8, af8]
  rw [iN (by rw [dT]; omega), oB]
  obtain ⟨l', q1, q2⟩ := bh6 (l := l) hst hcl hb (by omega)
  by_cases hd : 2147483648 ≤ (nd t.Nodes i).Mode
  ·have hk : al6 (nd t.Nodes i) = 3 := by unfold al6; rw [iP hd]
   have hc : aq1 (nd t.Nodes i) (av0 (t.Nodes.drop (i + 1)) (nd t.Nodes i).Id) = (av0 (t.Nodes.drop (i + 1)) (nd t.Nodes i).Id).flatMap aj3 := by unfold aq1; rw [iP hd]
   rw [iP (by simp [aJ5, hd])]
   unfold ad8
   rw [hk, hc] at q1
   rw [show (aq7 (nd t.Nodes i) (av0 (t.Nodes.drop (i + 1)) (nd t.Nodes i).Id)).root = am2 3 ((av0 (t.Nodes.drop (i + 1)) (nd t.Nodes i).Id).flatMap aj3) by unfold aq7; rw [hk, hc], q1, oB, iN (by simp)]
   simp only [af8, oB]
   rw [iN (by simp [aJ5, hd]), ag0 (by simp; omega) (by simp; omega), oB]
   rw [bo3 hent.1 (by omega), oB, iN (by simp), b74 (xs := av0 (t.Nodes.drop (i + 1)) (nd t.Nodes i).Id) (x := aq7 (nd t.Nodes i) (av0 (t.Nodes.drop (i + 1)) (nd t.Nodes i).Id)) (fun y hy => bs9 _ _ y hy) (by omega), oB, oB, iN (by decide)]
   have hdat := (h.right.fields hi).dir hd
   have hnode : (aq7 (nd t.Nodes i) (av0 (t.Nodes.drop (i + 1)) (nd t.Nodes i).Id)).node = nd t.Nodes i := by
    show ({ nd t.Nodes i with Data := [] } : aa1) = nd t.Nodes i
    rw [← hdat]
   rw [hnode]
   generalize hx10 : (av0 (t.Nodes.drop (i + 1)) (nd t.Nodes i).Id, true) = x10
   have hx1 : x10.1 = av0 (t.Nodes.drop (i + 1)) (nd t.Nodes i).Id := by rw [← hx10]
   have key : ∀ (m j : Nat) (done : List aa2) (l : List Str) (out : List aa1), m + j = t.Nodes.length → i < j → x10.1 = done ++ av0 (t.Nodes.drop j) (nd t.Nodes i).Id → hasAll s (t.Nodes.drop j) (nd t.Nodes i).Id →
     l.length + 33 * ((az3 (t.Nodes.drop j) (nd t.Nodes i).Id).length) ≤ 50000 → (out.length : Int) + ((az3 (t.Nodes.drop j) (nd t.Nodes i).Id).length : Nat) ≤ most →
     ∃ l', ae0 (fun q => ad3 (ac3 (f + 1)) x10 q.1 q.2.1 q.2.2.1 q.2.2.2.1 q.2.2.2.2.1 q.2.2.2.2.2) ((done.length : Int), most, s.Cap, s.Blocks, l, out) = some (0, most, s, out ++ az3 (t.Nodes.drop j) (nd t.Nodes i).Id, l') ∧
      l'.length ≤ l.length + 33 * (az3 (t.Nodes.drop j) (nd t.Nodes i).Id).length := by
    intro m
    induction m with
    | zero =>
     intro j done l out hj hij hx hall hl hm
     have hdr : t.Nodes.drop j = [] := drop_of_length_le (by omega)
     rw [hdr] at hx ⊢
     simp only [av0, append_nil, az3, length_nil] at hx ⊢
     refine ⟨l, ab5 ?_, by omega⟩
     unfold ad3
     rw [hx, iN (by simp)]
    | succ m ihm =>
     intro j done l out hj hij hx hall hl hm
     have hjl : j < t.Nodes.length := by omega
     have hdr := aZ0 hjl
     by_cases hp : (nd t.Nodes j).Parent = (nd t.Nodes i).Id
     ·have hde : az3 (t.Nodes.drop j) (nd t.Nodes i).Id = (nd t.Nodes j :: az3 (t.Nodes.drop (j + 1)) (nd t.Nodes j).Id) ++ az3 (t.Nodes.drop (j + 1)) (nd t.Nodes i).Id := by
       rw [hdr, az3, iP hp]
      have hen : av0 (t.Nodes.drop j) (nd t.Nodes i).Id = aq7 (nd t.Nodes j) (av0 (t.Nodes.drop (j + 1)) (nd t.Nodes j).Id) :: av0 (t.Nodes.drop (j + 1)) (nd t.Nodes i).Id := by
       rw [hdr, av0, iP hp]
      have hdl : (az3 (t.Nodes.drop j) (nd t.Nodes i).Id).length = 1 + (az3 (t.Nodes.drop (j + 1)) (nd t.Nodes j).Id).length + (az3 (t.Nodes.drop (j + 1)) (nd t.Nodes i).Id).length := by
       rw [hde]; simp; omega
      rw [hdl] at hl hm ⊢
      rw [hen] at hx
      rw [hdr] at hall
      have hkid := hall.1 hp
      obtain ⟨l1, r1, r2⟩ := ih j l out hjl (by omega) hkid.1 hkid.2 (by omega) (by omega) hmm
      have hat : ag1 x10.1 (done.length : Int) = some (aq7 (nd t.Nodes j) (av0 (t.Nodes.drop (j + 1)) (nd t.Nodes j).Id)) := by rw [hx]; exact aO1
      have hvl : done.length < x10.1.length := by rw [hx]; simp
      have hx9l : x10.1.length ≤ 1000 := by rw [hx1]; omega
      have hst' : (aa0.mk s.Cap s.Blocks) = s := rfl
      have hstep : (fun q : Int × Int × Int × (List aa4) × (List Str) × (List aa1) => ad3 (ac3 (f + 1)) x10 q.1 q.2.1 q.2.2.1 q.2.2.2.1 q.2.2.2.2.1 q.2.2.2.2.2) ((done.length : Int), most, s.Cap, s.Blocks, l, out) =
        some (.cont (((done ++ [aq7 (nd t.Nodes j) (av0 (t.Nodes.drop (j + 1)) (nd t.Nodes j).Id)]).length : Int), most, s.Cap, s.Blocks, l1, out ++ (nd t.Nodes j :: az3 (t.Nodes.drop (j + 1)) (nd t.Nodes j).Id))) := by
       unfold ad3
       simp only
       rw [iP (by simp; omega), hat, oB, hst', r1, oB, iN (by simp), ah6 (by omega)]
       simp
      obtain ⟨l2, p1, p2⟩ := ihm (j + 1) (done ++ [aq7 (nd t.Nodes j) (av0 (t.Nodes.drop (j + 1)) (nd t.Nodes j).Id)]) l1 (out ++ (nd t.Nodes j :: az3 (t.Nodes.drop (j + 1)) (nd t.Nodes j).Id)) (by omega) (by omega) (by rw [hx]; simp) hall.2 (by omega) (by simp only [length_append, length_cons]; omega)
      refine ⟨l2, (ac0 hstep).trans ?_, by omega⟩
      rw [p1, hde]
      simp
     ·have hde : az3 (t.Nodes.drop j) (nd t.Nodes i).Id = az3 (t.Nodes.drop (j + 1)) (nd t.Nodes i).Id := by rw [hdr, az3, iN hp]
      have hen : av0 (t.Nodes.drop j) (nd t.Nodes i).Id = av0 (t.Nodes.drop (j + 1)) (nd t.Nodes i).Id := by rw [hdr, av0, iN hp]
      rw [hde] at hl hm ⊢
      rw [hen] at hx
      rw [hdr] at hall
      exact ihm (j + 1) done l out (by omega) (by omega) hx hall.2 hl hm
   obtain ⟨l2, p1, p2⟩ := key (t.Nodes.length - (i + 1)) (i + 1) [] l' (out ++ [nd t.Nodes i]) (by omega) (by omega) (by rw [hx1]; rfl) hall (by omega) (by rw [length_append]; simp only [List.length_singleton]; omega)
   refine ⟨l2, ?_, by omega⟩
   rw [show ((([] : List aa2).length : Nat) : Int) = 0 from rfl] at p1
   rw [p1]
   simp
  ·have hk : al6 (nd t.Nodes i) = 1 := by unfold al6; rw [iN hd]
   have hc : aq1 (nd t.Nodes i) (av0 (t.Nodes.drop (i + 1)) (nd t.Nodes i).Id) = (nd t.Nodes i).Data := by unfold aq1; rw [iN hd]
   have hnb := a63 (s := s) (h.right.leaf hi hd)
   rw [iN (by rw [dT, aJ5]; exact hd)]
   unfold ad8
   rw [hk, hc] at q1
   rw [show (aq7 (nd t.Nodes i) (av0 (t.Nodes.drop (i + 1)) (nd t.Nodes i).Id)).root = am2 1 (nd t.Nodes i).Data by unfold aq7; rw [hk, hc], q1, oB, iN (by simp)]
   simp only [af8, oB]
   rw [iP (by rw [aJ5, decide_eq_false hd]; rfl), ag0 (by simp; omega) (by simp; omega), oB]
   refine ⟨l', ?_, by omega⟩
   rw [hnb.2.2]
   rfl
theorem cq6 {n : Nat} (h : n ≤ 12) : ∃ k, aE8 (wrap .u64 (n : Int)) = some k := by
 rw [aU7 (by omega)]
 unfold aE8 aH9 as5 as4 as3
 rw [iN (by rw [dT]; omega), iN (by rw [dT]; omega), iN (by rw [dT]; omega), bs1, show ((n : Int) % 256) = (n : Int) by omega, aL3 (by simp; omega), oB, oB]
 exact ⟨_, rfl⟩
theorem cx8 (m n : aa1) : ∃ c, an2 m n = some c ∧ (c < 0 ↔ m.Id < n.Id) := by
 unfold an2 aI0 aE9
 rw [oB, oB, iN (by simp), iN (by simp)]
 by_cases h1 : m.Id < n.Id
 ·rw [iP (by simp [h1]), oB]; exact ⟨-1, rfl, by simp [h1]⟩
 ·rw [iN (by simpa using h1)]
  by_cases h2 : n.Id < m.Id
  ·rw [iP (by simp [h2]), oB]; exact ⟨1, rfl, by simp [h1]⟩
  ·rw [iN (by simpa using h2), oB]; exact ⟨0, rfl, by simp [h1]⟩
def Srt (l : List aa1) : Prop := l.Pairwise fun a b => a.Id ≤ b.Id
theorem cl8 (x : aa1) (C : List aa1) (i : Int) (hi : 0 ≤ i ∧ i ≤ 1000) : ∀ (k : Nat) (A B : List aa1), A.length = k → k ≤ 1000 → Srt (A ++ B) → (∀ b ∈ B, x.Id ≤ b.Id) →
  ∃ D, ae0 (fun s => ab0 0 i s.1 s.2) ((k : Int), A ++ x :: (B ++ C)) = some (.cont (i + 1, D ++ C)) ∧ D.Perm (x :: (A ++ B)) ∧ Srt D
 | 0, A, B, hA, _, hs, hb => by
  have : A = [] := List.length_eq_zero_iff.1 hA
  subst this
  refine ⟨x :: B, ab5 ?_, .refl _, pairwise_cons.2 ⟨hb, hs⟩⟩
  unfold ab0
  simp only
  rw [iN (by simp), oB, iN (by simp), ac9 (by omega) (by omega)]
  rfl
 | k + 1, A, B, hA, hk, hs, hb => by
  obtain ⟨A', y, rfl⟩ : ∃ A' y, A = A' ++ [y] := by
   have hne : A ≠ [] := by rintro rfl; simp at hA
   exact ⟨A.dropLast, A.getLast hne, (List.dropLast_concat_getLast hne).symm⟩
  have hAl : A'.length = k := by simpa using hA
  have e0 : A' ++ [y] ++ x :: (B ++ C) = A' ++ y :: (x :: (B ++ C)) := by simp
  have hj : ag1 (A' ++ y :: (x :: (B ++ C))) ((k + 1 : Nat) : Int) = some x := by
   have := aO1 (a := A' ++ [y]) (b := B ++ C) (x := x)
   rw [append_assoc] at this
   rw [← hAl]
   simpa using this
  have hj1 : ag1 (A' ++ y :: (x :: (B ++ C))) (k : Int) = some y := by
   have := aO1 (a := A') (b := x :: (B ++ C)) (x := y)
   rw [hAl] at this; exact this
  have hw : wrap .i64 (((k + 1 : Nat) : Int) - 1) = (k : Int) := by rw [ac9 (by omega) (by omega)]; omega
  obtain ⟨c, hc, hc2⟩ := cx8 x y
  have hs' := hs
  unfold Srt at hs'
  rw [append_assoc] at hs'
  by_cases hlt : x.Id < y.Id
  ·obtain ⟨D, d1, d2, d3⟩ := cl8 x C i hi k A' (y :: B) hAl (by omega) (by rw [show A' ++ y :: B = A' ++ [y] ++ B by simp]; exact hs) (by
    intro b hb'
    rcases mem_cons.1 hb' with rfl | hb'
    ·omega
    ·exact hb b hb')
   refine ⟨D, (ac0 (s' := ((k : Int), A' ++ x :: (y :: B ++ C))) ?_).trans d1, d2.trans (by simp), d3⟩
   unfold ab0
   simp only
   rw [e0, iP (by rw [dT]; omega), hj, hw, hj1]
   simp only [oB]
   rw [hc, oB, decide_eq_true (hc2.2 hlt), oB, iP rfl, Int.toNat_natCast, Int.toNat_natCast]
   have s1 : (A' ++ y :: (x :: (B ++ C))).set (k + 1) y = A' ++ y :: (y :: (B ++ C)) := by
    have := br8 (a := A' ++ [y]) (b := B ++ C) (x := x) (y := y)
    simp only [length_append, List.length_singleton, hAl] at this
    simpa using this
   have s2 : (A' ++ y :: (y :: (B ++ C))).set k x = A' ++ x :: (y :: (B ++ C)) := by
    have := br8 (a := A') (b := y :: (B ++ C)) (x := y) (y := x)
    rw [hAl] at this; exact this
   have hj2 : ag1 (A' ++ y :: (y :: (B ++ C))) (k : Int) = some y := by
    have := aO1 (a := A') (b := y :: (B ++ C)) (x := y)
    rw [hAl] at this; exact this
   rw [s1, hj2, oB, s2]
   rfl
  ·refine ⟨A' ++ [y] ++ x :: B, ab5 ?_, perm_middle, ?_⟩
   ·unfold ab0
    simp only
    rw [e0, iP (by rw [dT]; omega), hj, hw, hj1]
    simp only [oB]
    rw [hc, oB, decide_eq_false (fun h => hlt (hc2.1 h)), oB, iN (by decide), ac9 (by omega) (by omega)]
    simp
   ·unfold Srt at hs ⊢
    obtain ⟨p1, p2, p3⟩ := pairwise_append.1 hs
    refine pairwise_append.2 ⟨p1, pairwise_cons.2 ⟨hb, p2⟩, fun a ha b hb' => ?_⟩
    rcases mem_cons.1 hb' with rfl | hb'
    ·obtain ⟨r1, r2, r3⟩ := pairwise_append.1 p1
     rcases List.mem_append.1 ha with ha | ha
     ·have := r3 a ha y (by simp); omega
     ·simp only [mem_singleton] at ha; subst ha; omega
    ·exact p3 a ha b hb'
theorem ch6 {l : List aa1} (h : 1 ≤ l.length ∧ l.length ≤ 12) : ∃ r, ab9 0 (l.length : Int) l = some r ∧ r.Perm l ∧ Srt r := by
 unfold ab9
 have key : ∀ (m i : Nat) (data : List aa1), m + i = l.length → 1 ≤ i → data.Perm l → Srt (data.take i) →
   ∃ r, ae0 (fun s => ab1 0 (l.length : Int) s.1 s.2) ((i : Int), data) = some r ∧ r.Perm l ∧ Srt r := by
  intro m
  induction m with
  | zero =>
   intro i data hm hi hp hs
   refine ⟨data, ab5 ?_, hp, ?_⟩
   ·unfold ab1
    rw [iN (by rw [dT]; simp only; omega)]
   ·rw [List.take_of_length_le (by rw [hp.length_eq]; omega)] at hs
    exact hs
  | succ m ih =>
   intro i data hm hi hp hs
   have hdl := hp.length_eq
   have hid : i < data.length := by omega
   have hsplit : data = data.take i ++ nd data i :: data.drop (i + 1) := by rw [← aZ0 hid, List.take_append_drop]
   obtain ⟨D, d1, d2, d3⟩ := cl8 (nd data i) (data.drop (i + 1)) (i : Int) (by omega) i (data.take i) [] (by simp; omega) (by omega) (by rw [append_nil]; exact hs) (by simp)
   simp only [nil_append, append_nil] at d1 d2
   rw [← hsplit] at d1
   have hDl : D.length = i + 1 := by rw [d2.length_eq]; simp; omega
   have hp2 : (D ++ data.drop (i + 1)).Perm l := by
    refine List.Perm.trans ?_ hp
    conv => rhs; rw [hsplit]
    exact (d2.append_right _).trans (by simpa using perm_middle.symm)
   obtain ⟨r, r1, r2, r3⟩ := ih (i + 1) (D ++ data.drop (i + 1)) (by omega) (by omega) hp2 (by rw [List.take_append_of_le_length (by omega), List.take_of_length_le (by omega)]; exact d3)
   refine ⟨r, (ac0 (s' := (((i + 1 : Nat) : Int), D ++ data.drop (i + 1))) ?_).trans r1, r2, r3⟩
   show ab1 0 (l.length : Int) (i : Int) data = _
   unfold ab1
   rw [iP (by rw [dT]; omega), d1]
   rfl
 have hw : wrap .i64 (0 + 1) = ((1 : Nat) : Int) := by decide
 rw [hw]
 refine key (l.length - 1) 1 l (by omega) (Nat.le_refl _) (.refl _) ?_
 obtain ⟨a, r, rfl⟩ : ∃ a r, l = a :: r := by
  cases l with
  | nil => simp at h
  | cons a r => exact ⟨a, r, rfl⟩
 simp [Srt]
theorem cq7 {l : List aa1} (h : 1 ≤ l.length ∧ l.length ≤ 12) : ∃ r, ac5 l = some r ∧ r.Perm l ∧ Srt r := by
 obtain ⟨r, h1, h2, h3⟩ := ch6 h
 obtain ⟨k, hk⟩ := cq6 h.2
 refine ⟨r, ?_, h2, h3⟩
 unfold ac5
 rw [hk, oB]
 have hp : ad0 0 (l.length : Int) k l = some r := by
  unfold ad0
  refine ab5 ?_
  unfold af9 aS1
  rw [ac9 (by omega) (by omega), iP (by rw [dT]; omega), h1, oB, iP h2.length_eq, oB]
 unfold aS1
 rw [hp, oB, iP h2.length_eq, oB]
theorem bz7 : ∀ {a b : List aa1}, a.Perm b → Srt a → b.Pairwise (fun x y => x.Id < y.Id) → a = b
 | a, [], hp, _, _ => hp.eq_nil
 | [], y :: b, hp, _, _ => by have := hp.length_eq; simp at this
 | x :: a, y :: b, hp, hs, hb => by
  unfold Srt at hs
  rw [pairwise_cons] at hs hb
  have hx : x = y := by
   have h1 : x ∈ y :: b := hp.mem_iff.1 (by simp)
   have h2 : y ∈ x :: a := hp.mem_iff.2 (by simp)
   rcases mem_cons.1 h1 with h1 | h1
   ·exact h1
   ·rcases mem_cons.1 h2 with h2 | h2
    ·exact h2.symm
    ·have := hb.1 x h1
     have := hs.1 y h2
     omega
  subst hx
  rw [bz7 (List.Perm.cons_inv hp) hs.2 hb.2]
def OkR : List Int → List aa1 → Prop
 | _, [] => True
 | S, y :: r => y.Parent ∈ S ∧ y.Id ∉ S ∧ OkR (y.Id :: S) r
theorem bi0 {y : aa1} {r : List aa1} : ∀ {S : List Int}, y.Parent ∉ S → S.flatMap (az3 (y :: r)) = S.flatMap (az3 r)
 | [], _ => rfl
 | a :: S, h => by
  rw [flatMap_cons, flatMap_cons, bi0 (fun hm => h (by simp [hm])), az3, iN (by rintro rfl; simp at h)]
theorem bz8 : ∀ (r : List aa1) (S : List Int), S.Nodup → OkR S r → (S.flatMap (az3 r)).Perm r
 | [], S, _, _ => by
  have : ∀ S : List Int, S.flatMap (az3 []) = [] := by
   intro S
   induction S with
   | nil => rfl
   | cons a S ih => rw [flatMap_cons, ih]; rfl
  rw [this]
 | y :: r, S, hn, h => by
  obtain ⟨hp, hy, hr⟩ := h
  obtain ⟨S1, S2, rfl⟩ := List.append_of_mem hp
  have ih := bz8 r (y.Id :: (S1 ++ y.Parent :: S2)) (List.nodup_cons.2 ⟨hy, hn⟩) hr
  obtain ⟨n1, n2, n3⟩ := List.nodup_append.1 hn
  have m1 : y.Parent ∉ S1 := fun hm => n3 _ hm _ (by simp) rfl
  have m2 : y.Parent ∉ S2 := (List.nodup_cons.1 n2).1
  rw [List.flatMap_append, flatMap_cons, bi0 m1, bi0 m2, az3, iP rfl]
  rw [flatMap_cons, List.flatMap_append, flatMap_cons] at ih
  refine List.Perm.trans ?_ (ih.cons y)
  generalize S1.flatMap (az3 r) = X
  generalize S2.flatMap (az3 r) = Z
  generalize az3 r y.Id = E
  generalize az3 r y.Parent = F
  have e1 : X ++ (y :: E ++ F ++ Z) = X ++ y :: (E ++ (F ++ Z)) := by simp
  rw [e1]
  refine perm_middle.trans (List.Perm.cons y ?_)
  exact List.perm_append_comm_assoc X E (F ++ Z)
theorem RightT.okR {t : aa3} (h : RightT t) : ∀ (m j : Nat) (S : List Int), m + j = t.Nodes.length → 1 ≤ j → (∀ id, id ∈ S ↔ ∃ k, k < j ∧ id = (nd t.Nodes k).Id) → OkR S (t.Nodes.drop j)
 | 0, j, S, hm, _, _ => by rw [drop_of_length_le (by omega)]; trivial
 | m + 1, j, S, hm, hj, hS => by
  have hjl : j < t.Nodes.length := by omega
  rw [aZ0 hjl]
  have ok := h.ok j (by omega) hjl
  obtain ⟨k, k1, k2, _⟩ := ok.dir
  refine ⟨(hS _).2 ⟨k, k1, k2.symm⟩, fun hm' => ?_, h.okR m (j + 1) _ (by omega) (by omega) fun id => ?_⟩
  ·obtain ⟨q, q1, q2⟩ := (hS _).1 hm'
   have := h.inj hjl (by omega) q2
   omega
  ·rw [mem_cons, hS]
   constructor
   ·rintro (rfl | ⟨q, q1, q2⟩)
    ·exact ⟨j, by omega, rfl⟩
    ·exact ⟨q, by omega, q2⟩
   ·rintro ⟨q, q1, q2⟩
    by_cases hq : q = j
    ·subst hq; exact .inl q2
    ·exact .inr ⟨q, by omega, q2⟩
theorem RightT.perm {t : aa3} (h : RightT t) : (nd t.Nodes 0 :: az3 (t.Nodes.drop 1) (nd t.Nodes 0).Id).Perm t.Nodes := by
 have hl := h.len
 have h1 := bz8 (t.Nodes.drop 1) [(nd t.Nodes 0).Id] (by simp) (h.okR (t.Nodes.length - 1) 1 _ (by omega) (by omega) (fun id => by
  simp only [mem_singleton]
  constructor
  ·rintro rfl; exact ⟨0, by omega, rfl⟩
  ·rintro ⟨k, k1, k2⟩
   have : k = 0 := by omega
   subst this; exact k2))
 simp only [flatMap_cons, flatMap_nil, append_nil] at h1
 have h2 := h1.cons (nd t.Nodes 0)
 rwa [show nd t.Nodes 0 :: t.Nodes.drop 1 = t.Nodes by rw [← aZ0 (l := t.Nodes) (j := 0) (by omega)]; rfl] at h2
theorem RightT.pairs {t : aa3} (h : RightT t) : t.Nodes.Pairwise (fun x y => x.Id < y.Id) := by
 rw [List.pairwise_iff_getElem]
 intro i j hi hj hij
 rw [a89 hi, a89 hj]
 exact h.lt hij hj
def aM5 (t : aa3) : Str := aD8 4 t.Xz ++ (aD8 4 t.Nodes.length ++ aj3 (aq7 (nd t.Nodes 0) (av0 (t.Nodes.drop 1) (nd t.Nodes 0).Id)))
structure cx9 (t : aa3) (s : aa0) : Prop where
 len : s.Blocks.length ≤ 400
 cap : s.Cap = 400
 good : GoodB s.Blocks
 head : HasB s 4 (aM5 t)
 root : Stored s (al6 (nd t.Nodes 0)) (aq1 (nd t.Nodes 0) (av0 (t.Nodes.drop 1) (nd t.Nodes 0).Id))
 all : hasAll s (t.Nodes.drop 1) (nd t.Nodes 0).Id
theorem cl9 : aS3 400 = some ⟨400, []⟩ := rfl
theorem bz9 {t : aa3} (h : Sm t) : (aM5 t).length ≤ 600 := by
 have hl := h.right.len
 have := (aI3 (h.okE (i := 0) (by omega) (h.cont_len (j := 0) (by omega)))).2
 simp only [aM5, length_append, ae7]
 rw [show (0 + 1) = 1 from rfl] at this
 omega
theorem bV1 {t : aa3} (h : Sm t) : ∃ s' sc e, at7 ⟨400, []⟩ t = some (s', sc, e) ∧ (e = 34 ∨ (e = 0 ∧ sc = ae9 4 (aM5 t) ∧ cx9 t s')) := by
 have hl := h.right.len
 have hlen := h.len
 have hdl : (az3 (t.Nodes.drop 1) (nd t.Nodes 0).Id).length = t.Nodes.length - 1 := by
  have := h.right.perm.length_eq
  simp only [length_cons] at this
  omega
 have hnx := h.right.next
 have hid0 := (h.right.id_lt (i := 0) (by omega))
 unfold at7
 rw [aV0 h.right, oB, iN (by decide)]
 obtain ⟨s1, x, e, q1, q2⟩ := bV0 h 15 0 ⟨400, []⟩ (by omega) (by omega) rfl (by rw [show (0 + 1) = 1 from rfl, hdl]; simp; omega)
 rw [h.right.id0] at q1
 rw [q1, oB]
 rcases q2 with rfl | ⟨rfl, rfl, q3, q4, q5, q6⟩
 ·rw [iP (by simp), cl4 (by simp), oB]
  exact ⟨_, _, _, rfl, .inl rfl⟩
 ·rw [show (0 + 1) = 1 from rfl] at q4 q5 q6 ⊢
  rw [hdl] at q6
  have q6' : s1.Blocks.length ≤ 33 * (1 + (t.Nodes.length - 1)) := by simpa using q6
  rw [iN (by simp)]
  have hp1 := PutI (n := t.Xz) (w := 4) (by omega) (by omega) (by omega) (by omega) (by omega)
  have hp2 := PutI (n := (t.Nodes.length : Int)) (w := 4) (by omega) (by omega) (by omega) (by omega) (by omega)
  rw [show ((4 : Nat) : Int) = 4 from rfl] at hp1 hp2
  have ok := h.okE (i := 0) (by omega) (h.cont_len (j := 0) (by omega))
  rw [show (0 + 1) = 1 from rfl] at ok
  have hel := (aI3 ok).2
  have hhl := bz9 h
  rw [hp1, oB, hp2, oB, ak2 (by simp [ae7]), oB, bz1 ok, oB, ak2 (by simp only [length_append, ae7]; omega), oB]
  rw [show aD8 4 t.Xz ++ aD8 4 (t.Nodes.length : Int) ++ aj3 (aq7 (nd t.Nodes 0) (av0 (t.Nodes.drop 1) (nd t.Nodes 0).Id)) = aM5 t by unfold aM5; simp]
  obtain ⟨s2, sc, e, r1, r2⟩ := PutB (s := s1) (kind := 4) (data := aM5 t) (by decide) (by omega) q3.1 (by omega)
  rw [r1, oB]
  rcases r2 with rfl | ⟨rfl, rfl, r3, r4, r5⟩
  ·rw [iP (by simp), cl4 (by simp), oB]
   exact ⟨_, _, _, rfl, .inl rfl⟩
  ·rw [iN (by simp)]
   exact ⟨_, _, _, rfl, .inr ⟨rfl, rfl, ⟨by simp only; omega, r3.1.trans q3.1, r3.good (q3.good GoodB.nil), r4, q4.mono r3, q5.mono r3⟩⟩⟩
theorem bo7 {t : aa3} (h : Sm t) {s : aa0} (hs : cx9 t s) : au2 s (ae9 4 (aM5 t)) = some (t, 0) := by
 have hl := h.right.len
 have hlen := h.len
 have hdl : (az3 (t.Nodes.drop 1) (nd t.Nodes 0).Id).length = t.Nodes.length - 1 := by
  have := h.right.perm.length_eq
  simp only [length_cons] at this
  omega
 have hnx := h.right.next
 have hid0 := (h.right.id_lt (i := 0) (by omega))
 have hhl := bz9 h
 have ok := h.okE (i := 0) (by omega) (h.cont_len (j := 0) (by omega))
 rw [show (0 + 1) = 1 from rfl] at ok
 unfold au2 aq6
 rw [oB]
 simp only
 unfold an3
 rw [cg6 hs.head (by omega) hs.len (by simp), oB, iN (by simp)]
 simp only
 have a0 : At ⟨aM5 t, 0, false⟩ (aM5 t) (aD8 4 t.Xz ++ (aD8 4 t.Nodes.length ++ (aj3 (aq7 (nd t.Nodes 0) (av0 (t.Nodes.drop 1) (nd t.Nodes 0).Id)) ++ []))) := by
  have := At.start (aM5 t)
  rw [append_nil]
  exact this
 obtain ⟨d1, p1, a1⟩ := a0.n32 (by omega) (by unfold U32; omega)
 obtain ⟨d2, p2, a2⟩ := a1.n32 (by omega) (by unfold U32; omega)
 obtain ⟨d3, p3, a3⟩ := a2.entry (by omega) ok rfl
 rw [p1, oB, p2, oB, p3, oB]
 simp only
 obtain ⟨b1, b2, pre, b3, b4⟩ := a3
 have hat : d3.at_ = ((aM5 t).length : Int) := by rw [b4]; rw [append_nil] at b3; rw [b3]
 rw [iN (by rw [b1, hat]; simp; omega)]
 have hadd := cx7 h hs.len (most := (t.Nodes.length : Int)) 16 0 [ae9 4 (aM5 t)] [] (by omega) (by omega) hs.root hs.all (by rw [show (0 + 1) = 1 from rfl, hdl]; simp; omega) (by rw [show (0 + 1) = 1 from rfl, hdl]; simp; omega) (by omega)
 obtain ⟨l', r1, r2⟩ := hadd
 rw [show (0 + 1) = 1 from rfl] at r1
 have same : an1 16 (aq7 (nd t.Nodes 0) (av0 (t.Nodes.drop 1) (nd t.Nodes 0).Id)) (t.Nodes.length : Int) s [ae9 4 (aM5 t)] = ac3 17 (aq7 (nd t.Nodes 0) (av0 (t.Nodes.drop 1) (nd t.Nodes 0).Id)) (t.Nodes.length : Int) s [ae9 4 (aM5 t)] [] := rfl
 rw [nil_append, same, r1, oB, iN (by simp)]
 simp only [nil_append]
 obtain ⟨r, c1, c2, c3⟩ := cq7 (l := nd t.Nodes 0 :: az3 (t.Nodes.drop 1) (nd t.Nodes 0).Id) (by simp only [length_cons]; omega)
 have hr : r = t.Nodes := bz7 (c2.trans h.right.perm) c3 h.right.pairs
 subst hr
 unfold aS1
 rw [c1, oB, iP c2.length_eq, oB, iN (by simp)]
 rw [show (aa3.mk t.Xz t.Nodes) = t from rfl, aV0 h.right, oB, oB, iN (by decide), oB]
end Go.Proofs.YtchaaedlfibdoaaGreatDoor
