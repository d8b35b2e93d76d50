import Derived.Test.YtiliognepodhnaaGreatDoorRK
open Bool (and_eq_true false_eq_true not_eq_true' or_eq_false_iff or_eq_true)
open Int (tdiv tmod toNat_natCast)
open Go.IntKind (wrap)
open List (count_eq_zero drop_eq_getElem_cons drop_left' eraseIdx_sublist filter_append getElem_map getElem_mem isPrefixOf_iff_prefix length_append length_cons length_drop length_filter_le map_set mem_append mem_cons mem_map mem_or_eq_of_mem_set mem_singleton set take_succ_eq_append_getElem)
open Nat (le_refl le_trans lt_or_ge zero_add)
open Option (map_some)
namespace Go.Proofs.YtiliognepodhnaaGreatDoor
open Go.Vm
set_option linter.unusedVariables false
set_option linter.unusedSimpArgs false
set_option maxRecDepth 100000
variable {c : aa3} {a : aa2}
theorem bm2 {K : Nat} : ∀ (f : Nat) (out : List aa1) (i : Nat) (s : Str), out.length + s.length ≤ K → (∀ a ∈ out, a.Mz.length ≤ K ∧ a.Value.length ≤ K) → (ap4 f out i s).1.length ≤ K ∧ ∀ a ∈ (ap4 f out i s).1, a.Mz.length ≤ K ∧ a.Value.length ≤ K
 | 0, out, i, s, h1, h2 => ⟨by simp only [ap4]; omega, by simpa only [ap4] using h2⟩
 | f + 1, out, i, [], h1, h2 => ⟨by simp only [ap4]; simp at h1; omega, by simpa only [ap4] using h2⟩
 | f + 1, out, i, c :: r, h1, h2 => by
  simp only [length_cons] at h1
  rw [ap4]
  split
  ·exact bm2 f out (i + 1) r (by omega) h2
  ·split
   ·rename_i hz
    have := bx3 (cb1 hz)
    simp only [length_cons] at this
    refine bm2 f _ _ _ (by simp only [length_append, length_cons, List.length_nil, length_drop]; omega) ?_
    intro a ha
    rcases mem_append.1 ha with ha | ha
    ·exact h2 a ha
    ·obtain rfl := mem_singleton.1 ha
     omega
   ·exact ⟨by simp, by simp⟩
theorem aZ8 {s : Str} (h : s.length ≤ 2000) : Sh (af0 s).1 := by
 have := bm2 (K := 2000) (s.length + 1) [] 0 s (by simpa using h) (by simp)
 exact ⟨this.1, fun a ha => by have := this.2 a ha; omega⟩
theorem cx7 {l : List Int} (h : ∀ (i : Nat) (hi : i + 1 < l.length), l[i] < l[i + 1]) : l.Pairwise (fun x y => x < y) := by
 rw [List.pairwise_iff_getElem]
 intro i j hi hj hij
 induction j with
 | zero => omega
 | succ j ih =>
  rcases lt_or_ge i j with q | q
  ·exact Int.lt_trans (ih (by omega) q) (h j hj)
  ·have : i = j := by omega
   subst this; exact h i hj
theorem bz3 {i : Nat} (hi : i < a.Cz.length) : a52 a i a.Cz[i] = true ↔ (1 ≤ (a.Cz[i]).Id ∧ (a.Cz[i]).Id < a.Xz ∧ (ao7 a.Cz[i] = true ∨ af9 a.Cz[i] = true)) ∧ ∀ (k : Nat) (hk : k + 1 = i), (a.Cz[k]'(by omega)).Id < (a.Cz[i]).Id := by
 unfold a52
 simp only [and_eq_true, not_eq_true', decide_eq_false_iff_not, or_eq_true]
 cases i with
 | zero =>
  constructor
  ·rintro ⟨h1, h2, _, h3⟩; exact ⟨⟨by omega, by omega, h3⟩, fun k hk => by omega⟩
  ·rintro ⟨⟨h1, h2, h3⟩, _⟩; exact ⟨by omega, by omega, rfl, h3⟩
 | succ k =>
  have hk : k < a.Cz.length := by omega
  simp only [List.getElem?_eq_getElem hk, not_eq_true', decide_eq_false_iff_not]
  constructor
  ·rintro ⟨h1, h2, h4, h3⟩
   refine ⟨⟨by omega, by omega, h3⟩, fun j hj => ?_⟩
   obtain rfl : j = k := by omega
   omega
  ·rintro ⟨⟨h1, h2, h3⟩, h4⟩
   have := h4 k rfl
   exact ⟨by omega, by omega, by omega, h3⟩
structure bK5 (n : Int) (l : List aa3) : Prop where
 asc : (l.map fun c => c.Id).Pairwise (fun x y => x < y)
 ok : ∀ c ∈ l, 1 ≤ c.Id ∧ c.Id < n ∧ (ao7 c = true ∨ af9 c = true)
theorem cm5 : bA0 (a52 a) 0 a.Cz = true ↔ bK5 a.Xz a.Cz := by
 rw [bf8]
 constructor
 ·intro h
  have h' : ∀ (i : Nat) (hi : i < a.Cz.length), a52 a i a.Cz[i] = true := fun i hi => by
   have := h i hi
   rwa [zero_add] at this
  refine ⟨cx7 fun i hi => ?_, fun c hc => ?_⟩
  ·simp only [List.length_map] at hi
   simp only [getElem_map]
   exact ((bz3 hi).1 (h' _ hi)).2 i rfl
  ·obtain ⟨i, hi, rfl⟩ := List.getElem_of_mem hc
   exact ((bz3 hi).1 (h' _ hi)).1
 ·intro h i hi
  rw [zero_add]
  refine (bz3 hi).2 ⟨h.ok _ (getElem_mem hi), fun k hk => ?_⟩
  have := List.pairwise_iff_getElem.1 h.asc k i (by simp; omega) (by simpa using hi) (by omega)
  simpa only [getElem_map] using this
structure bi5 (l : List (List aa1)) : Prop where
 one : (l.map pub).Pairwise (fun x y => x ≠ y)
 ok : ∀ k ∈ l, b50 k = true
theorem cx8 {l : List (List aa1)} : bA0 (bW8 l) 0 l = true ↔ bi5 l := by
 rw [bf8]
 constructor
 ·intro h
  refine ⟨?_, fun k hk => ?_⟩
  ·rw [List.pairwise_iff_getElem]
   intro i j hi hj hij e
   simp only [List.length_map] at hi hj
   simp only [getElem_map] at e
   have := h j hj
   unfold bW8 at this
   simp only [and_eq_true, not_eq_true', List.any_eq_false, decide_eq_true_eq, zero_add] at this
   refine this.2 l[i] ?_ e
   have hm : l[i] = (l.take j)[i]'(by simp; omega) := by simp
   rw [hm]; exact getElem_mem _
  ·obtain ⟨i, hi, rfl⟩ := List.getElem_of_mem hk
   have := h i hi
   unfold bW8 at this
   simp only [and_eq_true] at this
   exact this.1
 ·rintro ⟨h1, h2⟩ i hi
  unfold bW8
  simp only [zero_add, h2 _ (getElem_mem hi), Bool.true_and, not_eq_true', List.any_eq_false, decide_eq_true_eq]
  intro o ho e
  obtain ⟨j, hj, rfl⟩ := List.getElem_of_mem ho
  simp only [List.length_take] at hj
  have := List.pairwise_iff_getElem.1 h1 j i (by simp; omega) (by simpa using hi) (by omega)
  simp only [getElem_map] at this
  rw [List.getElem_take] at e
  exact this e
structure OKA (a : aa2) : Prop where
 base : bB1 a = true
 nc : a.Cz.length ≤ 32
 nk : a.Kz.length ≤ 64
 keys : bi5 a.Kz
 convs : bK5 a.Xz a.Cz
theorem aR2 : a54 a = true ↔ OKA a := by
 unfold a54
 simp only [and_eq_true, not_eq_true', decide_eq_false_iff_not, cm5, cx8]
 constructor
 ·rintro ⟨h1, h2, h3, h4, h5⟩; exact ⟨h1, by omega, by omega, h4, h5⟩
 ·rintro ⟨h1, h2, h3, h4, h5⟩; exact ⟨h1, by omega, by omega, h4, h5⟩
theorem Val.oka (v : Val a) : OKA a := aR2.1 v.ok
theorem cm6 {n : Int} {l : List aa3} (h : bK5 n l) {i : Nat} (hi : i < l.length) {c : aa3} (hid : c.Id = (l[i]).Id) (hr : ao7 c = true ∨ af9 c = true) : bK5 n (l.set i c) := by
 have hm : (l.set i c).map (fun c => c.Id) = l.map fun c => c.Id := by
  rw [map_set, hid]
  have : (l[i]).Id = (l.map fun c => c.Id)[i]'(by simpa using hi) := by simp
  rw [this, List.set_getElem_self]
 refine ⟨by rw [hm]; exact h.asc, fun x hx => ?_⟩
 rcases mem_or_eq_of_mem_set hx with hx | rfl
 ·exact h.ok x hx
 ·have := h.ok _ (getElem_mem hi)
  rw [hid]; exact ⟨this.1, this.2.1, hr⟩
theorem Val.put (v : Val a) {i : Nat} (hi : i < a.Cz.length) {c : aa3} (hid : c.Id = (a.Cz[i]).Id) (hr : ao7 c = true ∨ af9 c = true) (hk : Sh c.Key) : Val {a with Cz := a.Cz.set i c} := by
 have h := v.lim
 have o := v.oka
 refine ⟨⟨h.owner, h.seed, h.keys, h.key, by simpa using h.convs, fun x hx => ?_⟩, aR2.2 ⟨o.base, by simpa using o.nc, o.nk, o.keys, cm6 o.convs hi hid hr⟩⟩
 rcases mem_or_eq_of_mem_set hx with hx | rfl
 ·exact h.conv x hx
 ·exact ⟨hk⟩
theorem Val.count (v : Val a) (h : a.Nz < 9007199254740991) : Val {a with Nz := a.Nz + 1} := by
 have l := v.lim
 have o := v.oka
 have hb := v.base
 refine ⟨⟨l.owner, l.seed, l.keys, l.key, l.convs, l.conv⟩, aR2.2 ⟨?_, o.nc, o.nk, o.keys, o.convs⟩⟩
 have := o.base
 unfold bB1 at this ⊢
 simp only [not_eq_true', or_eq_false_iff, decide_eq_false_iff_not] at this ⊢
 refine ⟨this.1, this.2.1, this.2.2.1, this.2.2.2.1, this.2.2.2.2.1, by omega, by omega⟩
theorem Val.close (v : Val a) (i : Nat) : Val {a with Cz := a.Cz.eraseIdx i} := by
 have h := v.lim
 have o := v.oka
 have hl : (a.Cz.eraseIdx i).length ≤ a.Cz.length := (eraseIdx_sublist _ _).length_le
 have h1 := h.convs
 have h2 := o.nc
 refine ⟨⟨h.owner, h.seed, h.keys, h.key, by show (a.Cz.eraseIdx i).length ≤ 40; omega, fun x hx => h.conv x ((eraseIdx_sublist _ _).subset hx)⟩, aR2.2 ⟨o.base, by show (a.Cz.eraseIdx i).length ≤ 32; omega, o.nk, o.keys, ?_, fun x hx => o.convs.ok x ((eraseIdx_sublist _ _).subset hx)⟩⟩
 exact o.convs.asc.sublist ((eraseIdx_sublist _ _).map _)
def b61 (n : Int) : aa3 := ⟨n, [], 0, 0, 0, [], [], [], [], 0⟩
def cH0 (a : aa2) : aa2 := {a with Cz := a.Cz ++ [b61 a.Xz], Xz := a.Xz + 1}
theorem Val.opn (v : Val a) (h : a.Cz.length < 32) (hn : a.Xz < 1048560) : Val (cH0 a) := by
 have l := v.lim
 have o := v.oka
 have hb := v.base
 unfold cH0
 refine ⟨⟨l.owner, l.seed, l.keys, l.key, by simp; omega, fun x hx => ?_⟩, aR2.2 ⟨?_, by simp; omega, o.nk, o.keys, ?_, fun x hx => ?_⟩⟩
 ·rcases mem_append.1 hx with hx | hx
  ·exact l.conv x hx
  ·obtain rfl := mem_singleton.1 hx
   exact ⟨⟨by simp [b61], by simp [b61]⟩⟩
 ·have := o.base
  unfold bB1 at this ⊢
  simp only [not_eq_true', or_eq_false_iff, decide_eq_false_iff_not] at this ⊢
  refine ⟨this.1, this.2.1, this.2.2.1, by omega, by omega, this.2.2.2.2.2⟩
 ·rw [List.map_append, List.pairwise_append]
  refine ⟨o.convs.asc, by simp, fun x hx y hy => ?_⟩
  obtain ⟨c, hc, rfl⟩ := mem_map.1 hx
  obtain rfl := mem_singleton.1 hy
  exact (o.convs.ok c hc).2.1
 ·rcases mem_append.1 hx with hx | hx
  ·have := o.convs.ok x hx
   exact ⟨this.1, by show x.Id < a.Xz + 1; omega, this.2.2⟩
  ·obtain rfl := mem_singleton.1 hx
   exact ⟨by show 1 ≤ a.Xz; omega, by show a.Xz < a.Xz + 1; omega, .inl rfl⟩
theorem Val.keysTo (v : Val a) {l : List (List aa1)} (hl : l.length ≤ 64) (hk : bi5 l) (hs : ∀ k ∈ l, Sh k) : Val {a with Kz := l} := by
 have h := v.lim
 have o := v.oka
 exact ⟨⟨h.owner, h.seed, by show l.length ≤ 70; omega, hs, h.convs, h.conv⟩, aR2.2 ⟨o.base, o.nc, hl, hk, o.convs⟩⟩
theorem bX5 {l : List (List aa1)} (h : bi5 l) (p : List aa1 → Bool) : bi5 (l.filter p) :=
 ⟨h.one.sublist ((List.filter_sublist).map _), fun k hk => h.ok k (List.mem_filter.1 hk).1⟩
theorem cx9 {l : List (List aa1)} (h : bi5 l) {i : Nat} (hi : i < l.length) {k : List aa1} (hp : pub l[i] = pub k) (hk : b50 k = true) : bi5 (l.set i k) := by
 have hm : (l.set i k).map pub = l.map pub := by
  rw [map_set, ← hp]
  have : pub l[i] = (l.map pub)[i]'(by simpa using hi) := by simp
  rw [this, List.set_getElem_self]
 refine ⟨by rw [hm]; exact h.one, fun x hx => ?_⟩
 rcases mem_or_eq_of_mem_set hx with hx | rfl
 ·exact h.ok x hx
 ·exact hk
theorem cm7 {l : List (List aa1)} (h : bi5 l) {k : List aa1} (hp : ∀ o ∈ l, pub o ≠ pub k) (hk : b50 k = true) : bi5 (l ++ [k]) := by
 refine ⟨?_, fun x hx => ?_⟩
 ·rw [List.map_append, List.pairwise_append]
  refine ⟨h.one, by simp, fun x hx y hy => ?_⟩
  obtain ⟨c, hc, rfl⟩ := mem_map.1 hx
  obtain rfl := mem_singleton.1 hy
  exact hp c hc
 ·rcases mem_append.1 hx with hx | hx
  ·exact h.ok x hx
  ·obtain rfl := mem_singleton.1 hx; exact hk
variable {c : aa3}
def bF1 (s : Str) (at_ : Nat) : Option Str := if at_ + 32 ≤ s.length then some ((s.drop at_).take 32) else none
def bi6 (c : aa3) (s : Str) : Option Str := if 0 ≤ bp6 c c.Step then bF1 s (bp6 c c.Step).toNat else some c.Ez
def bK6 (c : aa3) : aa3 := {c with Hz := 4, Err := 28}
def bX6 (c : aa3) (p : Str) : Str := bi4 c c.Step (if c.Rz = 1 then c.Own else p) (if c.Rz = 1 then p else c.Own)
def cH1 (c : aa3) (p : Str) : aa3 := by2 {c with Ez := p, Step := c.Step + 1}
def bB5 (c : aa3) (s p : Str) : aa3 × Int := if bX6 c p = s then (cH1 c p, 0) else (bK6 c, 28)
def aE2 (c : aa3) (s : Str) : aa3 × Int :=
 if c.Hz = 2 then (match bi6 c s with | none => (bK6 c, 28) | some p => bB5 c s p) else (c, 53)
theorem bF2 {s : Str} {n : Nat} {p : Str} (h : bF1 s n = some p) : p.length = 32 := by
 unfold bF1 at h
 split at h
 ·obtain rfl := Option.some.inj h; simp; omega
 ·cases h
theorem bd4 (h : ag9 c.Pz = true) : c.Pz = ai4 ∨ c.Pz = aE3 ∨ c.Pz = ap7 := by
 unfold ag9 at h
 simpa only [or_eq_true, decide_eq_true_eq] using h
theorem bz4 (c : aa3) : phS c = 3 ∧ c.Step = aQ9 c.Pz ∨ phS c = 1 ∧ c.Step ≠ aQ9 c.Pz ∧ aR0 c.Pz c.Rz c.Step = true ∨ phS c = 2 ∧ c.Step ≠ aQ9 c.Pz ∧ aR0 c.Pz c.Rz c.Step = false := by
 unfold phS
 split
 ·rename_i h; exact .inl ⟨rfl, h⟩
 ·rename_i h
  split
  ·rename_i q; exact .inr (.inl ⟨rfl, h, q⟩)
  ·rename_i q; exact .inr (.inr ⟨rfl, h, by simpa using q⟩)
theorem aW2 (h : af9 c = true) (q : c.Hz = 2) : c.Step ≠ aQ9 c.Pz ∧ c.Step ≤ 2 ∧ c.Uz = [] ∧ c.Err = 0 ∧ phS c = 2 ∧ aR0 c.Pz c.Rz c.Step = false ∧ (if at5 c = true then c.Ez.length = 32 else c.Ez = []) := by
 obtain ⟨_, _, _, _, _, _, h7, h8⟩ := ax8 h
 have hm := by4 c.Pz
 unfold af9 stB bd2 a50 at h
 simp only [and_eq_true, or_eq_true, decide_eq_true_eq] at h
 obtain ⟨_, ⟨h1, h2, h3⟩, h4⟩ := h
 have hp : phS c = 2 := by
  rcases h1 with h1 | h1
  ·omega
  ·omega
 have hn : ¬ phS c = 3 := by omega
 have n4 : ¬ (c.Hz = 4 ∧ phS c = 2) := by omega
 rw [if_neg hn] at h2
 rw [if_neg n4] at h3
 rcases bz4 c with ⟨e, _⟩ | ⟨e, _⟩ | ⟨e, e2, e3⟩
 ·omega
 ·omega
 ·refine ⟨e2, by omega, h2, h3, hp, e3, ?_⟩
  by_cases k : at5 c = true
  ·rw [if_pos k] at h4 ⊢; have := of_decide_eq_true h4; omega
  ·rw [if_neg k] at h4 ⊢; exact of_decide_eq_true h4
theorem cc1 (h : af9 c = true) (q : c.Hz = 1) : c.Step ≠ aQ9 c.Pz ∧ c.Step ≤ 2 ∧ c.Uz = [] ∧ c.Err = 0 ∧ phS c = 1 ∧ aR0 c.Pz c.Rz c.Step = true ∧ (if at5 c = true then c.Ez.length = 32 else c.Ez = []) := by
 obtain ⟨_, _, _, _, _, _, h7, h8⟩ := ax8 h
 have hm := by4 c.Pz
 unfold af9 stB bd2 a50 at h
 simp only [and_eq_true, or_eq_true, decide_eq_true_eq] at h
 obtain ⟨_, ⟨h1, h2, h3⟩, h4⟩ := h
 have hp : phS c = 1 := by
  rcases h1 with h1 | h1
  ·omega
  ·omega
 have hn : ¬ phS c = 3 := by omega
 have n4 : ¬ (c.Hz = 4 ∧ phS c = 2) := by omega
 rw [if_neg hn] at h2
 rw [if_neg n4] at h3
 rcases bz4 c with ⟨e, _⟩ | ⟨e, e2, e3⟩ | ⟨e, _⟩
 ·omega
 ·refine ⟨e2, by omega, h2, h3, hp, e3, ?_⟩
  by_cases k : at5 c = true
  ·rw [if_pos k] at h4 ⊢; have := of_decide_eq_true h4; omega
  ·rw [if_neg k] at h4 ⊢; exact of_decide_eq_true h4
 ·omega
theorem bm3 {p : Str} (hp : ag9 c.Pz = true) (hr : c.Rz = 1 ∨ c.Rz = 2) (h0 : 0 ≤ c.Step) (h2 : c.Step ≤ 2) : at5 {c with Ez := p, Step := c.Step + 1} = (at5 c || kb c c.Step) := by
 have k1 := @by3 c hp hr
 have k2 := @by3 {c with Ez := p, Step := c.Step + 1} hp hr
 rw [← k1, ← k2]
 have e : ∀ n, kb {c with Ez := p, Step := c.Step + 1} n = kb c n := fun n => rfl
 have hs : c.Step = 0 ∨ c.Step = 1 ∨ c.Step = 2 := by omega
 unfold bo7
 rw [e, e, e]
 show (decide (0 < c.Step + 1) && kb c 0 || (decide (1 < c.Step + 1) && kb c 1 || decide (2 < c.Step + 1) && kb c 2)) = _
 rcases hs with h | h | h <;> rw [h] <;> simp [Bool.or_assoc]
theorem bR1 (hp : ag9 c.Pz = true) (hr : c.Rz = 1 ∨ c.Rz = 2) (h0 : 0 ≤ c.Step) (h2 : c.Step ≤ 2) (hk : kb c c.Step = true) : at5 c = false := by
 have hs : c.Step = 0 ∨ c.Step = 1 ∨ c.Step = 2 := by omega
 have n0 : ¬ (ai4 = aE3) := by decide
 have n1 : ¬ (aE3 = ai4) := by decide
 have n2 : ¬ (ap7 = ai4) := by decide
 have n3 : ¬ (ap7 = aE3) := by decide
 have d : tmod 0 2 = 0 ∧ tmod 1 2 = 1 ∧ tmod 2 2 = 0 := by decide
 rcases bd4 hp with h | h | h <;> rcases hr with r | r <;> rcases hs with q | q | q <;> simp [kb, bp6, aR0, bo5, h, r, q, n0, n1, n2, n3, d] at hk <;> simp [at5, h, r, q, n0, n1, n2, n3]
theorem bz5 {c : aa3} (hpre : bo8 c = true) (he : c.Err = 0) (hpe : a50 c = true) : af9 (by2 c) = true := by
 unfold af9
 have e1 : bo8 (by2 c) = bo8 c := rfl
 have e2 : a50 (by2 c) = a50 c := rfl
 have hph : phS (by2 c) = phS c := rfl
 have hne : ¬ phS c = 4 := by rcases bz4 c with h | h | h <;> omega
 rw [e1, e2, hpre, hpe]
 have hf : bd2 (by2 c) = false := by
  unfold bd2
  show (decide (phS c = 4) && _) = false
  simp [hne]
 unfold stB
 rw [hf, hph]
 show (true && ((false || decide (phS c = phS c)) && (decide ((if phS c = 3 then usr c else []) = if phS c = 3 then usr c else []) && decide (c.Err = if false = true then 28 else 0))) && true) = true
 simp [he]
theorem cc2 (h : af9 c = true) (q : c.Hz = 1) : af9 (by2 {c with Step := c.Step + 1}) = true := by
 obtain ⟨i0, i1, hp, hr, hk, ho, h0, h3⟩ := ax8 h
 obtain ⟨hm, h2, hu, he, hph, hs, hpe⟩ := cc1 h q
 refine bz5 ?_ he ?_
 ·unfold af9 bo8 at h
  simp only [and_eq_true, not_eq_true', decide_eq_false_iff_not] at h
  obtain ⟨⟨g1, g2, g3, g4, g5, g6, g7, g8⟩, _⟩ := h
  unfold bo8
  simp only [and_eq_true, not_eq_true', decide_eq_false_iff_not]
  exact ⟨g1, g2, g3, g4, g5, g6, by omega, by omega⟩
 ·have kn := @bm3 c c.Ez hp hr h0 h2
  have kf : kb c c.Step = false := by unfold kb; rw [hs]; simp
  rw [kf, Bool.or_false] at kn
  unfold a50
  have e : ({c with Ez := c.Ez, Step := c.Step + 1} : aa3) = {c with Step := c.Step + 1} := rfl
  rw [e] at kn
  rw [kn]
  show (if at5 c = true then decide ((List.length c.Ez : Int) = 32) else decide (c.Ez = [])) = true
  by_cases k : at5 c = true
  ·rw [if_pos k] at hpe ⊢; simp [hpe]
  ·rw [if_neg k] at hpe ⊢; simp [hpe]
theorem bF3 (h : af9 c = true) (q : c.Hz = 2) : af9 (bK6 c) = true := by
 obtain ⟨hm, h2, hu, he, hph, hs, hpe⟩ := aW2 h q
 have hpre : bo8 c = true := by unfold af9 at h; simp only [and_eq_true] at h; exact h.1
 unfold af9
 have e1 : bo8 (bK6 c) = bo8 c := rfl
 have e2 : a50 (bK6 c) = a50 c := rfl
 have hpB : a50 c = true := by unfold af9 at h; simp only [and_eq_true] at h; exact h.2.2
 have hp' : phS (bK6 c) = 2 := hph
 have hf : bd2 (bK6 c) = true := by
  unfold bd2
  rw [hp']; rfl
 rw [e1, e2, hpre, hpB]
 unfold stB
 rw [hf, hp']
 show (true && ((true || decide ((4 : Int) = 2)) && (decide (c.Uz = if (2 : Int) = 3 then usr c else []) && decide ((28 : Int) = if true = true then 28 else 0)) && true)) = true
 simp [hu]
theorem cc3 (h : af9 c = true) (q : c.Hz = 2) {s p : Str} (hl : bi6 c s = some p) : af9 (cH1 c p) = true := by
 obtain ⟨i0, i1, hp, hr, hk, ho, h0, h3⟩ := ax8 h
 obtain ⟨hm, h2, hu, he, hph, hs, hpe⟩ := aW2 h q
 refine bz5 ?_ he ?_
 ·unfold af9 bo8 at h
  simp only [and_eq_true, not_eq_true', decide_eq_false_iff_not] at h
  obtain ⟨⟨g1, g2, g3, g4, g5, g6, g7, g8⟩, _⟩ := h
  unfold bo8
  simp only [and_eq_true, not_eq_true', decide_eq_false_iff_not]
  exact ⟨g1, g2, g3, g4, g5, g6, by omega, by omega⟩
 ·have kn := @bm3 c p hp hr h0 h2
  unfold a50
  rw [kn]
  show (if (at5 c || kb c c.Step) = true then decide ((List.length p : Int) = 32) else decide (p = [])) = true
  unfold bi6 at hl
  by_cases hc : 0 ≤ bp6 c c.Step
  ·rw [if_pos hc] at hl
   have := bF2 hl
   have kt : kb c c.Step = true := by unfold kb; rw [hs]; simp [hc]
   rw [kt]; simp [this]
  ·rw [if_neg hc] at hl
   obtain rfl := Option.some.inj hl
   have kf : kb c c.Step = false := by unfold kb; simp [hc]
   rw [kf, Bool.or_false]
   by_cases k : at5 c = true
   ·rw [if_pos k] at hpe ⊢; simp [hpe]
   ·rw [if_neg k] at hpe ⊢; simp [hpe]
theorem bX7 (h : af9 c = true) (s : Str) : af9 (aE2 c s).1 = true := by
 unfold aE2
 by_cases q : c.Hz = 2
 ·rw [if_pos q]
  cases hl : bi6 c s with
  | none => exact bF3 h q
  | some p =>
   show af9 (bB5 c s p).1 = true
   unfold bB5
   split
   ·exact cc3 h q hl
   ·exact bF3 h q
 ·rw [if_neg q]; exact h
theorem bF4 (s : Str) : (aE2 c s).1.Id = c.Id ∧ (aE2 c s).1.Key = c.Key := by
 unfold aE2
 split
 ·split
  ·exact ⟨rfl, rfl⟩
  ·unfold bB5
   split <;> exact ⟨rfl, rfl⟩
 ·exact ⟨rfl, rfl⟩
theorem bR2 (c : aa3) : (aZ7 c).1.Id = c.Id ∧ (aZ7 c).1.Key = c.Key := by
 unfold aZ7
 split <;> exact ⟨rfl, rfl⟩
theorem bX8 (h : af9 c = true) : af9 (aZ7 c).1 = true := by
 unfold aZ7
 by_cases q : c.Hz = 1
 ·rw [if_pos q]; exact cc2 h q
 ·rw [if_neg q]; exact h
theorem bX9 {p : Str} {r : Int} {k : List aa1} {n : Str} {id : Int} (h : (aW1 p r k n).2 = 0) (h0 : 0 ≤ id) (h1 : id ≤ 1048575) : af9 {(aW1 p r k n).1 with Id := id} = true ∧ (aW1 p r k n).1.Key = k := by
 unfold aW1 at h ⊢
 split
 ·rename_i q; rw [if_pos q] at h; cases h
 ·rename_i q
  rw [if_neg q] at h
  split
  ·rename_i q1
   rw [if_pos q1] at h
   split
   ·rename_i q2
    rw [if_pos q2] at h
    split
    ·rename_i q3
     refine ⟨?_, rfl⟩
     have hp : ag9 p = true := by simpa using q
     have e : ({by2 (bm1 p r k n) with Id := id} : aa3) = by2 {bm1 p r k n with Id := id} := rfl
     show af9 {by2 (bm1 p r k n) with Id := id} = true
     rw [e]
     refine bz5 ?_ rfl ?_
     ·unfold bo8 by0
      have m0 : ¬ aQ9 p < 0 := by unfold aQ9; split <;> (try split) <;> (try split) <;> omega
      have hr : (decide (r = 1) || decide (r = 2)) = true := by simpa using q1.1
      show (!decide (id < 0) && (!decide (1048575 < id) && (ag9 p && ((decide (r = 1) || decide (r = 2)) && (decide (aW5 k = 0) && bh8 k && (decide ((List.length n : Int) = 32) && (!decide ((0 : Int) < 0) && !decide (aQ9 p < 0)))))))) = true
      rw [hp, hr, q3, decide_eq_true q2, decide_eq_true q1.2, decide_eq_false m0]
      simp; omega
     ·unfold a50 at5
      show (if (if p = ai4 then decide (r = 1) && decide ((0 : Int) < 0) else if p = aE3 ∧ r = 2 then decide ((0 : Int) < 0) else decide (p = aE3) && decide ((1 : Int) < 0)) = true then decide ((List.length ([] : Str) : Int) = 32) else decide (([] : Str) = [])) = true
      simp
    ·rename_i q3; rw [if_neg q3] at h; cases h
   ·rename_i q2; rw [if_neg q2] at h; exact absurd h q2
  ·rename_i q1; rw [if_neg q1] at h; cases h
theorem cH2 {c : aa3} (h : Tl c) (hp : ag9 c.Pz = true) (n : Int) (s : Str) : (if (decide ((aa4.mk c).Conv.Pz = [99, 104, 97, 108])) then (ak8 (aa4.mk c) n).bind fun x => some (!decide (x = s)) else if (decide ((aa4.mk c).Conv.Pz = [109, 117, 116, 117, 97, 108])) then (ai6 (aa4.mk c) n).bind fun x => some (!decide (x = s)) else (aj3 (aa4.mk c) n).bind fun x => some (!decide (x = s))) = some (!decide (bi4 c n (bz2 c) (bF0 c) = s)) := by
 rcases bd4 hp with q | q | q
 ·have q' : c.Pz = [99, 104, 97, 108] := q
  simp only [q', decide_true, if_true, b60 h q, Option.bind_some]
 ·have q' : c.Pz = [109, 117, 116, 117, 97, 108] := q
  have n1 : ¬ ([109, 117, 116, 117, 97, 108] : Str) = [99, 104, 97, 108] := by decide
  simp only [q', n1, decide_true, decide_false, false_eq_true, if_false, if_true, cm3 h q, Option.bind_some]
 ·have q' : c.Pz = [112, 108, 97, 105, 110] := q
  have n1 : ¬ ([112, 108, 97, 105, 110] : Str) = [99, 104, 97, 108] := by decide
  have n2 : ¬ ([112, 108, 97, 105, 110] : Str) = [109, 117, 116, 117, 97, 108] := by decide
  simp only [q', n1, n2, decide_false, false_eq_true, if_false, bR0 h q, Option.bind_some]
theorem cH3 {p s : Str} (h : Tl {c with Ez := p}) (hp : ag9 c.Pz = true) (h0 : 0 ≤ c.Step) (h2 : c.Step ≤ 2) : as7 c s {c with Ez := p} = some (if 0 ≤ bp6 c c.Step ∧ ¬ ((List.length p : Int) = 32) then (bK6 c, 28) else bB5 c s p) := by
 have hk : c.Key.length ≤ 1000000 := h.key
 have hu : (usr c).length ≤ 65535 := le_trans h.usr (by omega)
 have hs := cH2 h hp c.Step s
 have ht : bi4 {c with Ez := p} c.Step (bz2 {c with Ez := p}) (bF0 {c with Ez := p}) = bX6 c p := rfl
 rw [ht] at hs
 have hset : an9 {c with Ez := p, Step := wrap .i64 (c.Step + 1)} = some (cH1 c p) := by
  rw [ab3 (by omega) (by omega)]
  exact a86 (c := {c with Ez := p, Step := c.Step + 1}) hp hk
 have hcop : ap1 c = some c := by unfold ap1; rw [aM3 hk]; rfl
 have fin : ∀ t : Bool, t = !decide (bX6 c p = s) → (if t = true then (ap1 c).bind fun x20 => some ({x20 with Hz := 4, Err := 28}, (28 : Int)) else (an9 {c with Ez := p, Step := wrap .i64 (c.Step + 1)}).bind fun x21 => some (x21, 0)) = some (bB5 c s p) := by
  rintro t rfl
  unfold bB5
  rw [hset, hcop]
  by_cases q : bX6 c p = s
  ·simp [q]
  ·simp [q, bK6]
 unfold as7
 rw [bl9 hk hu, Option.bind_some, hs]
 by_cases hc : 0 ≤ bp6 c c.Step
 ·by_cases hl : (List.length p : Int) = 32
  ·have n1 : ¬ (0 ≤ bp6 c c.Step ∧ ¬ ((List.length p : Int) = 32)) := fun h => h.2 hl
   rw [if_neg n1, decide_eq_true hc, if_pos rfl]
   rw [show decide ((List.length ({c with Ez := p} : aa3).Ez : Int) = 32) = true from decide_eq_true hl]
   exact fin _ rfl
  ·have n1 : 0 ≤ bp6 c c.Step ∧ ¬ ((List.length p : Int) = 32) := ⟨hc, hl⟩
   rw [if_pos n1, decide_eq_true hc, if_pos rfl]
   rw [show decide ((List.length ({c with Ez := p} : aa3).Ez : Int) = 32) = false from decide_eq_false hl, hcop]
   rfl
 ·have n1 : ¬ (0 ≤ bp6 c c.Step ∧ ¬ ((List.length p : Int) = 32)) := fun h => hc h.1
  rw [if_neg n1, decide_eq_false hc, if_neg (by simp)]
  exact fin _ rfl
theorem cP4 {s : Str} {n : Nat} (h : n + 32 ≤ s.length) : cut s (n : Int) ((n : Int) + 32) = some ((s.drop n).take 32) := by
 unfold cut
 rw [if_pos ⟨by omega, by omega, by omega⟩]
 have : ((n : Int) + 32).toNat = n + 32 := by omega
 rw [this, toNat_natCast, List.drop_take]
 congr 2
 omega
theorem cH4 (h : (usr c).length ≤ 5000) (n : Int) : bp6 c n ≤ 5002 := by
 unfold bp6
 split
 ·omega
 ·split
  ·omega
  ·split <;> omega
theorem cm8 (hs : aR0 c.Pz c.Rz c.Step = false) : kb c c.Step = decide (0 ≤ bp6 c c.Step) := by
 unfold kb; rw [hs]; simp
theorem bR3 (h : Tl c) (hr : af9 c = true) (s : Str) (hsl : s.length ≤ 1000000) : a80 c s = some (aE2 c s) := by
 obtain ⟨_, _, hp, hro, hok, ho, h0, _⟩ := ax8 hr
 have hcop : ap1 c = some c := by unfold ap1; rw [aM3 h.key]; rfl
 unfold a80 aE2
 by_cases q : c.Hz = 2
 case neg => simp [q, hcop]
 obtain ⟨hm, h2, hu, he, hph, hs, hpe⟩ := aW2 hr q
 have hul : (usr c).length ≤ 65535 := le_trans h.usr (by omega)
 have hle := cH4 h.usr c.Step
 rw [if_pos q, decide_eq_true q, Bool.not_true, if_neg (by simp), bl9 h.key hul, Option.bind_some]
 have hself : as7 c s c = as7 c s {c with Ez := c.Ez} := rfl
 unfold bi6
 by_cases hc : 0 ≤ bp6 c c.Step
 ·rw [if_pos hc, decide_eq_true hc, Bool.true_and]
  obtain ⟨n, hn⟩ : ∃ n : Nat, bp6 c c.Step = (n : Int) := ⟨(bp6 c c.Step).toNat, by omega⟩
  rw [hn, toNat_natCast, ab3 (by omega) (by omega)]
  unfold bF1
  by_cases hl : n + 32 ≤ s.length
  ·have hl' : (n : Int) + 32 ≤ (List.length s : Int) := by omega
   rw [if_pos hl, decide_eq_true hl', if_pos rfl, cP4 hl, Option.bind_some]
   have hpl : ((s.drop n).take 32).length = 32 := by simp; omega
   have ht : Tl {c with Ez := (s.drop n).take 32} := ⟨h.key, h.usr, h.sec, h.own, by rw [hpl]; omega⟩
   rw [cH3 ht hp h0 h2, if_neg (by rw [hpl]; simp)]
  ·have hl' : ¬ ((n : Int) + 32 ≤ (List.length s : Int)) := by omega
   rw [if_neg hl, decide_eq_false hl', if_neg (by simp), hself, cH3 h hp h0 h2]
   have hk := cm8 hs
   rw [decide_eq_true hc] at hk
   have hkn := bR1 hp hro h0 h2 hk
   rw [hkn] at hpe
   simp only [false_eq_true, if_false] at hpe
   rw [hpe, if_pos ⟨hc, by simp⟩]
 ·rw [if_neg hc, decide_eq_false hc, Bool.false_and, if_neg (by simp), hself, cH3 h hp h0 h2, if_neg (fun x => hc x.1)]
theorem bF5 {s : Str} {n : Nat} (hn : n ≤ 1000000) (hs : s.length ≤ 1000000) : aE1 s (n : Int) = some (match bF1 s n with | some p => (p, true) | none => ([], false)) := by
 unfold aE1 bF1
 rw [ab3 (n := (List.length s : Int) - (n : Int)) (by omega) (by omega), ab3 (n := (n : Int) + 32) (by omega) (by omega)]
 by_cases h : n + 32 ≤ s.length
 ·have e : (decide ((List.length s : Int) < (n : Int)) || decide ((List.length s : Int) - (n : Int) < 32)) = false := by
   rw [or_eq_false_iff, decide_eq_false_iff_not, decide_eq_false_iff_not]; omega
  rw [e, if_neg (by simp), if_pos h, cP4 h]; rfl
 ·have e : (decide ((List.length s : Int) < (n : Int)) || decide ((List.length s : Int) - (n : Int) < 32)) = true := by
   rw [or_eq_true, decide_eq_true_eq, decide_eq_true_eq]; omega
  rw [e, if_pos rfl, if_neg h]
theorem cH5 (hp : ag9 c.Pz = true) (hr : c.Rz = 1 ∨ c.Rz = 2) (h0 : 0 ≤ c.Step) (h2 : c.Step ≤ 2) (hk : kb c c.Step = true) : (c.Pz = aE3 ∧ c.Rz = 2) ∧ bp6 c c.Step = ((usr c).length : Int) + 2 ∨ ¬ (c.Pz = aE3 ∧ c.Rz = 2) ∧ bp6 c c.Step = 0 := by
 have hs : c.Step = 0 ∨ c.Step = 1 ∨ c.Step = 2 := by omega
 have n0 : ¬ (ai4 = aE3) := by decide
 have n1 : ¬ (aE3 = ai4) := by decide
 have n2 : ¬ (ap7 = ai4) := by decide
 have n3 : ¬ (ap7 = aE3) := by decide
 have d : tmod 0 2 = 0 ∧ tmod 1 2 = 1 ∧ tmod 2 2 = 0 := by decide
 rcases bd4 hp with h | h | h <;> rcases hr with r | r <;> rcases hs with q | q | q <;> simp [kb, bp6, aR0, bo5, h, r, q, n0, n1, n2, n3, d] at hk <;> simp [bp6, h, r, q, n0, n1, n2, n3]
theorem cc4 (h : Tl c) (hr : af9 c = true) (q : c.Hz = 2) {s : Str} (hsl : s.length ≤ 1000000) : aM1 c s = some (match bi6 c s with | some p => (p, true) | none => ([], false)) := by
 obtain ⟨_, _, hp, hro, hok, ho, h0, _⟩ := ax8 hr
 obtain ⟨hm, h2, hu, he, hph, hs, hpe⟩ := aW2 hr q
 have hul := h.usr
 have hk := cm8 hs
 have kn := @bm3 c c.Ez hp hro h0 h2
 have e : ({c with Ez := c.Ez, Step := c.Step + 1} : aa3) = {c with Step := c.Step + 1} := rfl
 rw [e] at kn
 unfold aM1 bi6
 rw [ab3 (n := c.Step + 1) (by omega) (by omega), bd1, Option.bind_some, bd1, Option.bind_some, kn, hk]
 by_cases hc : 0 ≤ bp6 c c.Step
 ·rw [decide_eq_true hc] at hk
  have hkn := bR1 hp hro h0 h2 hk
  rw [hkn, if_pos hc, decide_eq_true hc]
  simp only [false_eq_true, if_false, Bool.or_true, Bool.not_true, Option.bind_some]
  have hc2 := cH5 hp hro h0 h2 hk
  unfold aE3 at hc2
  rcases hc2 with ⟨⟨g1, g2⟩, g3⟩ | ⟨g1, g3⟩
  ·rw [decide_eq_true g1, decide_eq_true g2, g3]
   have eU : ak6 c.Key = some (usr c) := a49 h.key
   have e2 : wrap .i64 (2 + (List.length (usr c) : Int)) = (((usr c).length + 2 : Nat) : Int) := by rw [ab3 (by omega) (by omega)]; omega
   have e3 : (((usr c).length : Int) + 2).toNat = (usr c).length + 2 := by omega
   simp only [Bool.and_self, if_true, eU, Option.bind_some, e2, e3]
   rw [bF5 (by omega) hsl]; rfl
  ·have e1 : (decide (c.Pz = [109, 117, 116, 117, 97, 108]) && decide (c.Rz = 2)) = false := by
    rw [Bool.and_eq_false_iff, decide_eq_false_iff_not, decide_eq_false_iff_not]
    exact Classical.not_and_iff_not_or_not.1 g1
   rw [e1, g3]
   simp only [false_eq_true, if_false]
   have := @bF5 s 0 (by omega) hsl
   rw [show ((0 : Nat) : Int) = 0 from rfl] at this
   rw [this]; rfl
 ·rw [if_neg hc, decide_eq_false hc]
  cases at5 c <;> rfl
theorem bY0 (h : Tl c) (hr : af9 c = true) (s : Str) (hsl : s.length ≤ 1000000) : aZ0 c s = some (aE2 c s) := by
 obtain ⟨_, _, hp, hro, hok, ho, h0, _⟩ := ax8 hr
 unfold aZ0 aE2
 by_cases q : c.Hz = 2
 case neg => simp [q]
 obtain ⟨hm, h2, hu, he, hph, hs, hpe⟩ := aW2 hr q
 rw [if_pos q, decide_eq_true q, Bool.not_true, if_neg (by simp), cc4 h hr q hsl, Option.bind_some]
 cases hl : bi6 c s with
 | none => rfl
 | some p =>
  have hpl : p.length ≤ 100000 := by
   unfold bi6 at hl
   split at hl
   ·have := bF2 hl; omega
   ·obtain rfl := Option.some.inj hl; exact h.peer
  have hsp : ar8 c p = some (bX6 c p) := by
   unfold ar8 bX6
   by_cases q : c.Rz = 1
   ·simp only [q, decide_true, if_true, a89 h hp ⟨h0, h2⟩ (cl := c.Own) (sv := p) h.own hpl, Option.bind_some]
   ·simp only [q, decide_false, false_eq_true, if_false, a89 h hp ⟨h0, h2⟩ (cl := p) (sv := c.Own) hpl h.own, Option.bind_some]
  have hset := aZ6 (c := {c with Ez := p, Step := c.Step + 1}) h.key hu
  show ((if (!true) = true then some true else (ar8 c p).bind fun x4 => some (!decide (x4 = s))).bind _) = some (bB5 c s p)
  rw [hsp]
  unfold bB5
  by_cases z : bX6 c p = s
  ·rw [if_pos z]
   simp only [Bool.not_true, false_eq_true, if_false, Option.bind_some, decide_eq_true z]
   rw [ab3 (by omega) (by omega)]
   show ((at0 {c with Step := c.Step + 1, Ez := p}).bind fun x7 => some (x7, (0 : Int))) = _
   rw [hset]; rfl
  ·rw [if_neg z]
   simp only [Bool.not_true, false_eq_true, if_false, Option.bind_some, decide_eq_false z, Bool.not_false, if_true]
   rfl
theorem bz6 (l : Str) (c : UInt8) : (c ∉ l ∧ Go.Lib.indexByte l c = -1) ∨ ∃ a b, l = a ++ c :: b ∧ c ∉ a ∧ Go.Lib.indexByte l c = (a.length : Int) := by
 induction l with
 | nil => exact .inl ⟨by simp, rfl⟩
 | cons x r ih =>
  by_cases hx : x = c
  ·subst hx
   exact .inr ⟨[], r, rfl, by simp, by simp [Go.Lib.indexByte]⟩
  ·have hx' : (x == c) = false := by simpa using hx
   rcases ih with ⟨h1, h2⟩ | ⟨a, b, h1, h2, h3⟩
   ·refine .inl ⟨by simp [h1, Ne.symm hx], ?_⟩
    simp [Go.Lib.indexByte, hx', h2]
   ·refine .inr ⟨x :: a, b, by rw [h1]; rfl, by simp [h2, Ne.symm hx], ?_⟩
    have : ¬ ((a.length : Int) = -1) := by omega
    simp [Go.Lib.indexByte, hx', h3, this]
def bR9 : Str → Option (Str × Str)
 | [] => none
 | c :: r => if c = 32 then some ([], r) else match bR9 r with | some x => some (c :: x.1, x.2) | none => none
theorem bR4 : ∀ {l : Str}, (32 : UInt8) ∉ l → bR9 l = none
 | [], _ => rfl
 | c :: r, h => by
  simp only [mem_cons, not_or] at h
  rw [bR9, if_neg (fun e => h.1 e.symm), bR4 h.2]
theorem bK7 : ∀ {x b : Str}, (32 : UInt8) ∉ x → bR9 (x ++ 32 :: b) = some (x, b)
 | [], b, _ => by rw [List.nil_append, bR9, if_pos rfl]
 | c :: r, b, h => by
  simp only [mem_cons, not_or] at h
  rw [List.cons_append, bR9, if_neg (fun e => h.1 e.symm), bK7 h.2]
theorem cP5 {l : Str} (h : l.length ≤ 1000000) : strings_Cut l [32] = some (match bR9 l with | some x => (x.1, x.2, true) | none => (l, [], false)) := by
 unfold strings_Cut stringslite_Cut
 rcases bz6 l 32 with ⟨h1, h2⟩ | ⟨x, y, rfl, h2, h3⟩
 ·have : stringslite_Index l [32] = some (-1) := by show some _ = _; rw [h2]
  rw [this, bR4 h1]; rfl
 ·have : stringslite_Index (x ++ 32 :: y) [32] = some (x.length : Int) := by show some _ = _; rw [h3]
  simp only [length_append, length_cons] at h
  have e1 : cut (x ++ 32 :: y) 0 (x.length : Int) = some x := by
   rw [aO5 (by simp)]; simp
  have e2 : cut (x ++ 32 :: y) (wrap .i64 ((x.length : Int) + (List.length ([32] : Str) : Int))) (List.length (x ++ 32 :: y) : Int) = some y := by
   have hw : wrap .i64 ((x.length : Int) + (List.length ([32] : Str) : Int)) = ((x.length + 1 : Nat) : Int) := by
    rw [ab3 (by simp; omega) (by simp; omega)]; simp
   rw [hw, ay2 (by simp)]
   rw [show (x ++ 32 :: y) = (x ++ [32]) ++ y by simp, drop_left' (by simp)]
  have h0 : (0 : Int) ≤ (x.length : Int) := by omega
  rw [this, bK7 h2, Option.bind_some, decide_eq_true h0, if_pos rfl, e1, Option.bind_some, e2]; rfl
theorem bK8 {l w : Str} (hl : l.length ≤ 1000000) (hw : w.length ≤ 1000) : aG3 l w = some (if (w ++ [32]).isPrefixOf l = true then (l.drop (w.length + 1), true) else ([], false)) := by
 unfold aG3
 have e1 : wrap .i64 ((List.length w : Int) + 1) = ((w.length + 1 : Nat) : Int) := by rw [ab3 (by omega) (by omega)]; omega
 have e2 : aj2 w [32] = some (w ++ [32]) := aa7 (by simp; omega)
 rw [e1, e2]
 by_cases h : l.length < w.length + 1
 ·have h' : (List.length l : Int) < ((w.length + 1 : Nat) : Int) := by omega
  have hn : ¬ (w ++ [32]).isPrefixOf l = true := by
   rw [isPrefixOf_iff_prefix]
   intro hp
   have := hp.length_le
   simp at this; omega
  rw [decide_eq_true h', if_pos rfl, if_neg hn]; rfl
 ·have h' : ¬ (List.length l : Int) < ((w.length + 1 : Nat) : Int) := by omega
  rw [decide_eq_false h', if_neg (by simp), aO5 (by omega), Option.bind_some, Option.bind_some, Option.bind_some]
  by_cases q : l.take (w.length + 1) = w ++ [32]
  ·have hp : (w ++ [32]).isPrefixOf l = true := by
    rw [isPrefixOf_iff_prefix, ← q]; exact List.take_prefix _ _
   rw [decide_eq_true q, if_pos hp, Bool.not_true, if_neg (by simp), ay2 (by omega)]; rfl
  ·have hn : ¬ (w ++ [32]).isPrefixOf l = true := by
    rw [isPrefixOf_iff_prefix]
    rintro ⟨t, rfl⟩
    apply q
    rw [List.take_left' (by simp)]
   rw [decide_eq_false q, if_neg hn]; rfl
theorem bz7 : ∀ {l x y : Str}, bR9 l = some (x, y) → l = x ++ 32 :: y
 | c :: r, x, y, h => by
  rw [bR9] at h
  split at h
  ·rename_i q
   simp only [Option.some.injEq, Prod.mk.injEq] at h
   rw [← h.1, ← h.2, q]; rfl
  ·split at h
   ·rename_i z hz
    simp only [Option.some.injEq, Prod.mk.injEq] at h
    have := bz7 (x := z.1) (y := z.2) hz
    rw [← h.1, ← h.2, this]; rfl
   ·cases h
theorem cm9 {w l : Str} (hw : (32 : UInt8) ∉ w) : (if (w ++ [32]).isPrefixOf l = true then (l.drop (w.length + 1), true) else ([], false)) = (match bR9 l with | some x => if x.1 = w then (x.2, true) else ([], false) | none => ([], false)) := by
 by_cases h : (w ++ [32]).isPrefixOf l = true
 ·rw [if_pos h]
  rw [isPrefixOf_iff_prefix] at h
  obtain ⟨t, rfl⟩ := h
  have e : w ++ [32] ++ t = w ++ 32 :: t := by simp
  rw [drop_left' (by simp), e, bK7 hw]
  simp
 ·rw [if_neg h]
  cases hc : bR9 l with
  | none => rfl
  | some x =>
   have : ¬ x.1 = w := by
    rintro rfl
    apply h
    rw [isPrefixOf_iff_prefix, bz7 hc]
    exact ⟨x.2, by simp⟩
   simp [this]
def bR5 (p : List aa1) (l : List (List aa1)) : Int := ixF (fun k => decide (pub k = p)) l 0
def cH6 (a : aa2) (s : Str) : aa2 × Int :=
 if (af0 s).2.2 = 0 then (if b50 (af0 s).1 = true then (if 0 ≤ bR5 (pub (af0 s).1) a.Kz then ({a with Kz := a.Kz.set (bR5 (pub (af0 s).1) a.Kz).toNat (af0 s).1}, 0) else if 64 ≤ (List.length a.Kz : Int) then (a, 22) else ({a with Kz := a.Kz ++ [(af0 s).1]}, 0)) else (a, 52)) else (a, (af0 s).2.2)
def bm4 (p : List aa1) (l : List (List aa1)) : List (List aa1) := l.filter fun k => !(p.all (aL4 k))
def cH7 (a : aa2) (s : Str) : aa2 × Int :=
 if (af0 s).2.2 = 0 then (if (List.length (bm4 (af0 s).1 a.Kz) : Int) = (List.length a.Kz : Int) then (a, 52) else ({a with Kz := bm4 (af0 s).1 a.Kz}, 0)) else (a, (af0 s).2.2)
def cB8 : Str := [107, 101, 121]
def cB9 : Str := [100, 101, 108, 107, 101, 121]
def bB6 (a : aa2) (line : Str) : aa2 × Int := match bR9 line with
 | some x => if x.1 = cB8 then cH6 a x.2 else if x.1 = cB9 then cH7 a x.2 else (a, 54)
 | none => (a, 54)
theorem bd5 (p : List aa1) (l : List (List aa1)) : (bR5 p l = -1 ∧ ∀ k ∈ l, pub k ≠ p) ∨ ∃ i, ∃ h : i < l.length, bR5 p l = (i : Int) ∧ pub l[i] = p := by
 unfold bR5
 rcases bf7 (fun k => decide (pub k = p)) l 0 with ⟨h1, h2⟩ | ⟨x, k, y, h1, h2, h3, h4⟩
 ·exact .inl ⟨h2, fun k hk => by simpa using h1 k hk⟩
 ·refine .inr ⟨x.length, by rw [h1]; simp, by rw [h4]; simp, ?_⟩
  have hk : l[x.length]? = some k := by rw [h1]; simp
  have hi : x.length < l.length := by rw [h1]; simp
  rw [List.getElem?_eq_getElem hi] at hk
  rw [Option.some.inj hk]
  exact of_decide_eq_true h2
theorem bY1 {l : Str} {x : Str × Str} (h : bR9 l = some x) : x.2.length ≤ l.length := by
 have := bz7 (x := x.1) (y := x.2) h
 rw [this]; simp; omega
theorem cy0 {l : List (List aa1)} {k : List aa1} (hl : l.length ≤ 1000000) (h : ∀ o ∈ l, o.length ≤ 1000000) (hk : k.length ≤ 1000000) : ae6 l k = some (bR5 (pub k) l) := by
 unfold ae6 bR5
 refine bw3 l _ _ (fun i hi => ?_) ?_
 ·simp only [ad2, dlt hi, if_true, aa6 hi, Option.bind_some, bc2, b48 (h _ (getElem_mem hi)) hk]
  rw [ab0 (by omega)]
  cases decide (pub l[i] = pub k) <;> rfl
 ·simp [ad2]
theorem cP6 (h : Lim a) {s : Str} (hs : s.length ≤ 2000) : bg0 a s = some (cH6 a s) := by
 have h1 := h.keys
 have hk := aZ8 hs
 unfold bg0 cH6
 rw [ap9 h, Option.bind_some, bJ5 (by omega), Option.bind_some]
 by_cases he : (af0 s).2.2 = 0
 case neg => rw [if_neg he, decide_eq_false he]; rfl
 rw [if_pos he, decide_eq_true he, Bool.not_true, if_neg (by simp), cA9 hk, Option.bind_some]
 cases b50 (af0 s).1 with
 | false => rfl
 | true =>
  rw [Bool.not_true, if_neg (by simp), if_pos rfl, cy0 (by omega) (fun k hk => (h.key k hk).le) hk.le, Option.bind_some]
  rcases bd5 (pub (af0 s).1) a.Kz with ⟨q, _⟩ | ⟨i, hi, q, _⟩
  ·simp only [q, show ¬ (0 : Int) ≤ -1 by omega, decide_false, false_eq_true, if_false]
   by_cases q64 : 64 ≤ (List.length a.Kz : Int)
   ·rw [decide_eq_true q64, if_pos rfl, if_pos q64]
   ·rw [decide_eq_false q64, if_neg (by simp), if_neg q64, af3 (by simp; omega) (by simp; omega)]; rfl
  ·have h0 : (0 : Int) ≤ (i : Int) := by omega
   rw [q, decide_eq_true h0, if_pos rfl, if_pos h0, aa6 hi]; rfl
theorem cn0 {α : Type} {p : α → Bool} (Q : α → Prop) {l : List α} {body : Int × Int × List α → Option (Step (Int × Int × List α) (List α))} (hl : l.length ≤ 1000000)
  (hQ : ∀ x ∈ l, Q x) (hb : ∀ (i j : Nat) (s : List α) (hi : i < s.length) (hj : j < s.length), Q s[j] → body ((i : Int), (j : Int), s) = if !p s[j] then some (.cont (wrap .i64 ((i : Int) + 1), wrap .i64 ((j : Int) + 1), s.set i s[j])) else some (.cont ((i : Int), wrap .i64 ((j : Int) + 1), s)))
  (he : ∀ (i : Nat) (s : List α), i ≤ s.length → body ((i : Int), (s.length : Int), s) = some (.done (s.take i))) {i0 : Nat} (h0 : i0 < l.length) (hp0 : p l[i0] = true) (hbef : ∀ a ∈ l.take i0, p a = false) :
  ab1 body ((i0 : Int), wrap .i64 ((i0 : Int) + 1), l) = some (l.filter fun a => !p a) := by
 have hw0 : wrap .i64 ((i0 : Int) + 1) = ((i0 + 1 : Nat) : Int) := by rw [ab3 (by omega) (by omega)]; omega
 rw [hw0]
 have hf0 : (l.take (i0 + 1)).filter (fun a => !p a) = l.take i0 := by
  rw [take_succ_eq_append_getElem h0, filter_append, List.filter_eq_self.2 (fun a ha => by simp [hbef a ha])]
  simp [hp0]
 refine (aq2 (σ := Nat × Nat × List α) body (fun x => ((x.1 : Int), (x.2.1 : Int), x.2.2)) (fun _ => l.filter fun a => !p a) (fun x => l.length - x.2.1)
  (fun x => (∀ y ∈ x.2.2, Q y) ∧ x.1 < x.2.1 ∧ x.2.1 ≤ l.length ∧ x.2.2.length = l.length ∧ x.2.2.take x.1 = (l.take x.2.1).filter (fun a => !p a) ∧ x.2.2.drop x.2.1 = l.drop x.2.1) ?_ (s0 := (i0, i0 + 1, l)) ⟨hQ, by simp, by simp only; omega, rfl, by simp only; exact hf0.symm, rfl⟩).trans rfl
 rintro ⟨i, j, s⟩ ⟨h0, h1, h2, h3, h4, h5⟩
 simp only at h0 h1 h2 h3 h4 h5
 rcases lt_or_ge j l.length with hj | hj
 ·left
  have hjs : j < s.length := by omega
  have hwi : wrap .i64 ((i : Int) + 1) = ((i + 1 : Nat) : Int) := by rw [ab3 (by omega) (by omega)]; omega
  have hwj : wrap .i64 ((j : Int) + 1) = ((j + 1 : Nat) : Int) := by rw [ab3 (by omega) (by omega)]; omega
  have hsj : s[j] = l[j] := by
   rw [drop_eq_getElem_cons hjs, drop_eq_getElem_cons hj] at h5
   exact (List.cons.inj h5).1
  have h5' : s.drop (j + 1) = l.drop (j + 1) := by
   rw [drop_eq_getElem_cons hjs, drop_eq_getElem_cons hj] at h5
   exact (List.cons.inj h5).2
  simp only
  rw [hb i j s (by omega) hjs (h0 _ (getElem_mem hjs))]
  cases hp : p s[j] with
  | true =>
   refine ⟨(i, j + 1, s), ?_, by trivial, ⟨h0, by simp only; omega, by simp only; omega, h3, ?_, h5'⟩, by simp only; omega⟩
   ·simp only [Bool.not_true, false_eq_true, if_false, hwj]
   ·simp only
    rw [h4, take_succ_eq_append_getElem hj, filter_append]
    simp [← hsj, hp]
  | false =>
   refine ⟨(i + 1, j + 1, s.set i s[j]), ?_, by trivial, ⟨fun y hy => (mem_or_eq_of_mem_set hy).elim (h0 y) (fun e => e ▸ h0 _ (getElem_mem hjs)), by simp only; omega, by simp only; omega, by simp [h3], ?_, ?_⟩, by simp only; omega⟩
   ·simp only [Bool.not_false, if_true, hwi, hwj]
   ·simp only
    rw [take_succ_eq_append_getElem (by simp; omega), List.getElem_set_self, List.take_set_of_le (le_refl _), h4, take_succ_eq_append_getElem hj, filter_append]
    simp [← hsj, hp]
   ·simp only
    rw [List.drop_set_of_lt (by omega)]; exact h5'
 ·right
  have : j = s.length := by omega
  subst this
  simp only
  rw [he i s (by omega), h4, List.take_of_length_le hj]
theorem cH8 {l : List (List aa1)} {p : List aa1} (hl : l.length ≤ 1000000) (h : ∀ o ∈ l, o.length ≤ 1000000) (hp : p.length ≤ 1000000) : ad4 l p = some (bm4 p l) := by
 unfold ad4 bm4
 have hix : ae7 l p = some (bj0 (fun k => p.all (aL4 k)) l) := by
  unfold ae7
  refine aZ4 hl ?_ ?_
  ·intro i hi
   simp only [ad3, dlt hi, if_true, aa6 hi, Option.bind_some, az7, bl7 (h _ (getElem_mem hi)) hp]
  ·simp [ad3]
 rw [hix, Option.bind_some]
 rcases bh4 (fun k => p.all (aL4 k)) l with ⟨h1, h2⟩ | ⟨i, hi, h1, h2, h3⟩
 ·rw [h1, List.filter_eq_self.2 (fun a ha => by simp only [h2 a ha]; rfl)]; rfl
 ·have : ¬ ((i : Int) = -1) := by omega
  rw [h1]
  simp only [this, decide_false, false_eq_true, if_false]
  refine cn0 (p := fun k => p.all (aL4 k)) (fun k : List aa1 => k.length ≤ 1000000) hl h ?_ ?_ hi h2 h3
  ·intro i j s hi hj hq
   simp only [ac0, dlt hj, if_true, aa6 hj, aa6 hi, Option.bind_some, az7, bl7 hq hp, toNat_natCast]
  ·intro i s hi
   simp only [ac0, dge, false_eq_true, if_false, af4, aO5 hi, Option.bind_some, map_some]
theorem cn1 (h : Lim a) {s : Str} (hs : s.length ≤ 2000) : aS0 a s = some (cH7 a s) := by
 have h1 := h.keys
 have hk := aZ8 hs
 unfold aS0 cH7
 rw [ap9 h, Option.bind_some, bJ5 (by omega), Option.bind_some]
 by_cases he : (af0 s).2.2 = 0
 case neg => rw [if_neg he, decide_eq_false he]; rfl
 rw [if_pos he, decide_eq_true he, Bool.not_true, if_neg (by simp), cH8 (by omega) (fun k hk => (h.key k hk).le) hk.le, Option.bind_some]
 by_cases q : (List.length (bm4 (af0 s).1 a.Kz) : Int) = (List.length a.Kz : Int)
 ·rw [decide_eq_true q, if_pos rfl, if_pos q]; rfl
 ·rw [decide_eq_false q, if_neg (by simp), if_neg q]
theorem aN7 (h : Lim a) {l : Str} (hl : l.length ≤ 2000) : ah5 a l = some (bB6 a l) := by
 unfold ah5 bB6
 rw [cP5 (by omega), Option.bind_some]
 cases hc : bR9 l with
 | none =>
  simp only [Bool.false_and, false_eq_true, if_false, ap9 h, Option.bind_some]
 | some x =>
  have hx := bY1 hc
  simp only [Bool.true_and]
  by_cases q1 : x.1 = cB8
  ·have q1' := q1; unfold cB8 at q1'
   rw [decide_eq_true q1', if_pos rfl, if_pos q1, cP6 h (by omega)]; rfl
  ·have q1' := q1; unfold cB8 at q1'
   rw [decide_eq_false q1', if_neg (by simp), if_neg q1]
   by_cases q2 : x.1 = cB9
   ·have q2' := q2; unfold cB9 at q2'
    rw [decide_eq_true q2', if_pos rfl, if_pos q2, cn1 h (by omega)]; rfl
   ·have q2' := q2; unfold cB9 at q2'
    rw [decide_eq_false q2', if_neg (by simp), if_neg q2, ap9 h]; rfl
theorem cH9 {k : List aa1} (h : k.length ≤ 1000000) : ar4 k = some (pub k) := aS4 h
theorem cI0 (h : Lim a) : aE5 24 ([] : List (List aa1)) a.Kz = some a.Kz := by
 have h1 := h.keys
 rw [af3 (by simp; omega) (by simp; omega)]; rfl
theorem cI1 (h : Lim a) {s : Str} (hs : s.length ≤ 2000) : ab1 (fun z => am0 a (af0 s) z.1 z.2) (0, ([] : List (List aa1))) = some (if (List.length (bm4 (af0 s).1 a.Kz) : Int) = (List.length a.Kz : Int) then (a, 52) else ({a with Kz := bm4 (af0 s).1 a.Kz}, 0)) := by
 have h1 := h.keys
 have hk := aZ8 hs
 refine (ad1 a.Kz.length (fun (z : List (List aa1)) i => (i, z)) (fun z => am0 a (af0 s) z.1 z.2) (fun i z => if (List.length (z ++ bm4 (af0 s).1 (a.Kz.drop i)) : Int) = (List.length a.Kz : Int) then (a, (52 : Int)) else ({a with Kz := z ++ bm4 (af0 s).1 (a.Kz.drop i)}, 0)) (fun i z => z.length ≤ i) (s0 := []) (by simp) ?_ ?_).trans rfl
 ·intro z i hi hz
  left
  have ho := (h.key _ (getElem_mem hi)).le
  have hd : bm4 (af0 s).1 (a.Kz.drop i) = (if (!((af0 s).1.all (aL4 a.Kz[i]))) = true then [a.Kz[i]] else []) ++ bm4 (af0 s).1 (a.Kz.drop (i + 1)) := by
   unfold bm4
   rw [drop_eq_getElem_cons hi, List.filter_cons]
   split <;> rfl
  refine ⟨z ++ (if (!((af0 s).1.all (aL4 a.Kz[i]))) = true then [a.Kz[i]] else []), ?_, ?_, ?_⟩
  ·simp only [am0, dlt hi, if_true, aa6 hi, Option.bind_some, bh5 ho hk.le]
   rw [ab0 (by omega)]
   cases (af0 s).1.all (aL4 a.Kz[i]) with
   | true => simp
   | false =>
    simp only [Bool.not_false, if_true]
    rw [af3 (by simp; omega) (by simp; omega)]; rfl
  ·simp only [hd, List.append_assoc]
  ·split <;> simp <;> omega
 ·intro z hz
  simp only [am0, dge, false_eq_true, if_false, aG4, List.drop_length, bm4, List.filter_nil, List.append_nil]
  by_cases q : (List.length z : Int) = (List.length a.Kz : Int)
  ·simp [q]
  ·simp [q]
theorem bi7 (h : Lim a) {l : Str} (hl : l.length ≤ 2000) : as8 a l = some (bB6 a l) := by
 have h1 := h.keys
 unfold as8 bB6
 rw [bK8 (by omega) (by simp), cm9 (w := [107, 101, 121]) (by decide), Option.bind_some, bK8 (by omega) (by simp), cm9 (w := [100, 101, 108, 107, 101, 121]) (by decide), Option.bind_some]
 cases hc : bR9 l with
 | none => rfl
 | some x =>
  have hx := bY1 hc
  have hs : x.2.length ≤ 2000 := by omega
  have hk := aZ8 hs
  simp only
  by_cases q1 : x.1 = cB8
  ·have q1' := q1; unfold cB8 at q1'
   rw [if_pos q1', if_pos q1]
   unfold cH6
   simp only [if_true]
   rw [bc8 (by omega), Option.bind_some]
   by_cases he : (af0 x.2).2.2 = 0
   case neg => rw [if_neg he, decide_eq_false he]; rfl
   rw [if_pos he, decide_eq_true he, Bool.not_true, if_neg (by simp), b51 hk, Option.bind_some]
   cases b50 (af0 x.2).1 with
   | false => rfl
   | true =>
    rw [Bool.not_true, if_neg (by simp), if_pos rfl, cI0 h, Option.bind_some, cH9 hk.le, Option.bind_some, b49 (by omega) (fun k hk => (h.key k hk).le), Option.bind_some]
    rw [show ixF (fun k => decide (pub k = pub (af0 x.2).1)) a.Kz 0 = bR5 (pub (af0 x.2).1) a.Kz from rfl]
    rcases bd5 (pub (af0 x.2).1) a.Kz with ⟨q, _⟩ | ⟨i, hi, q, _⟩
    ·simp only [q, show ¬ (0 : Int) ≤ -1 by omega, decide_false, false_eq_true, if_false]
     by_cases q64 : 64 ≤ (List.length a.Kz : Int)
     ·rw [decide_eq_true q64, if_pos rfl, if_pos q64]
     ·rw [decide_eq_false q64, if_neg (by simp), if_neg q64, af3 (by simp; omega) (by simp; omega)]; rfl
    ·have h0 : (0 : Int) ≤ (i : Int) := by omega
     rw [q, decide_eq_true h0, if_pos rfl, if_pos h0, aa6 hi]; rfl
  ·have q1' := q1; unfold cB8 at q1'
   rw [if_neg q1', if_neg q1]
   simp only [false_eq_true, if_false]
   by_cases q2 : x.1 = cB9
   ·have q2' := q2; unfold cB9 at q2'
    rw [if_pos q2', if_pos q2]
    unfold cH7
    simp only [Bool.not_true, false_eq_true, if_false]
    rw [bc8 (by omega), Option.bind_some]
    by_cases he : (af0 x.2).2.2 = 0
    case neg => rw [if_neg he, decide_eq_false he]; rfl
    rw [if_pos he, decide_eq_true he, Bool.not_true, if_neg (by simp), cI1 h hs]
   ·have q2' := q2; unfold cB9 at q2'
    rw [if_neg q2', if_neg q2]; rfl
theorem cI2 (v : Val a) {s : Str} (hs : s.length ≤ 2000) : Val (cH6 a s).1 := by
 have o := v.oka
 have hk := aZ8 hs
 unfold cH6
 split
 ·split
  ·rename_i hB
   rcases bd5 (pub (af0 s).1) a.Kz with ⟨q, q2⟩ | ⟨i, hi, q, q2⟩
   ·rw [q, if_neg (by omega)]
    split
    ·exact v
    ·rename_i hn
     refine v.keysTo (by simp; omega) (cm7 o.keys q2 hB) (fun k hk' => ?_)
     rcases mem_append.1 hk' with hk' | hk'
     ·exact v.lim.key k hk'
     ·obtain rfl := mem_singleton.1 hk'; exact hk
   ·rw [q, if_pos (by omega), toNat_natCast]
    refine v.keysTo (by simpa using o.nk) (cx9 o.keys hi q2 hB) (fun k hk' => ?_)
    rcases mem_or_eq_of_mem_set hk' with hk' | rfl
    ·exact v.lim.key k hk'
    ·exact hk
  ·exact v
 ·exact v
theorem cI3 (v : Val a) {s : Str} : Val (cH7 a s).1 := by
 have o := v.oka
 unfold cH7
 split
 ·split
  ·exact v
  ·exact v.keysTo (le_trans (length_filter_le _ _) o.nk) (bX5 o.keys _) (fun k hk => v.lim.key k (List.mem_filter.1 hk).1)
 ·exact v
theorem bm5 (v : Val a) {l : Str} (hl : l.length ≤ 2000) : Val (bB6 a l).1 := by
 unfold bB6
 cases hc : bR9 l with
 | none => exact v
 | some x =>
  have hx := bY1 hc
  show Val (if x.1 = cB8 then cH6 a x.2 else if x.1 = cB9 then cH7 a x.2 else (a, 54)).1
  split
  ·exact cI2 v (by omega)
  ·split
   ·exact cI3 v
   ·exact v
def at7 (sep : UInt8) : Str → Str → List Str
 | acc, [] => [acc]
 | acc, c :: r => if c = sep then acc :: at7 sep [] r else at7 sep (acc ++ [c]) r
theorem bY2 {sep : UInt8} {a : Str} (h : sep ∉ a) (acc : Str) : at7 sep acc a = [acc ++ a] := by
 induction a generalizing acc with
 | nil => simp [at7]
 | cons c r ih =>
  simp only [mem_cons, not_or] at h
  rw [at7, if_neg (fun e => h.1 e.symm), ih h.2]
  simp
theorem cc5 {sep : UInt8} {a b : Str} (h : sep ∉ a) (acc : Str) : at7 sep acc (a ++ sep :: b) = (acc ++ a) :: at7 sep [] b := by
 induction a generalizing acc with
 | nil => simp [at7]
 | cons c r ih =>
  simp only [mem_cons, not_or] at h
  rw [List.cons_append, at7, if_neg (fun e => h.1 e.symm), ih h.2]
  simp
theorem a90 {sep : UInt8} : ∀ (p acc : Str), ∀ x ∈ at7 sep acc p, x.length ≤ acc.length + p.length
 | [], acc, x, h => by simp [at7] at h; subst h; simp
 | c :: r, acc, x, h => by
  unfold at7 at h
  split at h
  ·rcases mem_cons.1 h with rfl | h
   ·omega
   ·have := a90 r [] x h
    simp at this ⊢; omega
  ·have := a90 r (acc ++ [c]) x h
   simp at this ⊢; omega
theorem bm6 {sep : UInt8} : ∀ (p acc : Str), (at7 sep acc p).length ≤ p.length + 1
 | [], acc => by simp [at7]
 | c :: r, acc => by
  unfold at7
  split
  ·have := bm6 (sep := sep) r []; simp; omega
  ·have := bm6 (sep := sep) r (acc ++ [c]); simp; omega
theorem bY3 {p : Str} {sep : UInt8} (h : p.length ≤ 1000000000) : aA4 p [sep] 0 (-1) = some (at7 sep [] p) := by
 unfold aA4
 simp only [show decide ((-1 : Int) = 0) = false from rfl, show decide (([sep] : Str) = []) = false by simp, show decide ((-1 : Int) < 0) = true from rfl, if_true, false_eq_true, if_false]
 have hcnt : strings_Count p [sep] = some ((p.count sep : Nat) : Int) := rfl
 have hle : p.count sep ≤ p.length := List.count_le_length
 rw [hcnt, Option.bind_some, ab3 (by omega) (by omega)]
 unfold as6
 have hmin : min ((p.count sep : Int) + 1) (wrap .i64 ((List.length p : Int) + 1)) = ((p.count sep + 1 : Nat) : Int) := by
  rw [ab3 (by omega) (by omega)]; omega
 have hmk : mkC 16 ([] : Str) (((p.count sep + 1 : Nat) : Int)) (((p.count sep + 1 : Nat) : Int)) = some (List.replicate (p.count sep + 1) []) := by
  unfold mkC
  rw [if_pos ⟨by omega, by omega, by omega, by omega⟩, toNat_natCast]
 have hlim : wrap .i64 (((p.count sep + 1 : Nat) : Int) - 1) = ((p.count sep : Nat) : Int) := by rw [ab3 (by omega) (by omega)]; omega
 rw [hmin, hmk, Option.bind_some]
 refine (ad1 (τ := Str × Int × List Str) (p.count sep) (fun (s : Str × List Str) i => (s.1, i, s.2)) (fun s => ak3 p [sep] 0 ((p.count sep : Int) + 1) s.1 s.2.1 s.2.2)
  (fun i s => s.2.take i ++ at7 sep [] s.1) (fun i s => i + s.1.count sep = p.count sep ∧ s.2.length = p.count sep + 1 ∧ s.1.length ≤ p.length) (s0 := (p, List.replicate (p.count sep + 1) [])) ⟨by simp, by simp, le_refl _⟩ ?_ ?_).trans ?_
 ·rintro ⟨s, a⟩ i hi ⟨h1, h2, h3⟩
  simp only at h1 h2 h3
  left
  rcases bz6 s sep with ⟨hn, _⟩ | ⟨x, y, rfl, hx, hix⟩
  ·have : s.count sep = 0 := count_eq_zero.2 hn
   omega
  ·have hidx : strings_Index (x ++ sep :: y) [sep] = some (x.length : Int) := by
    show some _ = _
    rw [hix]
   simp only [length_append, length_cons] at h3
   have hia : i < a.length := by omega
   have e1 : cut (x ++ sep :: y) 0 (wrap .i64 ((x.length : Int) + 0)) = some x := by
    rw [ab3 (by omega) (by omega), Int.add_zero, aO5 (by simp)]
    simp
   have e2 : cut (x ++ sep :: y) (wrap .i64 ((x.length : Int) + (List.length ([sep] : Str) : Int))) (List.length (x ++ sep :: y) : Int) = some y := by
    have hw : wrap .i64 ((x.length : Int) + (List.length ([sep] : Str) : Int)) = ((x.length + 1 : Nat) : Int) := by
     rw [ab3 (by simp; omega) (by simp; omega)]; simp
    rw [hw, ay2 (by simp)]
    rw [show (x ++ sep :: y) = (x ++ [sep]) ++ y by simp, drop_left' (by simp)]
   have hneg : ¬ ((x.length : Int) < 0) := by omega
   have hcond : (i : Int) < ((p.count sep : Nat) : Int) := by omega
   refine ⟨(y, a.set i x), ?_, ?_, ?_, by simp [h2], by simp; omega⟩
   ·simp only [ak3, hmin, hlim, hcond, decide_true, if_true, hidx, Option.bind_some, hneg, decide_false, false_eq_true, if_false, e1, e2, aa6 hia, toNat_natCast]
    rw [cF8 hi (by unfold maxLen; omega)]
   ·simp only
    rw [cc5 hx, take_succ_eq_append_getElem (by simp; omega), List.getElem_set_self, List.take_set_of_le (le_refl _)]
    simp
   ·simp only [List.count_append, List.count_cons, count_eq_zero.2 hx] at h1
    simp at h1 ⊢
    omega
 ·rintro ⟨s, a⟩ ⟨h1, h2, h3⟩
  simp only at h1 h2 h3
  have hc : s.count sep = 0 := by omega
  have hia : p.count sep < a.length := by omega
  have hcond : ¬ (((p.count sep : Nat) : Int) < ((p.count sep : Nat) : Int)) := by omega
  have e1 : cut (set a (p.count sep) s) 0 (wrap .i64 (((p.count sep : Nat) : Int) + 1)) = some (List.take (p.count sep) a ++ [s]) := by
   rw [ab3 (by omega) (by omega)]
   have := aO5 (l := set a (p.count sep) s) (b := p.count sep + 1) (by simp; omega)
   rw [show ((p.count sep + 1 : Nat) : Int) = ((p.count sep : Nat) : Int) + 1 by omega] at this
   rw [this, take_succ_eq_append_getElem (by simp; omega), List.getElem_set_self, List.take_set_of_le (le_refl _)]
  simp only [ak3, as5, hmin, hlim, hcond, decide_false, false_eq_true, if_false, aa6 hia, Option.bind_some, toNat_natCast, e1, map_some]
  rw [bY2 (count_eq_zero.1 hc)]
  rfl
 ·simp
theorem cy1 {p : Str} {sep : UInt8} (h : p.length ≤ 1000000000) : aL9 p [sep] = some (at7 sep [] p) := by
 unfold aL9
 rw [bY3 h]; rfl
def aR3 (a0 : aa2) : List Str → aa2 → aa2 × Int
 | [], b => (b, 0)
 | l :: r, b => if l = [] then aR3 a0 r b else if (bB6 b l).2 = 0 then aR3 a0 r (bB6 b l).1 else (a0, (bB6 b l).2)
def aE6 (s : Str) : List Str := at7 10 [] s
theorem bK9 {a0 : aa2} (v0 : Val a0) : ∀ {l : List Str} {b : aa2}, Val b → (∀ x ∈ l, x.length ≤ 2000) → Val (aR3 a0 l b).1
 | [], b, v, _ => v
 | x :: r, b, v, h => by
  unfold aR3
  split
  ·exact bK9 v0 v fun y hy => h y (by simp [hy])
  ·split
   ·exact bK9 v0 (bm5 v (h x (by simp))) fun y hy => h y (by simp [hy])
   ·exact v0
theorem bY4 (v : Val a) {s : Str} (hs : s.length ≤ 2000) : aH2 a s = some ((aR3 a (aE6 s) a).1, if (aR3 a (aE6 s) a).2 = 0 then (List.length s : Int) else 0, (aR3 a (aE6 s) a).2) := by
 have hm : ∀ x ∈ aE6 s, x.length ≤ 2000 := fun x hx => by
  have := a90 (sep := 10) s [] x hx
  simp at this; omega
 have hn : (aE6 s).length ≤ 2001 := by
  have := bm6 (sep := 10) s []
  unfold aE6; omega
 unfold aH2
 rw [ap9 v.lim, Option.bind_some, cy1 (by omega), Option.bind_some]
 show ab1 (fun z => aj8 a s (aE6 s) z.1 z.2) (0, a) = _
 refine (ad1 (aE6 s).length (fun (b : aa2) i => (i, b)) (fun z => aj8 a s (aE6 s) z.1 z.2) (fun i b => ((aR3 a ((aE6 s).drop i) b).1, if (aR3 a ((aE6 s).drop i) b).2 = 0 then (List.length s : Int) else 0, (aR3 a ((aE6 s).drop i) b).2)) (fun _ b => Val b) (s0 := a) v ?_ ?_).trans rfl
 ·intro b i hi vb
  have hl := hm _ (getElem_mem hi)
  rw [drop_eq_getElem_cons hi]
  simp only [aj8, dlt hi, if_true, aa6 hi, Option.bind_some, aR3]
  by_cases q : (aE6 s)[i] = []
  ·left
   refine ⟨b, ?_, by simp [q], vb⟩
   simp only [q, decide_true, if_true]
   rw [ab0 (by omega)]
  ·simp only [q, decide_false, false_eq_true, if_false, aN7 vb.lim hl, Option.bind_some]
   by_cases e : (bB6 b (aE6 s)[i]).2 = 0
   ·left
    refine ⟨(bB6 b (aE6 s)[i]).1, ?_, by simp [e], bm5 vb hl⟩
    simp only [e, decide_true, Bool.not_true, false_eq_true, if_false]
    rw [ab0 (by omega)]
   ·right
    simp only [e, decide_false, Bool.not_false, if_true, if_false, ap9 v.lim, Option.bind_some]
 ·intro b vb
  simp [aj8, aR3]
theorem bB7 (v : Val a) {s : Str} (hs : s.length ≤ 2000) : aI0 a s = some (aR3 a (aE6 s) a) := by
 unfold aI0
 refine (aq2 (σ := Nat × Nat × aa2) (fun z => ao6 a s z.1 z.2.1 z.2.2) (fun z => ((z.1 : Int), (z.2.1 : Int), z.2.2))
  (fun z => if z.2.1 ≤ s.length then aR3 a (at7 10 ((s.drop z.1).take (z.2.1 - z.1)) (s.drop z.2.1)) z.2.2 else (z.2.2, 0)) (fun z => s.length + 1 - z.2.1) (fun z => z.1 ≤ z.2.1 ∧ z.2.1 ≤ s.length + 1 ∧ Val z.2.2) ?_ (s0 := (0, 0, a)) ⟨by simp, by simp, v⟩).trans (by simp [aE6])
 rintro ⟨f, i, b⟩ ⟨h1, h2, vb⟩
 simp only at h1 h2 vb ⊢
 have hw : wrap .i64 ((i : Int) + 1) = ((i + 1 : Nat) : Int) := by rw [ab3 (by omega) (by omega)]; omega
 by_cases hi : i ≤ s.length
 case neg =>
  right
  have : ¬ (i : Int) ≤ (List.length s : Int) := by omega
  simp only [ao6, this, hi, decide_false, false_eq_true, if_false]
 have hi' : (i : Int) ≤ (List.length s : Int) := by omega
 rw [if_pos hi]
 simp only [ao6, hi', decide_true, if_true, hw]
 have hcut : cut s (f : Int) (i : Int) = some ((s.drop f).take (i - f)) := by
  unfold cut
  rw [if_pos ⟨by omega, by omega, by omega⟩, toNat_natCast, toNat_natCast, List.drop_take]
 have hlen : ((s.drop f).take (i - f)).length = i - f := by simp; omega
 have hne : decide ((f : Int) < (i : Int)) = !decide (((s.drop f).take (i - f)) = []) := by
  rw [Bool.eq_iff_iff]
  simp only [decide_eq_true_eq, not_eq_true', decide_eq_false_iff_not]
  constructor
  ·intro h e
   rw [e] at hlen
   simp at hlen; omega
  ·intro h
   have : (s.drop f).take (i - f) ≠ [] := h
   have := List.length_pos_iff.2 this
   omega
 have hll : ((s.drop f).take (i - f)).length ≤ 2000 := by omega
 generalize hL : (s.drop f).take (i - f) = L at hcut hlen hne hll ⊢
 have hend : ∀ R : List Str, (∀ b', Val b' → (if i + 1 ≤ s.length then aR3 a (at7 10 ((s.drop (i + 1)).take (i + 1 - (i + 1))) (s.drop (i + 1))) b' else (b', 0)) = aR3 a R b') →
   (∃ s' : Nat × Nat × aa2, (if decide ((f : Int) < (i : Int)) = true then (cut s (f : Int) (i : Int)).bind fun x27 => (as8 b x27).bind fun x28 => if (!decide (x28.2 = 0)) = true then some (Step.done (a, x28.2)) else some (Step.cont (((i + 1 : Nat) : Int), ((i + 1 : Nat) : Int), x28.1)) else some (Step.cont (((i + 1 : Nat) : Int), ((i + 1 : Nat) : Int), b))) = some (Step.cont ((s'.1 : Int), (s'.2.1 : Int), s'.2.2)) ∧ aR3 a (L :: R) b = (if s'.2.1 ≤ s.length then aR3 a (at7 10 ((s.drop s'.1).take (s'.2.1 - s'.1)) (s.drop s'.2.1)) s'.2.2 else (s'.2.2, 0)) ∧ (s'.1 ≤ s'.2.1 ∧ s'.2.1 ≤ s.length + 1 ∧ Val s'.2.2) ∧ s.length + 1 - s'.2.1 < s.length + 1 - i) ∨
   (if decide ((f : Int) < (i : Int)) = true then (cut s (f : Int) (i : Int)).bind fun x27 => (as8 b x27).bind fun x28 => if (!decide (x28.2 = 0)) = true then some (Step.done (a, x28.2)) else some (Step.cont (((i + 1 : Nat) : Int), ((i + 1 : Nat) : Int), x28.1)) else some (Step.cont (((i + 1 : Nat) : Int), ((i + 1 : Nat) : Int), b))) = some (Step.done (aR3 a (L :: R) b)) := by
  intro R hR
  rw [hne, show aR3 a (L :: R) b = if L = [] then aR3 a R b else if (bB6 b L).2 = 0 then aR3 a R (bB6 b L).1 else (a, (bB6 b L).2) from rfl]
  by_cases e : L = []
  ·left
   refine ⟨(i + 1, i + 1, b), ?_, ?_, ⟨by simp, by simp; omega, vb⟩, by simp only; omega⟩
   ·rw [decide_eq_true e]; rfl
   ·rw [if_pos e]; exact (hR b vb).symm
  ·rw [decide_eq_false e, if_neg e, Bool.not_false, if_pos rfl, hcut, Option.bind_some, bi7 vb.lim hll, Option.bind_some]
   by_cases z : (bB6 b L).2 = 0
   ·left
    have vc := bm5 vb hll
    refine ⟨(i + 1, i + 1, (bB6 b L).1), ?_, ?_, ⟨by simp, by simp; omega, vc⟩, by simp only; omega⟩
    ·rw [decide_eq_true z]; rfl
    ·rw [if_pos z]; exact (hR _ vc).symm
   ·right
    rw [decide_eq_false z, if_neg z]; rfl
 rcases lt_or_ge i s.length with h | h
 ·have h' : (i : Int) < (List.length s : Int) := by omega
  have e10 : decide (((s[i]).toNat : Int) = 10) = decide (s[i] = 10) := isC s[i] 10
  rw [decide_eq_true h', if_pos rfl, af7 h, Option.bind_some, e10, Option.bind_some, drop_eq_getElem_cons h, at7]
  by_cases z : s[i] = 10
  ·rw [decide_eq_true z, if_pos z, Bool.not_true, if_neg (by simp)]
   refine hend (at7 10 [] (s.drop (i + 1))) fun b' _ => ?_
   rw [if_pos (by omega), Nat.sub_self, List.take_zero]
  ·left
   rw [decide_eq_false z, if_neg z]
   refine ⟨(f, i + 1, b), rfl, ?_, ⟨by simp only; omega, by simp only; omega, vb⟩, by simp only; omega⟩
   simp only
   rw [if_pos (by omega), show i + 1 - f = (i - f) + 1 by omega, take_succ_eq_append_getElem (by simp; omega), hL]
   congr 2
   congr 1
   rw [List.getElem_drop]
   congr 2
   omega
 ·have : i = s.length := by omega
  subst this
  rw [decide_eq_false (show ¬ ((List.length s : Nat) : Int) < (List.length s : Int) by omega), if_neg (by simp), Option.bind_some, if_neg (by simp), List.drop_length, at7]
  refine hend [] fun b' _ => ?_
  rw [if_neg (by omega)]; rfl
def bp0 (a : aa2) (id : Int) : aa2 := if 0 ≤ aM5 a id then {a with Cz := a.Cz.eraseIdx (aM5 a id).toNat} else a
theorem b62 (v : Val a) {id : Int} (w : -9223372036854775808 ≤ id ∧ id ≤ 9223372036854775807) (m : Int) : aG2 a id m = some (bp0 a id) := by
 have hb := v.base
 unfold aG2 bp0
 rw [ap9 v.lim, Option.bind_some, by5 v w, Option.bind_some]
 rcases aB0 v id with q | ⟨i, hi, q, _⟩
 ·rw [q]; rfl
 ·have h0 : (0 : Int) ≤ (i : Int) := by omega
  have hd : ah0 a.Cz (i : Int) (wrap .i64 ((i : Int) + 1)) = some (a.Cz.eraseIdx i) := by
   have e1 : ((i : Int) + 1).toNat = i + 1 := by omega
   unfold ah0 delL
   rw [ab3 (by omega) (by omega), if_pos ⟨by omega, by omega, by omega⟩, e1, toNat_natCast, List.eraseIdx_eq_take_drop_succ]
  rw [q, decide_eq_true h0, if_pos rfl, if_pos h0, hd, Option.bind_some, toNat_natCast]
theorem bY5 (v : Val a) {id : Int} (w : -9223372036854775808 ≤ id ∧ id ≤ 9223372036854775807) (m : Int) : aZ1 a id m = some (bp0 a id) := by
 have hb := v.base
 unfold aZ1 bp0
 rw [aN6 v w, Option.bind_some]
 rcases aB0 v id with q | ⟨i, hi, q, _⟩
 ·rw [q]; rfl
 ·have h0 : (0 : Int) ≤ (i : Int) := by omega
  have hw : wrap .i64 ((i : Int) + 1) = ((i + 1 : Nat) : Int) := by rw [ab3 (by omega) (by omega)]; omega
  rw [q, decide_eq_false (show ¬ (i : Int) < 0 by omega), if_neg (by simp), if_pos h0, aO5 (by omega), Option.bind_some, af3 (by simp; omega) (by simp; omega), Option.bind_some, hw, ay2 (by omega), Option.bind_some, af3 (by simp; omega) (by simp; omega), Option.bind_some, toNat_natCast, List.eraseIdx_eq_take_drop_succ]; rfl
theorem bR6 (v : Val a) (id : Int) : Val (bp0 a id) := by
 unfold bp0
 split
 ·exact v.close _
 ·exact v
def woS (m b : Int) : Int := if 0 ≤ m ∧ tmod (tdiv m b) 2 = 1 then m - b else m
theorem a91 {m b : Int} (hb : b = 16 ∨ b = 64) (w : -9223372036854775808 ≤ m ∧ m ≤ 9223372036854775807) : as4 m b = some (woS m b) := by
 unfold as4 woS
 by_cases h : 0 ≤ m
 ·have hd : 0 ≤ tdiv m b ∧ tdiv m b ≤ m := by
   rcases hb with rfl | rfl <;> rw [Int.tdiv_eq_ediv_of_nonneg h] <;> omega
  have hq : cE8 .i64 m b = some (tdiv m b) := by
   unfold cE8
   rw [if_neg (by omega), ab3 (by omega) (by omega)]
  rw [decide_eq_true h, if_pos rfl, hq, Option.bind_some, Option.bind_some]
  by_cases q : tmod (tdiv m b) 2 = 1
  ·rw [decide_eq_true q, if_pos rfl, if_pos ⟨h, q⟩, ab3 (by omega) (by omega)]
  ·rw [decide_eq_false q, if_neg (by simp), if_neg (fun z => q z.2)]
 ·rw [decide_eq_false h, if_neg (by simp), if_neg (fun z => h z.1)]; rfl
def plS (m : Int) : Int := woS (woS m 16) 64
def cn2 (m : Int) : Bool := decide (plS m < 0) || decide (3 < plS m)
theorem cP7 : ∀ m : Fin 84, cn2 (m.val : Int) = (decide (3 < tmod (m.val : Int) 16) || decide (1 < tmod (tdiv (m.val : Int) 16) 4)) ∧ (cn2 (m.val : Int) = false → decide (woS (m.val : Int) 64 = 0) = decide (tmod (m.val : Int) 64 = 0) ∧ decide (plS (m.val : Int) = 3) = decide (tmod (m.val : Int) 16 = 3)) := by decide
theorem cn3 {m b : Int} (hb : b = 16 ∨ b = 64) : m - b ≤ woS m b ∧ woS m b ≤ m := by
 unfold woS
 split <;> omega
theorem cC0 (m : Int) : cn2 m = ((decide (m < 0)) || ((decide (83 < m)) || ((decide (3 < (tmod m 16))) || (decide (1 < (tmod (tdiv m 16) 4)))))) := by
 by_cases h0 : m < 0
 ·have h1 : woS m 16 = m := by unfold woS; rw [if_neg (by omega)]
  have h2 : plS m = m := by unfold plS; rw [h1]; unfold woS; rw [if_neg (by omega)]
  unfold cn2; rw [h2]; simp [h0]
 by_cases h1 : 83 < m
 ·have a1 := cn3 (m := m) (b := 16) (.inl rfl)
  have a2 := cn3 (m := woS m 16) (b := 64) (.inr rfl)
  have : 3 < plS m := by unfold plS; omega
  unfold cn2; simp [this, h1]
 ·have hm := cP7 ⟨m.toNat, by omega⟩
  have e : ((m.toNat : Nat) : Int) = m := by omega
  simp only [e] at hm
  rw [hm.1]; simp [h0, h1]
theorem cn4 {m : Int} (h : cn2 m = false) : decide (woS m 64 = 0) = decide (tmod m 64 = 0) ∧ decide (plS m = 3) = decide (tmod m 16 = 3) := by
 have hb := cC0 m
 rw [h] at hb
 have hb' := hb.symm
 simp only [or_eq_false_iff, decide_eq_false_iff_not] at hb'
 have hm := cP7 ⟨m.toNat, by omega⟩
 have e : ((m.toNat : Nat) : Int) = m := by omega
 simp only [e] at hm
 exact hm.2 h
def cI4 (a : aa2) (user : Str) (id m : Int) : Bool := if id = 3 then decide (tmod m 64 = 0) else decide (user = a.Oz) && !decide (tmod m 16 = 3)
def bY6 (a : aa2) (user : Str) (id m : Int) : Int :=
 if an3 a id = true then (if cn2 m = true then 12 else if id = 1 then (if m = 0 then 0 else 10) else if cI4 a user id m = true then (if id = 4 ∧ (32 ≤ (List.length a.Cz : Int) ∨ 1048560 ≤ a.Xz) then 22 else 0) else 11) else 8
def bL0 (a : aa2) (user : Str) (id m : Int) : aa2 × Int × Int :=
 if bY6 a user id m = 0 then (if id = 4 then (cH0 a, 16 + a.Xz, 0) else (a, id, 0)) else (a, 0, bY6 a user id m)
theorem cy2 (v : Val a) {id m : Int} (w : -9223372036854775808 ≤ id ∧ id ≤ 9223372036854775807) (wm : -9223372036854775808 ≤ m ∧ m ≤ 9223372036854775807) (user : Str) : aY2 a user id m = some (bY6 a user id m) := by
 have a1 := cn3 (m := m) (b := 16) (.inl rfl)
 have hw1 : as4 (woS m 16) 64 = some (plS m) := by
  by_cases h : m < 0
  ·have h1 : woS m 16 = m := by unfold woS; rw [if_neg (by omega)]
   unfold plS; rw [h1]; exact a91 (.inr rfl) wm
  ·exact a91 (.inr rfl) (by omega)
 unfold aY2 bY6
 rw [a91 (.inl rfl) wm, Option.bind_some, hw1, Option.bind_some, bi0 v w, Option.bind_some]
 cases an3 a id with
 | false => rfl
 | true =>
  simp only [Bool.not_true, false_eq_true, if_false, if_true]
  rw [show (decide (plS m < 0) || decide (3 < plS m)) = cn2 m from rfl]
  cases hb : cn2 m with
  | true => rfl
  | false =>
   have hg := cn4 hb
   simp only [false_eq_true, if_false]
   by_cases h1 : id = 1
   ·subst h1
    by_cases z : m = 0
    ·simp [z]
    ·simp [z]
   ·simp only [h1, decide_false, Bool.false_and, false_eq_true, if_false]
    unfold cI4
    by_cases h3 : id = 3
    ·subst h3
     simp only [decide_true, if_true, a91 (.inr rfl) wm, Option.bind_some, hg.1]
     by_cases z : tmod m 64 = 0
     ·simp [z]
     ·simp [z]
    ·simp only [h3, decide_false, false_eq_true, if_false, Option.bind_some, Bool.not_false, Bool.true_and, hg.2]
     by_cases z : user = a.Oz
     ·by_cases z3 : tmod m 16 = 3
      ·simp [z, z3]
      ·by_cases h4 : id = 4
       ·subst h4
        by_cases f1 : 32 ≤ (List.length a.Cz : Int)
        ·simp [z, z3, f1]
        ·by_cases f2 : 1048560 ≤ a.Xz
         ·simp [z, z3, f1, f2]
         ·simp [z, z3, f1, f2]
       ·simp [z, z3, h4]
     ·simp [z]
theorem bY7 (v : Val a) {id m : Int} (w : -9223372036854775808 ≤ id ∧ id ≤ 9223372036854775807) (wm : -9223372036854775808 ≤ m ∧ m ≤ 9223372036854775807) (user : Str) : au3 a user id m = some (bL0 a user id m) := by
 have hb := v.base
 unfold au3 bL0
 rw [ap9 v.lim, Option.bind_some, cy2 v w wm, Option.bind_some]
 by_cases q : bY6 a user id m = 0
 ·rw [decide_eq_true q, if_pos q, Bool.not_true, if_neg (by simp)]
  by_cases h4 : id = 4
  ·rw [decide_eq_true h4, if_pos h4, Bool.not_true, if_neg (by simp), af3 (by simp; omega) (by simp; omega), Option.bind_some, ab3 (by omega) (by omega), ab3 (by omega) (by omega)]; rfl
  ·rw [decide_eq_false h4, if_neg h4]; rfl
 ·rw [decide_eq_false q, if_neg q]; rfl
theorem cc6 (v : Val a) {id m : Int} (w : -9223372036854775808 ≤ id ∧ id ≤ 9223372036854775807) (wm : -9223372036854775808 ≤ m ∧ m ≤ 9223372036854775807) (user : Str) : a82 a user id m = some (bL0 a user id m) := by
 have hb := v.base
 have hbad := cC0 m
 have hwd : (decide (m < 0) || (decide (83 < m) || (decide (3 < tmod m 16) || decide (1 < tmod (wrap .i64 (tdiv m 16)) 4)))) = cn2 m := by
  rw [hbad]
  by_cases h0 : m < 0
  ·simp [h0]
  ·have hd : 0 ≤ tdiv m 16 ∧ tdiv m 16 ≤ m := by
    rw [Int.tdiv_eq_ediv_of_nonneg (by omega)]; omega
   rw [ab3 (by omega) (by omega)]
 unfold a82 bL0 bY6
 rw [aS5 v w, Option.bind_some, hwd]
 cases an3 a id with
 | false => rfl
 | true =>
  simp only [Bool.not_true, false_eq_true, if_false, if_true]
  cases hb : cn2 m with
  | true => simp
  | false =>
   simp only [false_eq_true, if_false]
   by_cases h1 : id = 1
   ·subst h1
    by_cases z : m = 0
    ·simp [z]
    ·simp [z]
   ·simp only [h1, decide_false, Bool.false_and, false_eq_true, if_false, Bool.not_false, Bool.true_and]
    unfold cI4
    by_cases h3 : id = 3
    ·subst h3
     by_cases z : tmod m 64 = 0
     ·simp [z]
     ·simp [z]
    ·simp only [h3, decide_false, cond_false, false_eq_true, if_false, Bool.not_false, Bool.true_and]
     by_cases z : user = a.Oz
     ·by_cases z3 : tmod m 16 = 3
      ·simp [z, z3]
      ·by_cases h4 : id = 4
       ·subst h4
        by_cases f1 : 32 ≤ (List.length a.Cz : Int)
        ·simp [z, z3, f1]
        ·by_cases f2 : 1048560 ≤ a.Xz
         ·simp [z, z3, f1, f2]
         ·simp only [z, z3, f1, f2, decide_true, decide_false, Bool.not_true, Bool.not_false, Bool.and_self, Bool.or_self, false_eq_true, if_false, if_true, or_self, and_false]
          rw [af3 (by simp; omega) (by simp; omega), Option.bind_some, af3 (by simp; omega) (by simp; omega), Option.bind_some, ab3 (by omega) (by omega), ab3 (by omega) (by omega)]; rfl
       ·simp [z, z3, h4]
     ·simp [z]
theorem b63 (v : Val a) (user : Str) (id m : Int) : Val (bL0 a user id m).1 := by
 unfold bL0
 split
 ·rename_i q
  split
  ·rename_i h4
   subst h4
   unfold bY6 at q
   have n1 : ¬ (4 : Int) = 1 := by omega
   rw [if_neg n1] at q
   refine v.opn ?_ ?_
   ·apply Classical.byContradiction
    intro z
    have : (4 : Int) = 4 ∧ (32 ≤ (List.length a.Cz : Int) ∨ 1048560 ≤ a.Xz) := ⟨rfl, .inl (by omega)⟩
    rw [if_pos this] at q
    split at q
    ·split at q
     ·omega
     ·split at q <;> omega
    ·omega
   ·apply Classical.byContradiction
    intro z
    have : (4 : Int) = 4 ∧ (32 ≤ (List.length a.Cz : Int) ∨ 1048560 ≤ a.Xz) := ⟨rfl, .inr (by omega)⟩
    rw [if_pos this] at q
    split at q
    ·split at q
     ·omega
     ·split at q <;> omega
    ·omega
  ·exact v
 ·exact v
variable {c : aa3} {a : aa2} {id : Int}
def cAt (a : aa2) (id : Int) : aa3 := a.Cz.getD (aM5 a id).toNat cm1
def aK3 (a : aa2) (id : Int) (c : aa3) : aa2 := {a with Cz := a.Cz.set (aM5 a id).toNat c}
theorem a08 {i : Nat} (h : i < a.Cz.length) (q : aM5 a id = (i : Int)) : cAt a id = a.Cz[i] := by
 unfold cAt
 rw [q, toNat_natCast, List.getD_eq_getElem?_getD, List.getElem?_eq_getElem h]; rfl
theorem cy3 (h : Lim a) : aE5 128 ([] : List aa3) a.Cz = some a.Cz := by
 have h1 := h.convs
 rw [af3 (by simp; omega) (by simp; omega)]; rfl
theorem bY8 (h : Lim a) {i : Nat} (hi : i < a.Cz.length) (c : aa3) : aQ1 a (i : Int) c = some {a with Cz := a.Cz.set i c} := by
 unfold aQ1
 rw [cy3 h, Option.bind_some, aa6 hi]; rfl
def cn5 (a : aa2) (id : Int) (cnt : Int) : aa2 × Str × Int :=
 if ao7 (cAt a id) = true then (a, [], 53) else if (aZ7 (cAt a id)).2.2 = 0 then (if cnt < (List.length (aZ7 (cAt a id)).2.1 : Int) then (a, [], 3) else (aK3 a id (aZ7 (cAt a id)).1, (aZ7 (cAt a id)).2.1, 0)) else (a, [], (aZ7 (cAt a id)).2.2)
def bq0 (a : aa2) (id off cnt : Int) : aa2 × Str × Int :=
 if an3 a id = true then (if id = 1 then (a, [], 10) else if off < 0 ∨ cnt < 0 then (a, [], 1) else if 0 ≤ aM5 a id then cn5 a id (min cnt 65536) else (a, cb4 (bm0 a id) off (min cnt 65536), 0)) else (a, [], 8)
theorem cI5 (v : Val a) {i : Nat} (hi : i < a.Cz.length) (q : aM5 a id = (i : Int)) (cnt : Int) : a73 a (i : Int) cnt = some (cn5 a id cnt) := by
 have hv := v.convAt hi
 have hk := (v.lim.conv _ (getElem_mem hi)).key
 unfold a73 cn5 aK3
 rw [a08 hi q, q, toNat_natCast, ap9 v.lim, Option.bind_some, aa6 hi, Option.bind_some, bJ9, Option.bind_some]
 cases hf : ao7 a.Cz[i] with
 | true => rfl
 | false =>
  have hr : af9 a.Cz[i] = true := by
   rcases hv.2.2 with h | h
   ·rw [hf] at h; cases h
   ·exact h
  obtain ⟨_, _, hp, _, _, _, h0, h3⟩ := ax8 hr
  have hm := by4 (a.Cz[i]).Pz
  simp only [false_eq_true, if_false, Option.bind_some, bX4 (bK4 hk hr) hp h0 (by omega)]
  by_cases e : (aZ7 a.Cz[i]).2.2 = 0
  ·simp only [e, decide_true, Bool.not_true, false_eq_true, if_false, if_true]
   by_cases l : cnt < (List.length (aZ7 a.Cz[i]).2.1 : Int)
   ·simp only [l, decide_true, if_true]
   ·simp only [l, decide_false, false_eq_true, if_false]
  ·simp only [e, decide_false, Bool.not_false, if_true, if_false]
theorem bL1 (v : Val a) (w : -9223372036854775808 ≤ id ∧ id ≤ 9223372036854775807) (off cnt : Int) : ai5 a id off cnt = some (bq0 a id off cnt) := by
 rcases aB0 v id with q | ⟨i, hi, q, q2⟩
 ·rw [cw2 v w q]
  unfold cb6 bq0
  rw [q]
  simp only [show ¬ (0 : Int) ≤ -1 by omega, if_false]
 ·have h0 : (0 : Int) ≤ (i : Int) := by omega
  have he : an3 a id = true := by unfold an3; rw [q]; simp
  have n1 : ¬ id = 1 := by omega
  unfold ai5 bq0
  rw [ap9 v.lim, Option.bind_some, bi0 v w, Option.bind_some, he, if_pos rfl, decide_eq_false n1, if_neg n1]
  by_cases h2 : off < 0 ∨ cnt < 0
  ·have : (decide (off < 0) || decide (cnt < 0)) = true := by simpa using h2
   simp [h2, this]
  ·have h2' : (decide (off < 0) || decide (cnt < 0)) = false := by
    rw [or_eq_false_iff, decide_eq_false_iff_not, decide_eq_false_iff_not]; omega
   simp only [h2, h2', Bool.not_true, false_eq_true, if_false, by5 v w, Option.bind_some]
   rw [q]
   simp only [h0, decide_true, if_true, cI5 v hi q, Option.bind_some]
theorem cc7 (v : Val a) (w : -9223372036854775808 ≤ id ∧ id ≤ 9223372036854775807) (off cnt : Int) : aB8 a id off cnt = some (bq0 a id off cnt) := by
 rcases aB0 v id with q | ⟨i, hi, q, q2⟩
 ·rw [bX1 v w q]
  unfold cb6 bq0
  rw [q]
  simp only [show ¬ (0 : Int) ≤ -1 by omega, if_false]
 ·have h0 : (0 : Int) ≤ (i : Int) := by omega
  have hneg : ¬ (i : Int) < 0 := by omega
  have he : an3 a id = true := by unfold an3; rw [q]; simp
  have n1 : ¬ id = 1 := by omega
  have hv := v.convAt hi
  have hk := (v.lim.conv _ (getElem_mem hi)).key
  unfold aB8 bq0
  rw [aS5 v w, Option.bind_some, he, if_pos rfl, decide_eq_false n1, if_neg n1]
  by_cases h2 : off < 0 ∨ cnt < 0
  ·have : (decide (off < 0) || decide (cnt < 0)) = true := by simpa using h2
   simp [h2, this]
  ·have h2' : (decide (off < 0) || decide (cnt < 0)) = false := by
    rw [or_eq_false_iff, decide_eq_false_iff_not, decide_eq_false_iff_not]; omega
   simp only [h2, h2', Bool.not_true, false_eq_true, if_false, aN6 v w, Option.bind_some]
   unfold cn5 aK3
   rw [q, a08 hi q, toNat_natCast]
   simp only [h0, hneg, decide_false, false_eq_true, if_false, if_true, aa6 hi, Option.bind_some, bd3 hk.le]
   cases hf : ao7 a.Cz[i] with
   | true => rfl
   | false =>
    have hr : af9 a.Cz[i] = true := by
     rcases hv.2.2 with h | h
     ·rw [hf] at h; cases h
     ·exact h
    obtain ⟨_, _, hp, _, _, _, h0', h3⟩ := ax8 hr
    simp only [false_eq_true, if_false, Option.bind_some, cb8 (bK4 hk hr) hp h0' (cc0 hr)]
    by_cases e : (aZ7 a.Cz[i]).2.2 = 0
    ·simp only [e, decide_true, Bool.not_true, false_eq_true, if_false, if_true]
     by_cases l : min cnt 65536 < (List.length (aZ7 a.Cz[i]).2.1 : Int)
     ·simp only [l, decide_true, if_true]
     ·simp only [l, decide_false, false_eq_true, if_false, bY8 v.lim hi, Option.bind_some]
    ·simp only [e, decide_false, Bool.not_false, if_true, if_false]
theorem b64 (v : Val a) (id off cnt : Int) : Val (bq0 a id off cnt).1 := by
 unfold bq0
 split
 ·split
  ·exact v
  ·split
   ·exact v
   ·split
    ·rename_i hc
     unfold cn5
     rcases aB0 v id with q | ⟨i, hi, q, _⟩
     ·omega
     ·rw [a08 hi q]
      have hv := v.convAt hi
      have hk := (v.lim.conv _ (getElem_mem hi)).key
      cases hf : ao7 a.Cz[i] with
      | true => exact v
      | false =>
       have hr : af9 a.Cz[i] = true := by
        rcases hv.2.2 with h | h
        ·rw [hf] at h; cases h
        ·exact h
       simp only [false_eq_true, if_false]
       split
       ·split
        ·exact v
        ·unfold aK3
         rw [q, toNat_natCast]
         exact v.put hi (bR2 _).1 (.inr (bX8 hr)) (by rw [(bR2 _).2]; exact hk)
       ·exact v
    ·exact v
 ·exact v
def aR4 : Str := [112, 114, 111, 116, 111]
def bR7 : Str := [114, 111, 108, 101]
def bi8 (l : List aa1) : Int := if aG5 bR7 l = ax7 then 1 else if aG5 bR7 l = at1 then 2 else 0
def bY9 (l : List aa1) : List aa1 := (l.filter fun x => !decide (x.Mz = aR4)).filter fun x => !decide (x.Mz = bR7)
def aW3 (a : aa2) (id : Int) (l : List aa1) : aa3 × Int := aW1 (aj4 aR4 l).1 (bi8 l) (bo9 (bY9 l) a.Kz).1 (bp9 a.Sz (Go.Lib.itoa a.Nz))
def bp1 (a : aa2) (id : Int) (l : List aa1) : aa2 × Int :=
 if (aj4 aR4 l).2 = true then (if bi8 l = 0 then (a, 1) else if (bo9 (bY9 l) a.Kz).2 = true then (if 9007199254740991 ≤ a.Nz then (a, 22) else if (aW3 a id l).2 = 0 then ({aK3 a id {(aW3 a id l).1 with Id := (cAt a id).Id} with Nz := a.Nz + 1}, 0) else (a, (aW3 a id l).2)) else (a, 52)) else (a, 53)
def ba7 : Str := [115, 116, 97, 114, 116]
def bp2 (a : aa2) (id : Int) (s : Str) : aa2 × Int :=
 if (ba7 ++ [32]).isPrefixOf s = true then (if (af0 (s.drop 6)).2.2 = 0 then bp1 a id (af0 (s.drop 6)).1 else (a, (af0 (s.drop 6)).2.2)) else (a, 53)
def bF6 (a : aa2) (id : Int) (s : Str) : aa2 × Int :=
 if (aE2 (cAt a id) s).2 = 0 ∨ (aE2 (cAt a id) s).2 = 28 then (aK3 a id (aE2 (cAt a id) s).1, (aE2 (cAt a id) s).2) else (a, (aE2 (cAt a id) s).2)
def cc8 (s : Str) (x : aa2 × Int) : aa2 × Int × Int := (x.1, if x.2 = 0 then (List.length s : Int) else 0, x.2)
def ba8 (a : aa2) (id : Int) (s : Str) : aa2 × Int × Int :=
 if an3 a id = true then (if id = 1 then (a, 0, 10) else if id = 3 ∨ id = 4 then (a, 0, 11) else if id = 2 then cc8 s (aR3 a (aE6 s) a) else if ao7 (cAt a id) = true then cc8 s (bp2 a id s) else cc8 s (bF6 a id s)) else (a, 0, 8)
theorem cn6 {l : List aa1} (h : l.length ≤ 1000000) : (bY9 l).length ≤ 1000000 :=
 le_trans (length_filter_le _ _) (le_trans (length_filter_le _ _) h)
theorem cI6 {l : List aa1} (h : l.length ≤ 1000000) : a78 l = some (bi8 l, !decide (bi8 l = 0)) := by
 unfold a78 bi8 aG5 bR7 ax7 at1
 rw [bl6 h, Option.bind_some]
 by_cases q1 : (aj4 [114, 111, 108, 101] l).1 = [99, 108, 105, 101, 110, 116]
 ·simp [q1]
 ·by_cases q2 : (aj4 [114, 111, 108, 101] l).1 = [115, 101, 114, 118, 101, 114]
  ·simp [q1, q2]
  ·simp [q1, q2]
theorem cn7 (v : Val a) {i : Nat} (hi : i < a.Cz.length) (q : aM5 a id = (i : Int)) {s : Str} (hs : s.length ≤ 2000) : aI9 a (i : Int) s = some (cc8 s (bp2 a id s)) := by
 have hb := v.base
 have hk := aZ8 (s := s.drop 6) (by rw [length_drop]; omega)
 have hl := hk.le
 have hl1 : ((af0 (s.drop 6)).1.filter fun x => !decide (x.Mz = [112, 114, 111, 116, 111])).length ≤ 1000000 := le_trans (length_filter_le _ _) hl
 unfold aI9 bp2
 rw [ap9 v.lim, Option.bind_some]
 unfold strings_CutPrefix stringslite_CutPrefix
 rw [a41, Option.bind_some, show ([115, 116, 97, 114, 116, 32] : Str) = ba7 ++ [32] from rfl]
 by_cases hp : (ba7 ++ [32]).isPrefixOf s = true
 case neg =>
  rw [Bool.not_eq_true] at hp
  rw [hp]; rfl
 have hpl : 6 ≤ s.length := by
  have := (isPrefixOf_iff_prefix.1 hp).length_le
  simpa [ba7] using this
 have hcut : cut s (List.length (ba7 ++ [32]) : Int) (List.length s : Int) = some (s.drop 6) := ay2 (a := 6) (by omega)
 rw [if_pos hp, hp, hcut]
 simp only [Bool.not_true, false_eq_true, if_false, Option.bind_some, bJ5 (show (s.drop 6).length ≤ 1000000 by rw [length_drop]; omega)]
 by_cases he : (af0 (s.drop 6)).2.2 = 0
 case neg => simp only [he, decide_false, Bool.not_false, if_true, if_false, cc8]
 simp only [he, decide_true, Bool.not_true, false_eq_true, if_false, if_true, bl6 hl, Option.bind_some, cI6 hl, bE6 hl, bE6 hl1]
 generalize hP : (af0 (s.drop 6)).1 = l at hk hl hl1 ⊢
 have hpat : ((l.filter fun x => !decide (x.Mz = [112, 114, 111, 116, 111])).filter fun x => !decide (x.Mz = [114, 111, 108, 101])) = bY9 l := rfl
 rw [hpat, cO7 v.lim (cn6 hl), Option.bind_some]
 unfold bp1
 rw [show aj4 [112, 114, 111, 116, 111] l = aj4 aR4 l from rfl]
 cases hf : (aj4 aR4 l).2 with
 | false => rfl
 | true =>
  simp only [Bool.not_true, false_eq_true, if_false, if_true, Bool.not_not]
  by_cases hr : bi8 l = 0
  ·simp only [hr, decide_true, if_true, cc8]; rfl
  ·simp only [hr, decide_false, false_eq_true, if_false]
   cases hkk : (bo9 (bY9 l) a.Kz).2 with
   | false => rfl
   | true =>
    have hsh : Sh (bo9 (bY9 l) a.Kz).1 := v.lim.key _ (br8 hkk)
    simp only [Bool.not_true, false_eq_true, if_false, if_true]
    by_cases hc : 9007199254740991 ≤ a.Nz
    ·simp only [hc, decide_true, if_true, cc8]; rfl
    ·have hit : (Go.Lib.itoa a.Nz).length ≤ 1000000 := le_trans (Go.Lib.itoa_length_le _ (by omega) (by omega)) (by omega)
     simp only [hc, decide_false, false_eq_true, if_false, bW5 (show -9223372036854775808 ≤ a.Nz by omega) (show a.Nz ≤ 9223372036854775807 by omega), Option.bind_some, cB6 (show a.Sz.length ≤ 100000000000 by omega) (show (Go.Lib.itoa a.Nz).length ≤ 100000000000 by omega), cx6 hsh]
     rw [show aW1 (aj4 aR4 l).1 (bi8 l) (bo9 (bY9 l) a.Kz).1 (bp9 a.Sz (Go.Lib.itoa a.Nz)) = aW3 a id l from rfl]
     by_cases hz : (aW3 a id l).2 = 0
     ·have hw : wrap .i64 (a.Nz + 1) = a.Nz + 1 := ab3 (by omega) (by omega)
      simp only [hz, decide_true, Bool.not_true, false_eq_true, if_false, if_true, aa6 hi, Option.bind_some, hw, aK3, a08 hi q, q, toNat_natCast, cc8]
     ·simp only [hz, decide_false, Bool.not_false, if_true, if_false, cc8]
theorem b65 {l : List aa1} {n : Str} (h : l.length ≤ 1000000) : ay6 l n = some (aG5 n l) := by
 unfold ay6 aG5
 rw [aN5 h]; rfl
theorem cy4 (v : Val a) {i : Nat} (hi : i < a.Cz.length) (q : aM5 a id = (i : Int)) {x3 : List aa1 × Int × Int} (hk : Sh x3.1) {x5 : Str × Bool} (h5 : x5.1 = (aj4 aR4 x3.1).1) (h52 : (aj4 aR4 x3.1).2 = true) : aA0 a (i : Int) x3 x5 (bi8 x3.1) = some (bp1 a id x3.1) := by
 have hb := v.base
 have hl := hk.le
 have hl1 : (x3.1.filter fun x => !decide (x.Mz = [112, 114, 111, 116, 111])).length ≤ 1000000 := le_trans (length_filter_le _ _) hl
 unfold aA0 bp1
 rw [h52, if_pos rfl]
 by_cases hr : bi8 x3.1 = 0
 ·rw [hr, decide_eq_true rfl, if_pos rfl, if_pos rfl]
 rw [decide_eq_false hr, if_neg (by simp), if_neg hr, bh6 hl, Option.bind_some, bh6 hl1, Option.bind_some]
 have hpat : ((x3.1.filter fun x => !decide (x.Mz = [112, 114, 111, 116, 111])).filter fun x => !decide (x.Mz = [114, 111, 108, 101])) = bY9 x3.1 := rfl
 rw [hpat, cl0 v.lim (cn6 hl), Option.bind_some]
 cases hkk : (bo9 (bY9 x3.1) a.Kz).2 with
 | false => rfl
 | true =>
  have hsh : Sh (bo9 (bY9 x3.1) a.Kz).1 := v.lim.key _ (br8 hkk)
  simp only [Bool.not_true, false_eq_true, if_false, if_true]
  by_cases hc : 9007199254740991 ≤ a.Nz
  ·simp only [hc, decide_true, if_true]
  ·have hit : (Go.Lib.itoa a.Nz).length ≤ 1000000 := le_trans (Go.Lib.itoa_length_le _ (by omega) (by omega)) (by omega)
   simp only [hc, decide_false, false_eq_true, if_false, bJ7 (show -9223372036854775808 ≤ a.Nz by omega) (show a.Nz ≤ 9223372036854775807 by omega), Option.bind_some, bi3 (show a.Sz.length ≤ 100000000000 by omega) (show (Go.Lib.itoa a.Nz).length ≤ 100000000000 by omega), bX3 hsh, h5]
   rw [show aW1 (aj4 aR4 x3.1).1 (bi8 x3.1) (bo9 (bY9 x3.1) a.Kz).1 (bp9 a.Sz (Go.Lib.itoa a.Nz)) = aW3 a id x3.1 from rfl]
   by_cases hz : (aW3 a id x3.1).2 = 0
   ·have hw : wrap .i64 (a.Nz + 1) = a.Nz + 1 := ab3 (by omega) (by omega)
    simp only [hz, decide_true, Bool.not_true, false_eq_true, if_false, if_true, aa6 hi, Option.bind_some, hw, aK3, a08 hi q, q, toNat_natCast, bY8 v.lim hi]
   ·simp only [hz, decide_false, Bool.not_false, if_true, if_false]
theorem bZ0 (v : Val a) {i : Nat} (hi : i < a.Cz.length) (q : aM5 a id = (i : Int)) {s : Str} (hs : s.length ≤ 2000) : aY9 a (i : Int) s = some (bp2 a id s) := by
 have hk := aZ8 (s := s.drop 6) (by rw [length_drop]; omega)
 have hl := hk.le
 unfold aY9 bp2
 rw [bK8 (by omega) (by simp), Option.bind_some, show ([115, 116, 97, 114, 116] : Str) = ba7 from rfl]
 by_cases hp : (ba7 ++ [32]).isPrefixOf s = true
 case neg => rw [if_neg hp, if_neg hp]; rfl
 rw [if_pos hp, if_pos hp, show ba7.length + 1 = 6 from rfl]
 simp only [Bool.not_true, false_eq_true, if_false, bc8 (show (s.drop 6).length ≤ 1000000 by rw [length_drop]; omega), Option.bind_some]
 by_cases he : (af0 (s.drop 6)).2.2 = 0
 case neg => simp only [he, decide_false, Bool.not_false, if_true, if_false]
 simp only [he, decide_true, Bool.not_true, false_eq_true, if_false, if_true, aN5 hl, Option.bind_some]
 rw [show aj4 [112, 114, 111, 116, 111] (af0 (s.drop 6)).1 = aj4 aR4 (af0 (s.drop 6)).1 from rfl]
 cases hf : (aj4 aR4 (af0 (s.drop 6)).1).2 with
 | false =>
  unfold bp1
  rw [hf]; rfl
 | true =>
  simp only [Bool.not_true, false_eq_true, if_false, b65 hl, Option.bind_some]
  have hK9 := cy4 (id := id) v hi q (x3 := af0 (s.drop 6)) hk (x5 := aj4 aR4 (af0 (s.drop 6)).1) rfl hf
  have ncs : ¬ ([99, 108, 105, 101, 110, 116] : Str) = [115, 101, 114, 118, 101, 114] := by decide
  rw [← hK9]
  unfold bi8
  rw [show aG5 [114, 111, 108, 101] (af0 (s.drop 6)).1 = aG5 bR7 (af0 (s.drop 6)).1 from rfl]
  unfold ax7 at1 aI1
  rw [b65 hl, Option.bind_some, Option.bind_some]
  rw [show aG5 [114, 111, 108, 101] (af0 (s.drop 6)).1 = aG5 bR7 (af0 (s.drop 6)).1 from rfl]
  by_cases q1 : aG5 bR7 (af0 (s.drop 6)).1 = [99, 108, 105, 101, 110, 116]
  ·rw [q1]
   simp only [ncs, decide_true, decide_false, false_eq_true, if_false, if_true]
  ·by_cases q2 : aG5 bR7 (af0 (s.drop 6)).1 = [115, 101, 114, 118, 101, 114]
   ·rw [q2]
    simp only [Ne.symm ncs, decide_true, decide_false, false_eq_true, if_false, if_true]
   ·simp only [q1, q2, decide_false, false_eq_true, if_false]
theorem bF7 (c : aa3) (s : Str) : (aE2 c s).2 = 0 ∨ (aE2 c s).2 = 28 ∨ (aE2 c s).2 = 53 := by
 unfold aE2
 split
 ·split
  ·exact .inr (.inl rfl)
  ·unfold bB5
   split
   ·exact .inl rfl
   ·exact .inr (.inl rfl)
 ·exact .inr (.inr rfl)
theorem bZ1 (v : Val a) {i : Nat} (hi : i < a.Cz.length) (hf : ao7 a.Cz[i] = false) : af9 a.Cz[i] = true ∧ Tl a.Cz[i] := by
 have hk := (v.lim.conv _ (getElem_mem hi)).key
 have hr : af9 a.Cz[i] = true := by
  rcases (v.convAt hi).2.2 with h | h
  ·rw [hf] at h; cases h
  ·exact h
 exact ⟨hr, bK4 hk hr⟩
theorem cy5 (v : Val a) {i : Nat} (hi : i < a.Cz.length) (q : aM5 a id = (i : Int)) (hf : ao7 a.Cz[i] = false) {s : Str} (hs : s.length ≤ 2000) : aG1 a (i : Int) s = some (cc8 s (bF6 a id s)) := by
 obtain ⟨hr, ht⟩ := bZ1 v hi hf
 unfold aG1 bF6
 rw [ap9 v.lim, Option.bind_some, aa6 hi, Option.bind_some, bR3 ht hr s (by omega), Option.bind_some, a08 hi q]
 unfold aH4 cc8 aK3
 rw [q, toNat_natCast, Option.bind_some]
 rcases bF7 a.Cz[i] s with e | e | e <;> simp [e]
theorem bd6 (v : Val a) (he : an3 a id = true) (h : ¬ (1 ≤ id ∧ id ≤ 4)) : ∃ i, ∃ hi : i < a.Cz.length, aM5 a id = (i : Int) := by
 rcases aB0 v id with q | ⟨i, hi, q, _⟩
 ·unfold an3 at he
  rw [q] at he
  simp only [or_eq_true, and_eq_true, decide_eq_true_eq] at he
  omega
 ·exact ⟨i, hi, q⟩
theorem b66 (v : Val a) (w : -9223372036854775808 ≤ id ∧ id ≤ 9223372036854775807) {s : Str} (hs : s.length ≤ 2000) : ap2 a id s = some (ba8 a id s) := by
 unfold ap2 ba8
 rw [by5 v w, Option.bind_some, bi0 v w, Option.bind_some]
 cases he : an3 a id with
 | false => simp only [Bool.not_false, if_true, ap9 v.lim, Option.bind_some, false_eq_true, if_false]
 | true =>
  simp only [Bool.not_true, false_eq_true, if_false, if_true]
  by_cases h1 : id = 1
  ·simp only [h1, decide_true, if_true, ap9 v.lim, Option.bind_some]
  by_cases h34 : id = 3 ∨ id = 4
  ·have e : (decide (id = 3) || decide (id = 4)) = true := by simpa using h34
   simp only [h1, h34, e, decide_false, false_eq_true, if_false, if_true, ap9 v.lim, Option.bind_some]
  have e : (decide (id = 3) || decide (id = 4)) = false := by
   rw [or_eq_false_iff, decide_eq_false_iff_not, decide_eq_false_iff_not]; omega
  by_cases h2 : id = 2
  ·simp only [h1, h34, e, decide_false, false_eq_true, if_false]
   rw [decide_eq_true h2, if_pos rfl, if_pos h2, bY4 v hs]; rfl
  ·obtain ⟨i, hi, q⟩ := bd6 v he (by omega)
   simp only [h1, h34, h2, e, decide_false, false_eq_true, if_false]
   rw [q, aa6 hi, Option.bind_some, bJ9, Option.bind_some, a08 hi q]
   cases hf : ao7 a.Cz[i] with
   | true => rw [if_pos rfl, if_pos rfl, cn7 (id := id) v hi q hs]; rfl
   | false => rw [if_neg (by simp), if_neg (by simp), cy5 (id := id) v hi q hf hs]; rfl
theorem bZ2 (v : Val a) (w : -9223372036854775808 ≤ id ∧ id ≤ 9223372036854775807) {s : Str} (hs : s.length ≤ 2000) : aQ2 a id s = some (ba8 a id s) := by
 have hK8 : ∀ x : aa2 × Int, ap3 s x.2 x.1 = some (cc8 s x) := by
  intro x
  unfold ap3 cc8
  by_cases z : x.2 = 0
  ·simp [z]
  ·simp [z]
 unfold aQ2 ba8
 rw [aS5 v w, Option.bind_some]
 cases he : an3 a id with
 | false => rfl
 | true =>
  simp only [Bool.not_true, false_eq_true, if_false, if_true]
  by_cases h1 : id = 1
  ·simp only [h1, decide_true, if_true]
  by_cases h34 : id = 3 ∨ id = 4
  ·have e : (decide (id = 3) || decide (id = 4)) = true := by simpa using h34
   simp only [h1, h34, e, decide_false, false_eq_true, if_false, if_true]
  have e : (decide (id = 3) || decide (id = 4)) = false := by
   rw [or_eq_false_iff, decide_eq_false_iff_not, decide_eq_false_iff_not]; omega
  by_cases h2 : id = 2
  ·have hc := cw3 v (show id ≤ 16 by omega)
   simp only [h1, h34, e, decide_false, false_eq_true, if_false]
   rw [aN6 v w, Option.bind_some, hc, decide_eq_true (show (-1 : Int) < 0 by omega), if_pos rfl, if_pos h2, bB7 v hs, Option.bind_some, hK8]
  ·obtain ⟨i, hi, q⟩ := bd6 v he (by omega)
   have hk := (v.lim.conv _ (getElem_mem hi)).key
   simp only [h1, h34, h2, e, decide_false, false_eq_true, if_false]
   rw [aN6 v w, Option.bind_some, q, decide_eq_false (show ¬ (i : Int) < 0 by omega), if_neg (by simp), aa6 hi, Option.bind_some, bd3 hk.le, Option.bind_some, a08 hi q]
   cases hf : ao7 a.Cz[i] with
   | true => rw [if_pos rfl, if_pos rfl, bZ0 (id := id) v hi q hs, Option.bind_some, hK8]
   | false =>
    obtain ⟨hr, ht⟩ := bZ1 v hi hf
    rw [if_neg (by simp), if_neg (by simp), Option.bind_some, bY0 ht hr s (by omega), Option.bind_some, ← hK8]
    unfold bF6 aK3
    rw [q, a08 hi q, toNat_natCast, bY8 v.lim hi, Option.bind_some]
    rcases bF7 a.Cz[i] s with z | z | z <;> simp [z]
theorem cn8 (v : Val a) {i : Nat} (hi : i < a.Cz.length) (q : aM5 a id = (i : Int)) (s : Str) : Val (bp2 a id s).1 := by
 have hb := v.base
 unfold bp2
 split
 ·split
  ·unfold bp1
   generalize (af0 (s.drop 6)).1 = l
   split
   ·split
    ·exact v
    ·split
     ·rename_i hkk
      split
      ·exact v
      ·split
       ·rename_i hz
        have hcv := v.conv (getElem_mem hi)
        have hsh : Sh (bo9 (bY9 l) a.Kz).1 := v.lim.key _ (br8 hkk)
        have hz' := hz
        unfold aW3 at hz'
        obtain ⟨r1, r2⟩ := bX9 (id := (a.Cz[i]).Id) hz' (by omega) (by omega)
        have hp : Val {a with Cz := a.Cz.set i {(aW3 a id l).1 with Id := (a.Cz[i]).Id}} := v.put hi rfl (.inr r1) (by
         show Sh (aW3 a id l).1.Key
         unfold aW3
         rw [r2]; exact hsh)
        have := hp.count (by show a.Nz < 9007199254740991; omega)
        unfold aK3
        rw [q, a08 hi q, toNat_natCast]
        exact this
       ·exact v
     ·exact v
   ·exact v
  ·exact v
 ·exact v
theorem cn9 (v : Val a) {i : Nat} (hi : i < a.Cz.length) (q : aM5 a id = (i : Int)) (hf : ao7 a.Cz[i] = false) (s : Str) : Val (bF6 a id s).1 := by
 obtain ⟨hr, ht⟩ := bZ1 v hi hf
 have hk := (v.lim.conv _ (getElem_mem hi)).key
 unfold bF6 aK3
 rw [q, a08 hi q, toNat_natCast]
 split
 ·exact v.put hi (bF4 s).1 (.inr (bX7 hr s)) (by rw [(bF4 s).2]; exact hk)
 ·exact v
theorem bR8 (v : Val a) (id : Int) {s : Str} (hs : s.length ≤ 2000) : Val (ba8 a id s).1 := by
 unfold ba8
 cases he : an3 a id with
 | false => exact v
 | true =>
  simp only [if_true]
  by_cases h1 : id = 1
  ·rw [if_pos h1]; exact v
  rw [if_neg h1]
  by_cases h34 : id = 3 ∨ id = 4
  ·rw [if_pos h34]; exact v
  rw [if_neg h34]
  by_cases h2 : id = 2
  ·rw [if_pos h2]
   exact bK9 v v fun x hx => by
    have := a90 (sep := 10) s [] x hx
    simp at this; omega
  ·rw [if_neg h2]
   obtain ⟨i, hi, q⟩ := bd6 v he (by omega)
   rw [a08 hi q]
   cases hf : ao7 a.Cz[i] with
   | true => exact cn8 v hi q s
   | false => exact cn9 v hi q hf s
variable {a : aa2}
def cy6 (a : aa2) (o : ay3) : aa2 :=
 if o.Kind = 0 then (bB6 a o.Text).1 else if o.Kind = 1 then (bL0 a o.Uz o.Id o.Mode).1 else if o.Kind = 2 then (bq0 a o.Id o.Mode 200).1 else if o.Kind = 3 then (ba8 a o.Id o.Text).1 else bp0 a o.Id
theorem cy7 (v : Val a) {o : ay3} (h : o.Text.length ≤ 2000) : Val (cy6 a o) := by
 unfold cy6
 split
 ·exact bm5 v h
 ·split
  ·exact b63 v _ _ _
  ·split
   ·exact b64 v _ _ _
   ·split
    ·exact bR8 v _ h
    ·exact bR6 v _
theorem cI7 (v : Val a) {o : ay3} (w : aQ5 o) (h : o.Text.length ≤ 2000) : aN3 a o = some (cy6 a o, true) := by
 obtain ⟨_, w1, _, w2, _⟩ := w
 have hi := wfI w1
 have hm := wfI w2
 have hs := (cy7 v h).lim.same
 unfold aN3
 unfold cy6 at hs ⊢
 by_cases k0 : o.Kind = 0
 ·rw [if_pos k0] at hs ⊢
  rw [decide_eq_true k0, if_pos rfl, aN7 v.lim h, Option.bind_some, bi7 v.lim h, Option.bind_some, hs, Option.bind_some]
  simp
 rw [if_neg k0] at hs ⊢
 rw [decide_eq_false k0, if_neg (by simp)]
 by_cases k1 : o.Kind = 1
 ·rw [if_pos k1] at hs ⊢
  rw [decide_eq_true k1, if_pos rfl, bY7 v hi hm, Option.bind_some, cc6 v hi hm, Option.bind_some, hs, Option.bind_some]
  simp
 rw [if_neg k1] at hs ⊢
 rw [decide_eq_false k1, if_neg (by simp)]
 by_cases k2 : o.Kind = 2
 ·rw [if_pos k2] at hs ⊢
  rw [decide_eq_true k2, if_pos rfl, bL1 v hi, Option.bind_some, cc7 v hi, Option.bind_some, hs, Option.bind_some]
  simp
 rw [if_neg k2] at hs ⊢
 rw [decide_eq_false k2, if_neg (by simp)]
 by_cases k3 : o.Kind = 3
 ·rw [if_pos k3] at hs ⊢
  rw [decide_eq_true k3, if_pos rfl, b66 v hi h, Option.bind_some, bZ2 v hi h, Option.bind_some, hs, Option.bind_some]
  simp
 rw [if_neg k3] at hs ⊢
 rw [decide_eq_false k3, if_neg (by simp), b62 v hi, Option.bind_some, bY5 v hi, Option.bind_some, hs, Option.bind_some]
theorem co0 {p : Str} {r : Int} {k : List aa1} {n : Str} (h1 : ag9 p = true) (h2 : r = 1 ∨ r = 2) (h3 : n.length = 32) (h4 : aW5 k = 0) (h5 : bh8 k = true) : aW1 p r k n = (by2 (bm1 p r k n), 0) := by
 unfold aW1
 rw [if_neg (by rw [h1]; simp), if_pos ⟨h2, by omega⟩, if_pos h4, if_pos h5]
theorem cy8 {id : Int} {l k : List aa1} {p : Str} {r : Int} (h1 : aj4 aR4 l = (p, true)) (h2 : bi8 l = r) (hr : r = 1 ∨ r = 2) (h3 : bo9 (bY9 l) a.Kz = (k, true)) (hc : a.Nz < 9007199254740991) (hp : ag9 p = true) (h4 : aW5 k = 0) (h5 : bh8 k = true) :
  bp1 a id l = ({aK3 a id {by2 (bm1 p r k (bp9 a.Sz (Go.Lib.itoa a.Nz))) with Id := (cAt a id).Id} with Nz := a.Nz + 1}, 0) := by
 have hb : aW3 a id l = (by2 (bm1 p r k (bp9 a.Sz (Go.Lib.itoa a.Nz))), 0) := by
  unfold aW3
  rw [h1, h2, h3]
  exact co0 hp hr (bi2 _ _) h4 h5
 unfold bp1
 rw [h1, if_pos rfl, h2, if_neg (by omega), h3, if_pos rfl, if_neg (by omega), hb, if_pos rfl]
theorem bZ3 {id : Int} {s : Str} {l k : List aa1} {p : Str} {r : Int} (e0 : an3 a id = true) (e1 : 17 ≤ id) (e2 : ao7 (cAt a id) = true) (e3 : (ba7 ++ [32]).isPrefixOf s = true) (e4 : af0 (s.drop 6) = (l, 0, 0)) (h1 : aj4 aR4 l = (p, true)) (h2 : bi8 l = r) (hr : r = 1 ∨ r = 2) (h3 : bo9 (bY9 l) a.Kz = (k, true)) (hc : a.Nz < 9007199254740991) (hp : ag9 p = true) (h4 : aW5 k = 0) (h5 : bh8 k = true) :
  ba8 a id s = ({aK3 a id {by2 (bm1 p r k (bp9 a.Sz (Go.Lib.itoa a.Nz))) with Id := (cAt a id).Id} with Nz := a.Nz + 1}, (List.length s : Int), 0) := by
 unfold ba8
 rw [e0, if_pos rfl, if_neg (by omega), if_neg (by omega), if_neg (by omega), e2, if_pos rfl]
 unfold bp2
 rw [if_pos e3, e4, if_pos rfl, cy8 h1 h2 hr h3 hc hp h4 h5]
 rfl
theorem cI8 {o s : Str} {b : aa2} (h : aw5 o s = some (b, 0)) (hs : s.length ≤ 2000) : Val b ∧ b = ⟨o, s, [], 1, [], 0⟩ := by
 unfold aw5 at h
 by_cases q : decide (o = []) || decide (32 < (List.length o : Int))
 ·rw [if_pos q] at h; cases h
 ·rw [if_neg q] at h
  by_cases q2 : decide (1024 < (List.length s : Int))
  ·rw [if_pos q2] at h; cases h
  ·rw [if_neg q2] at h
   have hb : b = ⟨o, s, [], 1, [], 0⟩ := by
    have := Option.some.inj h
    exact (Prod.mk.inj this).1.symm
   subst hb
   simp only [or_eq_true, decide_eq_true_eq, not_or] at q q2
   refine ⟨⟨⟨by simp only; omega, hs, by simp, by simp, by simp, by simp⟩, aR2.2 ⟨?_, by simp, by simp, ⟨by simp, by simp⟩, ⟨by simp, by simp⟩⟩⟩, rfl⟩
   unfold bB1
   simp only [not_eq_true', or_eq_false_iff, decide_eq_false_iff_not]
   exact ⟨q.1, q.2, by omega, by omega, by omega, by omega, by omega⟩
def k1 : List aa1 := [⟨[117, 115, 101, 114], [97, 110, 110], false⟩, ⟨[33, 115, 101, 99, 114, 101, 116], [97], false⟩, ⟨[100, 111, 109], [120], false⟩]
def sN : Str := bp9 [115] (Go.Lib.itoa 0)
def a0 : aa2 := ⟨[97, 100, 109], [115], [], 1, [], 0⟩
def a1 : aa2 := ⟨[97, 100, 109], [115], [k1], 1, [], 0⟩
def a2 : aa2 := ⟨[97, 100, 109], [115], [k1], 2, [⟨1, [], 0, 0, 0, [], [], [], [], 0⟩], 0⟩
def a3 (n : Str) : aa2 := ⟨[97, 100, 109], [115], [k1], 2, [⟨1, [112, 108, 97, 105, 110], 1, 1, 0, k1, n, [], [], 0⟩], 1⟩
def a4 (n : Str) : aa2 := ⟨[97, 100, 109], [115], [k1], 2, [⟨1, [112, 108, 97, 105, 110], 1, 2, 1, k1, n, [], [], 0⟩], 1⟩
def a5 (n : Str) : aa2 := ⟨[97, 100, 109], [115], [], 2, [⟨1, [112, 108, 97, 105, 110], 1, 2, 1, k1, n, [], [], 0⟩], 1⟩
def a6 : aa2 := ⟨[97, 100, 109], [115], [], 2, [], 1⟩
def cy9 : Str := [107, 101, 121, 32, 117, 115, 101, 114, 61, 97, 110, 110, 32, 33, 115, 101, 99, 114, 101, 116, 61, 97, 32, 100, 111, 109, 61, 120]
def cI9 : Str := [107, 101, 121, 32, 117, 115, 101, 114, 61, 97, 110, 110]
def lnNo : Str := [107, 101, 121, 115]
def bm7 : Str := [115, 116, 97, 114, 116, 32, 112, 114, 111, 116, 111, 61, 112, 108, 97, 105, 110, 32, 114, 111, 108, 101, 61, 99, 108, 105, 101, 110, 116, 32, 117, 115, 101, 114, 61, 97, 110, 110]
def cz0 : Str := [100, 101, 108, 107, 101, 121, 32, 117, 115, 101, 114, 61, 97, 110, 110]
theorem al1 : bB6 a0 cy9 = (a1, 0) := by kernel_rfl
theorem al2 : bB6 a1 cI9 = (a1, 52) := by kernel_rfl
theorem al3 : bB6 a1 lnNo = (a1, 54) := by kernel_rfl
theorem al4 : bq0 a1 2 0 100 = (a1, [107, 101, 121, 32, 117, 115, 101, 114, 61, 97, 110, 110, 32, 100, 111, 109, 61, 120, 10], 0) := by kernel_rfl
theorem al5 : bL0 a1 [97, 100, 109] 4 2 = (a2, 17, 0) := by kernel_rfl
theorem al6 : bL0 a2 [98, 111, 98] 4 2 = (a2, 0, 11) := by kernel_rfl
theorem al7 : bq0 a2 17 0 100 = (a2, [], 53) := by kernel_rfl
def lS : List aa1 := [⟨[112, 114, 111, 116, 111], [112, 108, 97, 105, 110], false⟩, ⟨[114, 111, 108, 101], [99, 108, 105, 101, 110, 116], false⟩, ⟨[117, 115, 101, 114], [97, 110, 110], false⟩]
theorem al8n (n : Str) : (({aK3 a2 17 {by2 (bm1 [112, 108, 97, 105, 110] 1 k1 n) with Id := (cAt a2 17).Id} with Nz := a2.Nz + 1} : aa2), (List.length bm7 : Int), (0 : Int)) = (a3 n, 38, 0) := by kernel_rfl
theorem al8 : ba8 a2 17 bm7 = (a3 sN, 38, 0) := by
 have h := bZ3 (a := a2) (id := 17) (s := bm7) (l := lS) (k := k1) (p := [112, 108, 97, 105, 110]) (r := 1) (by kernel_rfl) (by omega) (by kernel_rfl) (by kernel_rfl) (by kernel_rfl) (by kernel_rfl) (by kernel_rfl) (.inl rfl) (by kernel_rfl) (by decide) (by kernel_rfl) (by kernel_rfl) (by kernel_rfl)
 rw [h]
 exact al8n _
theorem al9 (n : Str) : bq0 (a3 n) 17 0 100 = (a4 n, [3, 0, 97, 110, 110, 1, 0, 97], 0) := by kernel_rfl
theorem al10 (n : Str) : bB6 (a4 n) cz0 = (a5 n, 0) := by kernel_rfl
theorem al11 (n : Str) : bp0 (a5 n) 17 = a6 := by kernel_rfl
theorem cC1 : aw5 [97, 100, 109] [115] = some (a0, 0) := by kernel_rfl
theorem aW4 : af2 = some true := by
 have w17 : (-9223372036854775808 : Int) ≤ 17 ∧ (17 : Int) ≤ 9223372036854775807 := by omega
 have w2 : (-9223372036854775808 : Int) ≤ 2 ∧ (2 : Int) ≤ 9223372036854775807 := by omega
 have w4 : (-9223372036854775808 : Int) ≤ 4 ∧ (4 : Int) ≤ 9223372036854775807 := by omega
 have v0 : Val a0 := (cI8 cC1 (by decide)).1
 have v1 : Val a1 := by have := bm5 v0 (l := cy9) (by decide); rwa [al1] at this
 have v2 : Val a2 := by have := b63 v1 [97, 100, 109] 4 2; rwa [al5] at this
 have v3 : Val (a3 sN) := by have := bR8 v2 17 (s := bm7) (by decide); rwa [al8] at this
 have v4 : Val (a4 sN) := by have := b64 v3 17 0 100; rwa [al9] at this
 have v5 : Val (a5 sN) := by have := bm5 v4 (l := cz0) (by decide); rwa [al10] at this
 have v6 : Val a6 := by have := bR6 v5 17; rwa [al11] at this
 have c1 := aN7 v0.lim (l := cy9) (by decide)
 have c2 := aN7 v1.lim (l := cI9) (by decide)
 have c3 := aN7 v1.lim (l := lnNo) (by decide)
 have c4 := bL1 v1 w2 0 100
 have c5 := bY7 v1 w4 w2 [97, 100, 109]
 have c6 := bY7 v2 w4 w2 [98, 111, 98]
 have c7 := bL1 v2 w17 0 100
 have c8 := b66 v2 w17 (s := bm7) (by decide)
 have c9 := bL1 v3 w17 0 100
 have c10 := aN7 v4.lim (l := cz0) (by decide)
 have c11 := b62 v5 w17 0
 have c12 := cw1 v6.lim
 rw [v6.ok] at c12
 rw [al1] at c1
 rw [al2] at c2
 rw [al3] at c3
 rw [al4] at c4
 rw [al5] at c5
 rw [al6] at c6
 rw [al7] at c7
 rw [al8] at c8
 rw [al9] at c9
 rw [al10] at c10
 rw [al11] at c11
 unfold cy9 at c1
 unfold cI9 at c2
 unfold lnNo at c3
 unfold bm7 at c8
 unfold cz0 at c10
 have n1 : (a5 sN).Kz = [] := rfl
 have n2 : a6.Cz = [] := rfl
 have n3 : (a3 sN).Nz = 1 := rfl
 unfold af2
 simp [cC1, c1, c2, c3, c4, c5, c6, c7, c8, c9, c10, c11, c12, n1, n2, n3]
end Go.Proofs.YtiliognepodhnaaGreatDoor
