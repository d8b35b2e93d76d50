import Derived.Test.YtiliognepodhnaaGreatDoorRK
import Derived.KernelRfl
namespace Go.Proofs.YtiliognepodhnaaGreatDoor
open Go.Vm
set_option autoImplicit false
set_option linter.unusedVariables false
set_option linter.unusedSimpArgs false
set_option maxRecDepth 100000
variable {c : aa3} {a : aa2}
theorem bf7 {K : Nat} : ∀ (f : Nat) (out : List aa1) (i : Nat) (s : Str), out.length + s.length ≤ K → (∀ a ∈ out, a.Name.length ≤ K ∧ a.Value.length ≤ K) → (av3 f out i s).1.length ≤ K ∧ ∀ a ∈ (av3 f out i s).1, a.Name.length ≤ K ∧ a.Value.length ≤ K
 | 0, out, i, s, h1, h2 => ⟨by simp only [av3]; omega, by simpa only [av3] using h2⟩
 | f + 1, out, i, [], h1, h2 => ⟨by simp only [av3]; simp at h1; omega, by simpa only [av3] using h2⟩
 | f + 1, out, i, c :: r, h1, h2 => by
  simp only [List.length_cons] at h1
  rw [av3]
  split
  ·exact bf7 f out (i + 1) r (by omega) h2
  ·split
   ·rename_i hz
    have := bJ8 (b47 hz)
    simp only [List.length_cons] at this
    refine bf7 f _ _ _ (by simp only [List.length_append, List.length_cons, List.length_nil, List.length_drop]; omega) ?_
    intro a ha
    rcases List.mem_append.1 ha with ha | ha
    ·exact h2 a ha
    ·obtain rfl := List.mem_singleton.1 ha
     omega
   ·exact ⟨by simp, by simp⟩
theorem bl2 {s : Str} (h : s.length ≤ 2000) : Sh (an7 s).1 := by
 have := bf7 (K := 2000) (s.length + 1) [] 0 s (by simpa using h) (by simp)
 exact ⟨this.1, fun a ha => by have := this.2 a ha; omega⟩
theorem cr9 {l : List Int} (h : ∀ (i : Nat) (hi : i + 1 < l.length), l[i] < l[i + 1]) : l.Pairwise (fun x y => x < y) := by
 rw [List.pairwise_iff_getElem]
 intro i j hi hj hij
 induction j with
 | zero => omega
 | succ j ih =>
  rcases Nat.lt_or_ge i j with q | q
  ·exact Int.lt_trans (ih (by omega) q) (h j hj)
  ·have : i = j := by omega
   subst this; exact h i hj
theorem bt1 {i : Nat} (hi : i < a.Convs.length) : aY7 a i a.Convs[i] = true ↔ (1 ≤ (a.Convs[i]).Id ∧ (a.Convs[i]).Id < a.Next ∧ (ap1 a.Convs[i] = true ∨ ag4 a.Convs[i] = true)) ∧ ∀ (k : Nat) (hk : k + 1 = i), (a.Convs[k]'(by omega)).Id < (a.Convs[i]).Id := by
 unfold aY7
 simp only [Bool.and_eq_true, Bool.not_eq_true', decide_eq_false_iff_not, Bool.or_eq_true]
 cases i with
 | zero =>
  constructor
  ·rintro ⟨h1, h2, _, h3⟩; exact ⟨⟨by omega, by omega, h3⟩, fun k hk => by omega⟩
  ·rintro ⟨⟨h1, h2, h3⟩, _⟩; exact ⟨by omega, by omega, rfl, h3⟩
 | succ k =>
  have hk : k < a.Convs.length := by omega
  simp only [List.getElem?_eq_getElem hk, Bool.not_eq_true', decide_eq_false_iff_not]
  constructor
  ·rintro ⟨h1, h2, h4, h3⟩
   refine ⟨⟨by omega, by omega, h3⟩, fun j hj => ?_⟩
   obtain rfl : j = k := by omega
   omega
  ·rintro ⟨⟨h1, h2, h3⟩, h4⟩
   have := h4 k rfl
   exact ⟨by omega, by omega, by omega, h3⟩
structure bE9 (n : Int) (l : List aa3) : Prop where
 asc : (l.map fun c => c.Id).Pairwise (fun x y => x < y)
 ok : ∀ c ∈ l, 1 ≤ c.Id ∧ c.Id < n ∧ (ap1 c = true ∨ ag4 c = true)
theorem cf8 : bu3 (aY7 a) 0 a.Convs = true ↔ bE9 a.Next a.Convs := by
 rw [a95]
 constructor
 ·intro h
  have h' : ∀ (i : Nat) (hi : i < a.Convs.length), aY7 a i a.Convs[i] = true := fun i hi => by
   have := h i hi
   rwa [Nat.zero_add] at this
  refine ⟨cr9 fun i hi => ?_, fun c hc => ?_⟩
  ·simp only [List.length_map] at hi
   simp only [List.getElem_map]
   exact ((bt1 hi).1 (h' _ hi)).2 i rfl
  ·obtain ⟨i, hi, rfl⟩ := List.getElem_of_mem hc
   exact ((bt1 hi).1 (h' _ hi)).1
 ·intro h i hi
  rw [Nat.zero_add]
  refine (bt1 hi).2 ⟨h.ok _ (List.getElem_mem hi), fun k hk => ?_⟩
  have := List.pairwise_iff_getElem.1 h.asc k i (by simp; omega) (by simpa using hi) (by omega)
  simpa only [List.getElem_map] using this
structure bc5 (l : List (List aa1)) : Prop where
 one : (l.map pub).Pairwise (fun x y => x ≠ y)
 ok : ∀ k ∈ l, bY9 k = true
theorem cs0 {l : List (List aa1)} : bu3 (bR7 l) 0 l = true ↔ bc5 l := by
 rw [a95]
 constructor
 ·intro h
  refine ⟨?_, fun k hk => ?_⟩
  ·rw [List.pairwise_iff_getElem]
   intro i j hi hj hij e
   simp only [List.length_map] at hi hj
   simp only [List.getElem_map] at e
   have := h j hj
   unfold bR7 at this
   simp only [Bool.and_eq_true, Bool.not_eq_true', List.any_eq_false, decide_eq_true_eq, Nat.zero_add] at this
   refine this.2 l[i] ?_ e
   have hm : l[i] = (l.take j)[i]'(by simp; omega) := by simp
   rw [hm]; exact List.getElem_mem _
  ·obtain ⟨i, hi, rfl⟩ := List.getElem_of_mem hk
   have := h i hi
   unfold bR7 at this
   simp only [Bool.and_eq_true] at this
   exact this.1
 ·rintro ⟨h1, h2⟩ i hi
  unfold bR7
  simp only [Nat.zero_add, h2 _ (List.getElem_mem hi), Bool.true_and, Bool.not_eq_true', List.any_eq_false, decide_eq_true_eq]
  intro o ho e
  obtain ⟨j, hj, rfl⟩ := List.getElem_of_mem ho
  simp only [List.length_take] at hj
  have := List.pairwise_iff_getElem.1 h1 j i (by simp; omega) (by simpa using hi) (by omega)
  simp only [List.getElem_map] at this
  rw [List.getElem_take] at e
  exact this e
structure OKA (a : aa2) : Prop where
 base : bv9 a = true
 nc : a.Convs.length ≤ 32
 nk : a.Keys.length ≤ 64
 keys : bc5 a.Keys
 convs : bE9 a.Next a.Convs
theorem aK1 : aT4 a = true ↔ OKA a := by
 unfold aT4
 simp only [Bool.and_eq_true, Bool.not_eq_true', decide_eq_false_iff_not, cf8, cs0]
 constructor
 ·rintro ⟨h1, h2, h3, h4, h5⟩; exact ⟨h1, by omega, by omega, h4, h5⟩
 ·rintro ⟨h1, h2, h3, h4, h5⟩; exact ⟨h1, by omega, by omega, h4, h5⟩
theorem Val.oka (v : Val a) : OKA a := aK1.1 v.ok
theorem cf9 {n : Int} {l : List aa3} (h : bE9 n l) {i : Nat} (hi : i < l.length) {c : aa3} (hid : c.Id = (l[i]).Id) (hr : ap1 c = true ∨ ag4 c = true) : bE9 n (l.set i c) := by
 have hm : (l.set i c).map (fun c => c.Id) = l.map fun c => c.Id := by
  rw [List.map_set, hid]
  have : (l[i]).Id = (l.map fun c => c.Id)[i]'(by simpa using hi) := by simp
  rw [this, List.set_getElem_self]
 refine ⟨by rw [hm]; exact h.asc, fun x hx => ?_⟩
 rcases List.mem_or_eq_of_mem_set hx with hx | rfl
 ·exact h.ok x hx
 ·have := h.ok _ (List.getElem_mem hi)
  rw [hid]; exact ⟨this.1, this.2.1, hr⟩
theorem Val.put (v : Val a) {i : Nat} (hi : i < a.Convs.length) {c : aa3} (hid : c.Id = (a.Convs[i]).Id) (hr : ap1 c = true ∨ ag4 c = true) (hk : Sh c.Key) : Val {a with Convs := a.Convs.set i c} := by
 have h := v.lim
 have o := v.oka
 refine ⟨⟨h.owner, h.seed, h.keys, h.key, by simpa using h.convs, fun x hx => ?_⟩, aK1.2 ⟨o.base, by simpa using o.nc, o.nk, o.keys, cf9 o.convs hi hid hr⟩⟩
 rcases List.mem_or_eq_of_mem_set hx with hx | rfl
 ·exact h.conv x hx
 ·exact ⟨hk⟩
theorem Val.count (v : Val a) (h : a.Count < 9007199254740991) : Val {a with Count := a.Count + 1} := by
 have l := v.lim
 have o := v.oka
 have hb := v.base
 refine ⟨⟨l.owner, l.seed, l.keys, l.key, l.convs, l.conv⟩, aK1.2 ⟨?_, o.nc, o.nk, o.keys, o.convs⟩⟩
 have := o.base
 unfold bv9 at this ⊢
 simp only [Bool.not_eq_true', Bool.or_eq_false_iff, decide_eq_false_iff_not] at this ⊢
 refine ⟨this.1, this.2.1, this.2.2.1, this.2.2.2.1, this.2.2.2.2.1, by omega, by omega⟩
theorem Val.close (v : Val a) (i : Nat) : Val {a with Convs := a.Convs.eraseIdx i} := by
 have h := v.lim
 have o := v.oka
 have hl : (a.Convs.eraseIdx i).length ≤ a.Convs.length := (List.eraseIdx_sublist _ _).length_le
 have h1 := h.convs
 have h2 := o.nc
 refine ⟨⟨h.owner, h.seed, h.keys, h.key, by show (a.Convs.eraseIdx i).length ≤ 40; omega, fun x hx => h.conv x ((List.eraseIdx_sublist _ _).subset hx)⟩, aK1.2 ⟨o.base, by show (a.Convs.eraseIdx i).length ≤ 32; omega, o.nk, o.keys, ?_, fun x hx => o.convs.ok x ((List.eraseIdx_sublist _ _).subset hx)⟩⟩
 exact o.convs.asc.sublist ((List.eraseIdx_sublist _ _).map _)
def bZ9 (n : Int) : aa3 := ⟨n, [], 0, 0, 0, [], [], [], [], 0⟩
def cB5 (a : aa2) : aa2 := {a with Convs := a.Convs ++ [bZ9 a.Next], Next := a.Next + 1}
theorem Val.opn (v : Val a) (h : a.Convs.length < 32) (hn : a.Next < 1048560) : Val (cB5 a) := by
 have l := v.lim
 have o := v.oka
 have hb := v.base
 unfold cB5
 refine ⟨⟨l.owner, l.seed, l.keys, l.key, by simp; omega, fun x hx => ?_⟩, aK1.2 ⟨?_, by simp; omega, o.nk, o.keys, ?_, fun x hx => ?_⟩⟩
 ·rcases List.mem_append.1 hx with hx | hx
  ·exact l.conv x hx
  ·obtain rfl := List.mem_singleton.1 hx
   exact ⟨⟨by simp [bZ9], by simp [bZ9]⟩⟩
 ·have := o.base
  unfold bv9 at this ⊢
  simp only [Bool.not_eq_true', Bool.or_eq_false_iff, decide_eq_false_iff_not] at this ⊢
  refine ⟨this.1, this.2.1, this.2.2.1, by omega, by omega, this.2.2.2.2.2⟩
 ·rw [List.map_append, List.pairwise_append]
  refine ⟨o.convs.asc, by simp, fun x hx y hy => ?_⟩
  obtain ⟨c, hc, rfl⟩ := List.mem_map.1 hx
  obtain rfl := List.mem_singleton.1 hy
  exact (o.convs.ok c hc).2.1
 ·rcases List.mem_append.1 hx with hx | hx
  ·have := o.convs.ok x hx
   exact ⟨this.1, by show x.Id < a.Next + 1; omega, this.2.2⟩
  ·obtain rfl := List.mem_singleton.1 hx
   exact ⟨by show 1 ≤ a.Next; omega, by show a.Next < a.Next + 1; omega, .inl rfl⟩
theorem Val.keysTo (v : Val a) {l : List (List aa1)} (hl : l.length ≤ 64) (hk : bc5 l) (hs : ∀ k ∈ l, Sh k) : Val {a with Keys := l} := by
 have h := v.lim
 have o := v.oka
 exact ⟨⟨h.owner, h.seed, by show l.length ≤ 70; omega, hs, h.convs, h.conv⟩, aK1.2 ⟨o.base, o.nc, hl, hk, o.convs⟩⟩
theorem bS5 {l : List (List aa1)} (h : bc5 l) (p : List aa1 → Bool) : bc5 (l.filter p) :=
 ⟨h.one.sublist ((List.filter_sublist).map _), fun k hk => h.ok k (List.mem_filter.1 hk).1⟩
theorem cs1 {l : List (List aa1)} (h : bc5 l) {i : Nat} (hi : i < l.length) {k : List aa1} (hp : pub l[i] = pub k) (hk : bY9 k = true) : bc5 (l.set i k) := by
 have hm : (l.set i k).map pub = l.map pub := by
  rw [List.map_set, ← hp]
  have : pub l[i] = (l.map pub)[i]'(by simpa using hi) := by simp
  rw [this, List.set_getElem_self]
 refine ⟨by rw [hm]; exact h.one, fun x hx => ?_⟩
 rcases List.mem_or_eq_of_mem_set hx with hx | rfl
 ·exact h.ok x hx
 ·exact hk
theorem cg0 {l : List (List aa1)} (h : bc5 l) {k : List aa1} (hp : ∀ o ∈ l, pub o ≠ pub k) (hk : bY9 k = true) : bc5 (l ++ [k]) := by
 refine ⟨?_, fun x hx => ?_⟩
 ·rw [List.map_append, List.pairwise_append]
  refine ⟨h.one, by simp, fun x hx y hy => ?_⟩
  obtain ⟨c, hc, rfl⟩ := List.mem_map.1 hx
  obtain rfl := List.mem_singleton.1 hy
  exact hp c hc
 ·rcases List.mem_append.1 hx with hx | hx
  ·exact h.ok x hx
  ·obtain rfl := List.mem_singleton.1 hx; exact hk
variable {c : aa3}
def b00 (s : Str) (at_ : Nat) : Option Str := if at_ + 32 ≤ s.length then some ((s.drop at_).take 32) else none
def bL5 (c : aa3) (s : Str) : Option Str := if 0 ≤ bz6 c c.Step then b00 s (bz6 c c.Step).toNat else some c.Peer
def bF0 (c : aa3) : aa3 := {c with Phase := 4, Err := 28}
def cs2 (c : aa3) (p : Str) : Str := bt0 c c.Step (if c.Role = 1 then c.Own else p) (if c.Role = 1 then p else c.Own)
def cB6 (c : aa3) (p : Str) : aa3 := bv8 {c with Peer := p, Step := c.Step + 1}
def bL6 (c : aa3) (s p : Str) : aa3 × Int := if cs2 c p = s then (cB6 c p, 0) else (bF0 c, 28)
def aE9 (c : aa3) (s : Str) : aa3 × Int :=
 if c.Phase = 2 then (match bL5 c s with | none => (bF0 c, 28) | some p => bL6 c s p) else (c, 53)
theorem b55 {s : Str} {n : Nat} {p : Str} (h : b00 s n = some p) : p.length = 32 := by
 unfold b00 at h
 split at h
 ·obtain rfl := Option.some.inj h; simp; omega
 ·cases h
theorem bt2 (h : ah5 c.Proto = true) : c.Proto = an4 ∨ c.Proto = aM6 ∨ c.Proto = av1 := by
 unfold ah5 at h
 simpa only [Bool.or_eq_true, decide_eq_true_eq] using h
theorem bt3 (c : aa3) : phS c = 3 ∧ c.Step = aK4 c.Proto ∨ phS c = 1 ∧ c.Step ≠ aK4 c.Proto ∧ aL7 c.Proto c.Role c.Step = true ∨ phS c = 2 ∧ c.Step ≠ aK4 c.Proto ∧ aL7 c.Proto c.Role c.Step = false := by
 unfold phS
 split
 ·rename_i h; exact .inl ⟨rfl, h⟩
 ·rename_i h
  split
  ·rename_i q; exact .inr (.inl ⟨rfl, h, q⟩)
  ·rename_i q; exact .inr (.inr ⟨rfl, h, by simpa using q⟩)
theorem bf8 (h : ag4 c = true) (q : c.Phase = 2) : c.Step ≠ aK4 c.Proto ∧ c.Step ≤ 2 ∧ c.User = [] ∧ c.Err = 0 ∧ phS c = 2 ∧ aL7 c.Proto c.Role c.Step = false ∧ (if as1 c = true then c.Peer.length = 32 else c.Peer = []) := by
 obtain ⟨_, _, _, _, _, _, h7, h8⟩ := aK0 h
 have hm := bE4 c.Proto
 unfold ag4 stB bc3 aY6 at h
 simp only [Bool.and_eq_true, Bool.or_eq_true, decide_eq_true_eq] at h
 obtain ⟨_, ⟨h1, h2, h3⟩, h4⟩ := h
 have hp : phS c = 2 := by
  rcases h1 with h1 | h1
  ·omega
  ·omega
 have hn : ¬ phS c = 3 := by omega
 have n4 : ¬ (c.Phase = 4 ∧ phS c = 2) := by omega
 rw [if_neg hn] at h2
 rw [if_neg n4] at h3
 rcases bt3 c with ⟨e, _⟩ | ⟨e, _⟩ | ⟨e, e2, e3⟩
 ·omega
 ·omega
 ·refine ⟨e2, by omega, h2, h3, hp, e3, ?_⟩
  by_cases k : as1 c = true
  ·rw [if_pos k] at h4 ⊢; have := of_decide_eq_true h4; omega
  ·rw [if_neg k] at h4 ⊢; exact of_decide_eq_true h4
theorem b56 (h : ag4 c = true) (q : c.Phase = 1) : c.Step ≠ aK4 c.Proto ∧ c.Step ≤ 2 ∧ c.User = [] ∧ c.Err = 0 ∧ phS c = 1 ∧ aL7 c.Proto c.Role c.Step = true ∧ (if as1 c = true then c.Peer.length = 32 else c.Peer = []) := by
 obtain ⟨_, _, _, _, _, _, h7, h8⟩ := aK0 h
 have hm := bE4 c.Proto
 unfold ag4 stB bc3 aY6 at h
 simp only [Bool.and_eq_true, Bool.or_eq_true, decide_eq_true_eq] at h
 obtain ⟨_, ⟨h1, h2, h3⟩, h4⟩ := h
 have hp : phS c = 1 := by
  rcases h1 with h1 | h1
  ·omega
  ·omega
 have hn : ¬ phS c = 3 := by omega
 have n4 : ¬ (c.Phase = 4 ∧ phS c = 2) := by omega
 rw [if_neg hn] at h2
 rw [if_neg n4] at h3
 rcases bt3 c with ⟨e, _⟩ | ⟨e, e2, e3⟩ | ⟨e, _⟩
 ·omega
 ·refine ⟨e2, by omega, h2, h3, hp, e3, ?_⟩
  by_cases k : as1 c = true
  ·rw [if_pos k] at h4 ⊢; have := of_decide_eq_true h4; omega
  ·rw [if_neg k] at h4 ⊢; exact of_decide_eq_true h4
 ·omega
theorem bA0 {p : Str} (hp : ah5 c.Proto = true) (hr : c.Role = 1 ∨ c.Role = 2) (h0 : 0 ≤ c.Step) (h2 : c.Step ≤ 2) : as1 {c with Peer := p, Step := c.Step + 1} = (as1 c || kb c c.Step) := by
 have k1 := @bs3 c hp hr
 have k2 := @bs3 {c with Peer := p, Step := c.Step + 1} hp hr
 rw [← k1, ← k2]
 have e : ∀ n, kb {c with Peer := p, Step := c.Step + 1} n = kb c n := fun n => rfl
 have hs : c.Step = 0 ∨ c.Step = 1 ∨ c.Step = 2 := by omega
 unfold bi6
 rw [e, e, e]
 show (decide (0 < c.Step + 1) && kb c 0 || (decide (1 < c.Step + 1) && kb c 1 || decide (2 < c.Step + 1) && kb c 2)) = _
 rcases hs with h | h | h <;> rw [h] <;> simp [Bool.or_assoc]
theorem cg1 (hp : ah5 c.Proto = true) (hr : c.Role = 1 ∨ c.Role = 2) (h0 : 0 ≤ c.Step) (h2 : c.Step ≤ 2) (hk : kb c c.Step = true) : as1 c = false := by
 have hs : c.Step = 0 ∨ c.Step = 1 ∨ c.Step = 2 := by omega
 have n0 : ¬ (an4 = aM6) := by decide
 have n1 : ¬ (aM6 = an4) := by decide
 have n2 : ¬ (av1 = an4) := by decide
 have n3 : ¬ (av1 = aM6) := by decide
 have d : Int.tmod 0 2 = 0 ∧ Int.tmod 1 2 = 1 ∧ Int.tmod 2 2 = 0 := by decide
 rcases bt2 hp with h | h | h <;> rcases hr with r | r <;> rcases hs with q | q | q <;> simp [kb, bz6, aL7, br8, h, r, q, n0, n1, n2, n3, d] at hk <;> simp [as1, h, r, q, n0, n1, n2, n3]
theorem bt4 {c : aa3} (hpre : bi7 c = true) (he : c.Err = 0) (hpe : aY6 c = true) : ag4 (bv8 c) = true := by
 unfold ag4
 have e1 : bi7 (bv8 c) = bi7 c := rfl
 have e2 : aY6 (bv8 c) = aY6 c := rfl
 have hph : phS (bv8 c) = phS c := rfl
 have hne : ¬ phS c = 4 := by rcases bt3 c with h | h | h <;> omega
 rw [e1, e2, hpre, hpe]
 have hf : bc3 (bv8 c) = false := by
  unfold bc3
  show (decide (phS c = 4) && _) = false
  simp [hne]
 unfold stB
 rw [hf, hph]
 show (true && ((false || decide (phS c = phS c)) && (decide ((if phS c = 3 then usr c else []) = if phS c = 3 then usr c else []) && decide (c.Err = if false = true then 28 else 0))) && true) = true
 simp [he]
theorem b57 (h : ag4 c = true) (q : c.Phase = 1) : ag4 (bv8 {c with Step := c.Step + 1}) = true := by
 obtain ⟨i0, i1, hp, hr, hk, ho, h0, h3⟩ := aK0 h
 obtain ⟨hm, h2, hu, he, hph, hs, hpe⟩ := b56 h q
 refine bt4 ?_ he ?_
 ·unfold ag4 bi7 at h
  simp only [Bool.and_eq_true, Bool.not_eq_true', decide_eq_false_iff_not] at h
  obtain ⟨⟨g1, g2, g3, g4, g5, g6, g7, g8⟩, _⟩ := h
  unfold bi7
  simp only [Bool.and_eq_true, Bool.not_eq_true', decide_eq_false_iff_not]
  exact ⟨g1, g2, g3, g4, g5, g6, by omega, by omega⟩
 ·have kn := @bA0 c c.Peer hp hr h0 h2
  have kf : kb c c.Step = false := by unfold kb; rw [hs]; simp
  rw [kf, Bool.or_false] at kn
  unfold aY6
  have e : ({c with Peer := c.Peer, Step := c.Step + 1} : aa3) = {c with Step := c.Step + 1} := rfl
  rw [e] at kn
  rw [kn]
  show (if as1 c = true then decide ((List.length c.Peer : Int) = 32) else decide (c.Peer = [])) = true
  by_cases k : as1 c = true
  ·rw [if_pos k] at hpe ⊢; simp [hpe]
  ·rw [if_neg k] at hpe ⊢; simp [hpe]
theorem bA1 (h : ag4 c = true) (q : c.Phase = 2) : ag4 (bF0 c) = true := by
 obtain ⟨hm, h2, hu, he, hph, hs, hpe⟩ := bf8 h q
 have hpre : bi7 c = true := by unfold ag4 at h; simp only [Bool.and_eq_true] at h; exact h.1
 unfold ag4
 have e1 : bi7 (bF0 c) = bi7 c := rfl
 have e2 : aY6 (bF0 c) = aY6 c := rfl
 have hpB : aY6 c = true := by unfold ag4 at h; simp only [Bool.and_eq_true] at h; exact h.2.2
 have hp' : phS (bF0 c) = 2 := hph
 have hf : bc3 (bF0 c) = true := by
  unfold bc3
  rw [hp']; rfl
 rw [e1, e2, hpre, hpB]
 unfold stB
 rw [hf, hp']
 show (true && ((true || decide ((4 : Int) = 2)) && (decide (c.User = if (2 : Int) = 3 then usr c else []) && decide ((28 : Int) = if true = true then 28 else 0)) && true)) = true
 simp [hu]
theorem b58 (h : ag4 c = true) (q : c.Phase = 2) {s p : Str} (hl : bL5 c s = some p) : ag4 (cB6 c p) = true := by
 obtain ⟨i0, i1, hp, hr, hk, ho, h0, h3⟩ := aK0 h
 obtain ⟨hm, h2, hu, he, hph, hs, hpe⟩ := bf8 h q
 refine bt4 ?_ he ?_
 ·unfold ag4 bi7 at h
  simp only [Bool.and_eq_true, Bool.not_eq_true', decide_eq_false_iff_not] at h
  obtain ⟨⟨g1, g2, g3, g4, g5, g6, g7, g8⟩, _⟩ := h
  unfold bi7
  simp only [Bool.and_eq_true, Bool.not_eq_true', decide_eq_false_iff_not]
  exact ⟨g1, g2, g3, g4, g5, g6, by omega, by omega⟩
 ·have kn := @bA0 c p hp hr h0 h2
  unfold aY6
  rw [kn]
  show (if (as1 c || kb c c.Step) = true then decide ((List.length p : Int) = 32) else decide (p = [])) = true
  unfold bL5 at hl
  by_cases hc : 0 ≤ bz6 c c.Step
  ·rw [if_pos hc] at hl
   have := b55 hl
   have kt : kb c c.Step = true := by unfold kb; rw [hs]; simp [hc]
   rw [kt]; simp [this]
  ·rw [if_neg hc] at hl
   obtain rfl := Option.some.inj hl
   have kf : kb c c.Step = false := by unfold kb; simp [hc]
   rw [kf, Bool.or_false]
   by_cases k : as1 c = true
   ·rw [if_pos k] at hpe ⊢; simp [hpe]
   ·rw [if_neg k] at hpe ⊢; simp [hpe]
theorem bS6 (h : ag4 c = true) (s : Str) : ag4 (aE9 c s).1 = true := by
 unfold aE9
 by_cases q : c.Phase = 2
 ·rw [if_pos q]
  cases hl : bL5 c s with
  | none => exact bA1 h q
  | some p =>
   show ag4 (bL6 c s p).1 = true
   unfold bL6
   split
   ·exact b58 h q hl
   ·exact bA1 h q
 ·rw [if_neg q]; exact h
theorem bA2 (s : Str) : (aE9 c s).1.Id = c.Id ∧ (aE9 c s).1.Key = c.Key := by
 unfold aE9
 split
 ·split
  ·exact ⟨rfl, rfl⟩
  ·unfold bL6
   split <;> exact ⟨rfl, rfl⟩
 ·exact ⟨rfl, rfl⟩
theorem bL7 (c : aa3) : (a73 c).1.Id = c.Id ∧ (a73 c).1.Key = c.Key := by
 unfold a73
 split <;> exact ⟨rfl, rfl⟩
theorem bS7 (h : ag4 c = true) : ag4 (a73 c).1 = true := by
 unfold a73
 by_cases q : c.Phase = 1
 ·rw [if_pos q]; exact b57 h q
 ·rw [if_neg q]; exact h
theorem bS8 {p : Str} {r : Int} {k : List aa1} {n : Str} {id : Int} (h : (a47 p r k n).2 = 0) (h0 : 0 ≤ id) (h1 : id ≤ 1048575) : ag4 {(a47 p r k n).1 with Id := id} = true ∧ (a47 p r k n).1.Key = k := by
 unfold a47 at h ⊢
 split
 ·rename_i q; rw [if_pos q] at h; cases h
 ·rename_i q
  rw [if_neg q] at h
  split
  ·rename_i q1
   rw [if_pos q1] at h
   split
   ·rename_i q2
    rw [if_pos q2] at h
    split
    ·rename_i q3
     refine ⟨?_, rfl⟩
     have hp : ah5 p = true := by simpa using q
     have e : ({bv8 (bs9 p r k n) with Id := id} : aa3) = bv8 {bs9 p r k n with Id := id} := rfl
     show ag4 {bv8 (bs9 p r k n) with Id := id} = true
     rw [e]
     refine bt4 ?_ rfl ?_
     ·unfold bi7 bv7
      have m0 : ¬ aK4 p < 0 := by unfold aK4; split <;> (try split) <;> (try split) <;> omega
      have hr : (decide (r = 1) || decide (r = 2)) = true := by simpa using q1.1
      show (!decide (id < 0) && (!decide (1048575 < id) && (ah5 p && ((decide (r = 1) || decide (r = 2)) && (decide (a43 k = 0) && bf4 k && (decide ((List.length n : Int) = 32) && (!decide ((0 : Int) < 0) && !decide (aK4 p < 0)))))))) = true
      rw [hp, hr, q3, decide_eq_true q2, decide_eq_true q1.2, decide_eq_false m0]
      simp; omega
     ·unfold aY6 as1
      show (if (if p = an4 then decide (r = 1) && decide ((0 : Int) < 0) else if p = aM6 ∧ r = 2 then decide ((0 : Int) < 0) else decide (p = aM6) && decide ((1 : Int) < 0)) = true then decide ((List.length ([] : Str) : Int) = 32) else decide (([] : Str) = [])) = true
      simp
    ·rename_i q3; rw [if_neg q3] at h; cases h
   ·rename_i q2; rw [if_neg q2] at h; exact absurd h q2
  ·rename_i q1; rw [if_neg q1] at h; cases h
theorem cB7 {c : aa3} (h : Tl c) (hp : ah5 c.Proto = true) (n : Int) (s : Str) : (if (decide ((aa4.mk c).Conv.Proto = [99, 104, 97, 108])) then (ak0 (aa4.mk c) n).bind fun x => some (!decide (x = s)) else if (decide ((aa4.mk c).Conv.Proto = [109, 117, 116, 117, 97, 108])) then (ai2 (aa4.mk c) n).bind fun x => some (!decide (x = s)) else (ai9 (aa4.mk c) n).bind fun x => some (!decide (x = s))) = some (!decide (bt0 c n (bw1 c) (bF5 c) = s)) := by
 rcases bt2 hp with q | q | q
 ·have q' : c.Proto = [99, 104, 97, 108] := q
  simp only [q', decide_true, if_true, bZ7 h q, Option.bind_some]
 ·have q' : c.Proto = [109, 117, 116, 117, 97, 108] := q
  have n1 : ¬ ([109, 117, 116, 117, 97, 108] : Str) = [99, 104, 97, 108] := by decide
  simp only [q', n1, decide_true, decide_false, Bool.false_eq_true, if_false, if_true, cf7 h q, Option.bind_some]
 ·have q' : c.Proto = [112, 108, 97, 105, 110] := q
  have n1 : ¬ ([112, 108, 97, 105, 110] : Str) = [99, 104, 97, 108] := by decide
  have n2 : ¬ ([112, 108, 97, 105, 110] : Str) = [109, 117, 116, 117, 97, 108] := by decide
  simp only [q', n1, n2, decide_false, Bool.false_eq_true, if_false, bL4 h q, Option.bind_some]
theorem cB8 {p s : Str} (h : Tl {c with Peer := p}) (hp : ah5 c.Proto = true) (h0 : 0 ≤ c.Step) (h2 : c.Step ≤ 2) : aq7 c s {c with Peer := p} = some (if 0 ≤ bz6 c c.Step ∧ ¬ ((List.length p : Int) = 32) then (bF0 c, 28) else bL6 c s p) := by
 have hk : c.Key.length ≤ 1000000 := h.key
 have hu : (usr c).length ≤ 65535 := Nat.le_trans h.usr (by omega)
 have hs := cB7 h hp c.Step s
 have ht : bt0 {c with Peer := p} c.Step (bw1 {c with Peer := p}) (bF5 {c with Peer := p}) = cs2 c p := rfl
 rw [ht] at hs
 have hset : am7 {c with Peer := p, Step := IntKind.wrap .i64 (c.Step + 1)} = some (cB6 c p) := by
  rw [ag8 (by omega) (by omega)]
  exact a16 (c := {c with Peer := p, Step := c.Step + 1}) hp hk
 have hcop : an2 c = some c := by unfold an2; rw [aG8 hk]; rfl
 have fin : ∀ t : Bool, t = !decide (cs2 c p = s) → (if t = true then (an2 c).bind fun x20 => some ({x20 with Phase := 4, Err := 28}, (28 : Int)) else (am7 {c with Peer := p, Step := IntKind.wrap .i64 (c.Step + 1)}).bind fun x21 => some (x21, 0)) = some (bL6 c s p) := by
  rintro t rfl
  unfold bL6
  rw [hset, hcop]
  by_cases q : cs2 c p = s
  ·simp [q]
  ·simp [q, bF0]
 unfold aq7
 rw [bf5 hk hu, Option.bind_some, hs]
 by_cases hc : 0 ≤ bz6 c c.Step
 ·by_cases hl : (List.length p : Int) = 32
  ·have n1 : ¬ (0 ≤ bz6 c c.Step ∧ ¬ ((List.length p : Int) = 32)) := fun h => h.2 hl
   rw [if_neg n1, decide_eq_true hc, if_pos rfl]
   rw [show decide ((List.length ({c with Peer := p} : aa3).Peer : Int) = 32) = true from decide_eq_true hl]
   exact fin _ rfl
  ·have n1 : 0 ≤ bz6 c c.Step ∧ ¬ ((List.length p : Int) = 32) := ⟨hc, hl⟩
   rw [if_pos n1, decide_eq_true hc, if_pos rfl]
   rw [show decide ((List.length ({c with Peer := p} : aa3).Peer : Int) = 32) = false from decide_eq_false hl, hcop]
   rfl
 ·have n1 : ¬ (0 ≤ bz6 c c.Step ∧ ¬ ((List.length p : Int) = 32)) := fun h => hc h.1
  rw [if_neg n1, decide_eq_false hc, if_neg (by simp)]
  exact fin _ rfl
theorem cut32 {s : Str} {n : Nat} (h : n + 32 ≤ s.length) : cut s (n : Int) ((n : Int) + 32) = some ((s.drop n).take 32) := by
 unfold cut
 rw [if_pos ⟨by omega, by omega, by omega⟩]
 have : ((n : Int) + 32).toNat = n + 32 := by omega
 rw [this, Int.toNat_natCast, List.drop_take]
 congr 2
 omega
theorem cB9 (h : (usr c).length ≤ 5000) (n : Int) : bz6 c n ≤ 5002 := by
 unfold bz6
 split
 ·omega
 ·split
  ·omega
  ·split <;> omega
theorem cC0 (hs : aL7 c.Proto c.Role c.Step = false) : kb c c.Step = decide (0 ≤ bz6 c c.Step) := by
 unfold kb; rw [hs]; simp
theorem bL8 (h : Tl c) (hr : ag4 c = true) (s : Str) (hsl : s.length ≤ 1000000) : a10 c s = some (aE9 c s) := by
 obtain ⟨_, _, hp, hro, hok, ho, h0, _⟩ := aK0 hr
 have hcop : an2 c = some c := by unfold an2; rw [aG8 h.key]; rfl
 unfold a10 aE9
 by_cases q : c.Phase = 2
 case neg => simp [q, hcop]
 obtain ⟨hm, h2, hu, he, hph, hs, hpe⟩ := bf8 hr q
 have hul : (usr c).length ≤ 65535 := Nat.le_trans h.usr (by omega)
 have hle := cB9 h.usr c.Step
 rw [if_pos q, decide_eq_true q, Bool.not_true, if_neg (by simp), bf5 h.key hul, Option.bind_some]
 have hself : aq7 c s c = aq7 c s {c with Peer := c.Peer} := rfl
 unfold bL5
 by_cases hc : 0 ≤ bz6 c c.Step
 ·rw [if_pos hc, decide_eq_true hc, Bool.true_and]
  obtain ⟨n, hn⟩ : ∃ n : Nat, bz6 c c.Step = (n : Int) := ⟨(bz6 c c.Step).toNat, by omega⟩
  rw [hn, Int.toNat_natCast, ag8 (by omega) (by omega)]
  unfold b00
  by_cases hl : n + 32 ≤ s.length
  ·have hl' : (n : Int) + 32 ≤ (List.length s : Int) := by omega
   rw [if_pos hl, decide_eq_true hl', if_pos rfl, cut32 hl, Option.bind_some]
   have hpl : ((s.drop n).take 32).length = 32 := by simp; omega
   have ht : Tl {c with Peer := (s.drop n).take 32} := ⟨h.key, h.usr, h.sec, h.own, by rw [hpl]; omega⟩
   rw [cB8 ht hp h0 h2, if_neg (by rw [hpl]; simp)]
  ·have hl' : ¬ ((n : Int) + 32 ≤ (List.length s : Int)) := by omega
   rw [if_neg hl, decide_eq_false hl', if_neg (by simp), hself, cB8 h hp h0 h2]
   have hk := cC0 hs
   rw [decide_eq_true hc] at hk
   have hkn := cg1 hp hro h0 h2 hk
   rw [hkn] at hpe
   simp only [Bool.false_eq_true, if_false] at hpe
   rw [hpe, if_pos ⟨hc, by simp⟩]
 ·rw [if_neg hc, decide_eq_false hc, Bool.false_and, if_neg (by simp), hself, cB8 h hp h0 h2, if_neg (fun x => hc x.1)]
theorem bt5 (l : Str) (c : UInt8) : (c ∉ l ∧ Go.Lib.indexByte l c = -1) ∨ ∃ a b, l = a ++ c :: b ∧ c ∉ a ∧ Go.Lib.indexByte l c = (a.length : Int) := by
 induction l with
 | nil => exact .inl ⟨by simp, rfl⟩
 | cons x r ih =>
  by_cases hx : x = c
  ·subst hx
   exact .inr ⟨[], r, rfl, by simp, by simp [Go.Lib.indexByte]⟩
  ·have hx' : (x == c) = false := by simpa using hx
   rcases ih with ⟨h1, h2⟩ | ⟨a, b, h1, h2, h3⟩
   ·refine .inl ⟨by simp [h1, Ne.symm hx], ?_⟩
    simp [Go.Lib.indexByte, hx', h2]
   ·refine .inr ⟨x :: a, b, by rw [h1]; rfl, by simp [h2, Ne.symm hx], ?_⟩
    have : ¬ ((a.length : Int) = -1) := by omega
    simp [Go.Lib.indexByte, hx', h3, this]
def b59 : Str → Option (Str × Str)
 | [] => none
 | c :: r => if c = 32 then some ([], r) else match b59 r with | some x => some (c :: x.1, x.2) | none => none
theorem bL9 : ∀ {l : Str}, (32 : UInt8) ∉ l → b59 l = none
 | [], _ => rfl
 | c :: r, h => by
  simp only [List.mem_cons, not_or] at h
  rw [b59, if_neg (fun e => h.1 e.symm), bL9 h.2]
theorem b01 : ∀ {x b : Str}, (32 : UInt8) ∉ x → b59 (x ++ 32 :: b) = some (x, b)
 | [], b, _ => by rw [List.nil_append, b59, if_pos rfl]
 | c :: r, b, h => by
  simp only [List.mem_cons, not_or] at h
  rw [List.cons_append, b59, if_neg (fun e => h.1 e.symm), b01 h.2]
theorem cK1 {l : Str} (h : l.length ≤ 1000000) : strings_Cut l [32] = some (match b59 l with | some x => (x.1, x.2, true) | none => (l, [], false)) := by
 unfold strings_Cut stringslite_Cut
 rcases bt5 l 32 with ⟨h1, h2⟩ | ⟨x, y, rfl, h2, h3⟩
 ·have : stringslite_Index l [32] = some (-1) := by show some _ = _; rw [h2]
  rw [this, bL9 h1]; rfl
 ·have : stringslite_Index (x ++ 32 :: y) [32] = some (x.length : Int) := by show some _ = _; rw [h3]
  simp only [List.length_append, List.length_cons] at h
  have e1 : cut (x ++ 32 :: y) 0 (x.length : Int) = some x := by
   rw [aN6 (by simp)]; simp
  have e2 : cut (x ++ 32 :: y) (IntKind.wrap .i64 ((x.length : Int) + (List.length ([32] : Str) : Int))) (List.length (x ++ 32 :: y) : Int) = some y := by
   have hw : IntKind.wrap .i64 ((x.length : Int) + (List.length ([32] : Str) : Int)) = ((x.length + 1 : Nat) : Int) := by
    rw [ag8 (by simp; omega) (by simp; omega)]; simp
   rw [hw, ay7 (by simp)]
   rw [show (x ++ 32 :: y) = (x ++ [32]) ++ y by simp, List.drop_left' (by simp)]
  have h0 : (0 : Int) ≤ (x.length : Int) := by omega
  rw [this, b01 h2, Option.bind_some, decide_eq_true h0, if_pos rfl, e1, Option.bind_some, e2]; rfl
theorem bM0 : ∀ {l x y : Str}, b59 l = some (x, y) → l = x ++ 32 :: y
 | c :: r, x, y, h => by
  rw [b59] at h
  split at h
  ·rename_i q
   simp only [Option.some.injEq, Prod.mk.injEq] at h
   rw [← h.1, ← h.2, q]; rfl
  ·split at h
   ·rename_i z hz
    simp only [Option.some.injEq, Prod.mk.injEq] at h
    have := bM0 (x := z.1) (y := z.2) hz
    rw [← h.1, ← h.2, this]; rfl
   ·cases h
def bS9 (p : List aa1) (l : List (List aa1)) : Int := ixF (fun k => decide (pub k = p)) l 0
def cH1 (a : aa2) (s : Str) : aa2 × Int :=
 if (an7 s).2.2 = 0 then (if bY9 (an7 s).1 = true then (if 0 ≤ bS9 (pub (an7 s).1) a.Keys then ({a with Keys := a.Keys.set (bS9 (pub (an7 s).1) a.Keys).toNat (an7 s).1}, 0) else if 64 ≤ (List.length a.Keys : Int) then (a, 22) else ({a with Keys := a.Keys ++ [(an7 s).1]}, 0)) else (a, 52)) else (a, (an7 s).2.2)
def cg2 (p : List aa1) (l : List (List aa1)) : List (List aa1) := l.filter fun k => !(p.all (bb9 k))
def cH2 (a : aa2) (s : Str) : aa2 × Int :=
 if (an7 s).2.2 = 0 then (if (List.length (cg2 (an7 s).1 a.Keys) : Int) = (List.length a.Keys : Int) then (a, 52) else ({a with Keys := cg2 (an7 s).1 a.Keys}, 0)) else (a, (an7 s).2.2)
def cK2 : Str := [107, 101, 121]
def cK3 : Str := [100, 101, 108, 107, 101, 121]
def b60 (a : aa2) (line : Str) : aa2 × Int := match b59 line with
 | some x => if x.1 = cK2 then cH1 a x.2 else if x.1 = cK3 then cH2 a x.2 else (a, 54)
 | none => (a, 54)
theorem bt6 (p : List aa1) (l : List (List aa1)) : (bS9 p l = -1 ∧ ∀ k ∈ l, pub k ≠ p) ∨ ∃ i, ∃ h : i < l.length, bS9 p l = (i : Int) ∧ pub l[i] = p := by
 unfold bS9
 rcases aV3 (fun k => decide (pub k = p)) l 0 with ⟨h1, h2⟩ | ⟨x, k, y, h1, h2, h3, h4⟩
 ·exact .inl ⟨h2, fun k hk => by simpa using h1 k hk⟩
 ·refine .inr ⟨x.length, by rw [h1]; simp, by rw [h4]; simp, ?_⟩
  have hk : l[x.length]? = some k := by rw [h1]; simp
  have hi : x.length < l.length := by rw [h1]; simp
  rw [List.getElem?_eq_getElem hi] at hk
  rw [Option.some.inj hk]
  exact of_decide_eq_true h2
theorem cg3 {l : Str} {x : Str × Str} (h : b59 l = some x) : x.2.length ≤ l.length := by
 have := bM0 (x := x.1) (y := x.2) h
 rw [this]; simp; omega
theorem cs3 {l : List (List aa1)} {k : List aa1} (hl : l.length ≤ 1000000) (h : ∀ o ∈ l, o.length ≤ 1000000) (hk : k.length ≤ 1000000) : ae4 l k = some (bS9 (pub k) l) := by
 unfold ae4 bS9
 refine bD2 l _ _ (fun i hi => ?_) ?_
 ·simp only [ad0, dlt hi, if_true, aa8 hi, Option.bind_some, a65, bY8 (h _ (List.getElem_mem hi)) hk]
  rw [ab1 (by omega)]
  cases decide (pub l[i] = pub k) <;> rfl
 ·simp [ad0]
theorem cK4 (h : Lim a) {s : Str} (hs : s.length ≤ 2000) : a98 a s = some (cH1 a s) := by
 have h1 := h.keys
 have hk := bl2 hs
 unfold a98 cH1
 rw [ao1 h, Option.bind_some, bE1 (by omega), Option.bind_some]
 by_cases he : (an7 s).2.2 = 0
 case neg => rw [if_neg he, decide_eq_false he]; rfl
 rw [if_pos he, decide_eq_true he, Bool.not_true, if_neg (by simp), cv5 hk, Option.bind_some]
 cases bY9 (an7 s).1 with
 | false => rfl
 | true =>
  rw [Bool.not_true, if_neg (by simp), if_pos rfl, cs3 (by omega) (fun k hk => (h.key k hk).le) hk.le, Option.bind_some]
  rcases bt6 (pub (an7 s).1) a.Keys with ⟨q, _⟩ | ⟨i, hi, q, _⟩
  ·simp only [q, show ¬ (0 : Int) ≤ -1 by omega, decide_false, Bool.false_eq_true, if_false]
   by_cases q64 : 64 ≤ (List.length a.Keys : Int)
   ·rw [decide_eq_true q64, if_pos rfl, if_pos q64]
   ·rw [decide_eq_false q64, if_neg (by simp), if_neg q64, ak3 (by simp; omega) (by simp; omega)]; rfl
  ·have h0 : (0 : Int) ≤ (i : Int) := by omega
   rw [q, decide_eq_true h0, if_pos rfl, if_pos h0, aa8 hi]; rfl
theorem cg4 {α : Type} {p : α → Bool} (Q : α → Prop) {l : List α} {body : Int × Int × List α → Option (Step (Int × Int × List α) (List α))} (hl : l.length ≤ 1000000)
  (hQ : ∀ x ∈ l, Q x) (hb : ∀ (i j : Nat) (s : List α) (hi : i < s.length) (hj : j < s.length), Q s[j] → body ((i : Int), (j : Int), s) = if !p s[j] then some (.cont (IntKind.wrap .i64 ((i : Int) + 1), IntKind.wrap .i64 ((j : Int) + 1), s.set i s[j])) else some (.cont ((i : Int), IntKind.wrap .i64 ((j : Int) + 1), s)))
  (he : ∀ (i : Nat) (s : List α), i ≤ s.length → body ((i : Int), (s.length : Int), s) = some (.done (s.take i))) {i0 : Nat} (h0 : i0 < l.length) (hp0 : p l[i0] = true) (hbef : ∀ a ∈ l.take i0, p a = false) :
  aa9 body ((i0 : Int), IntKind.wrap .i64 ((i0 : Int) + 1), l) = some (l.filter fun a => !p a) := by
 have hw0 : IntKind.wrap .i64 ((i0 : Int) + 1) = ((i0 + 1 : Nat) : Int) := by rw [ag8 (by omega) (by omega)]; omega
 rw [hw0]
 have hf0 : (l.take (i0 + 1)).filter (fun a => !p a) = l.take i0 := by
  rw [List.take_succ_eq_append_getElem h0, List.filter_append, List.filter_eq_self.2 (fun a ha => by simp [hbef a ha])]
  simp [hp0]
 refine (a03 (σ := Nat × Nat × List α) body (fun x => ((x.1 : Int), (x.2.1 : Int), x.2.2)) (fun _ => l.filter fun a => !p a) (fun x => l.length - x.2.1)
  (fun x => (∀ y ∈ x.2.2, Q y) ∧ x.1 < x.2.1 ∧ x.2.1 ≤ l.length ∧ x.2.2.length = l.length ∧ x.2.2.take x.1 = (l.take x.2.1).filter (fun a => !p a) ∧ x.2.2.drop x.2.1 = l.drop x.2.1) ?_ (s0 := (i0, i0 + 1, l)) ⟨hQ, by simp, by simp only; omega, rfl, by simp only; exact hf0.symm, rfl⟩).trans rfl
 rintro ⟨i, j, s⟩ ⟨h0, h1, h2, h3, h4, h5⟩
 simp only at h0 h1 h2 h3 h4 h5
 rcases Nat.lt_or_ge j l.length with hj | hj
 ·left
  have hjs : j < s.length := by omega
  have hwi : IntKind.wrap .i64 ((i : Int) + 1) = ((i + 1 : Nat) : Int) := by rw [ag8 (by omega) (by omega)]; omega
  have hwj : IntKind.wrap .i64 ((j : Int) + 1) = ((j + 1 : Nat) : Int) := by rw [ag8 (by omega) (by omega)]; omega
  have hsj : s[j] = l[j] := by
   rw [List.drop_eq_getElem_cons hjs, List.drop_eq_getElem_cons hj] at h5
   exact (List.cons.inj h5).1
  have h5' : s.drop (j + 1) = l.drop (j + 1) := by
   rw [List.drop_eq_getElem_cons hjs, List.drop_eq_getElem_cons hj] at h5
   exact (List.cons.inj h5).2
  simp only
  rw [hb i j s (by omega) hjs (h0 _ (List.getElem_mem hjs))]
  cases hp : p s[j] with
  | true =>
   refine ⟨(i, j + 1, s), ?_, by trivial, ⟨h0, by simp only; omega, by simp only; omega, h3, ?_, h5'⟩, by simp only; omega⟩
   ·simp only [Bool.not_true, Bool.false_eq_true, if_false, hwj]
   ·simp only
    rw [h4, List.take_succ_eq_append_getElem hj, List.filter_append]
    simp [← hsj, hp]
  | false =>
   refine ⟨(i + 1, j + 1, s.set i s[j]), ?_, by trivial, ⟨fun y hy => (List.mem_or_eq_of_mem_set hy).elim (h0 y) (fun e => e ▸ h0 _ (List.getElem_mem hjs)), by simp only; omega, by simp only; omega, by simp [h3], ?_, ?_⟩, by simp only; omega⟩
   ·simp only [Bool.not_false, if_true, hwi, hwj]
   ·simp only
    rw [List.take_succ_eq_append_getElem (by simp; omega), List.getElem_set_self, List.take_set_of_le (Nat.le_refl _), h4, List.take_succ_eq_append_getElem hj, List.filter_append]
    simp [← hsj, hp]
   ·simp only
    rw [List.drop_set_of_lt (by omega)]; exact h5'
 ·right
  have : j = s.length := by omega
  subst this
  simp only
  rw [he i s (by omega), h4, List.take_of_length_le hj]
theorem cC1 {l : List (List aa1)} {p : List aa1} (hl : l.length ≤ 1000000) (h : ∀ o ∈ l, o.length ≤ 1000000) (hp : p.length ≤ 1000000) : ad2 l p = some (cg2 p l) := by
 unfold ad2 cg2
 have hix : ae5 l p = some (bc8 (fun k => p.all (bb9 k)) l) := by
  unfold ae5
  refine aR8 hl ?_ ?_
  ·intro i hi
   simp only [ad1, dlt hi, if_true, aa8 hi, Option.bind_some, aw1, bf3 (h _ (List.getElem_mem hi)) hp]
  ·simp [ad1]
 rw [hix, Option.bind_some]
 rcases bb8 (fun k => p.all (bb9 k)) l with ⟨h1, h2⟩ | ⟨i, hi, h1, h2, h3⟩
 ·rw [h1, List.filter_eq_self.2 (fun a ha => by simp only [h2 a ha]; rfl)]; rfl
 ·have : ¬ ((i : Int) = -1) := by omega
  rw [h1]
  simp only [this, decide_false, Bool.false_eq_true, if_false]
  refine cg4 (p := fun k => p.all (bb9 k)) (fun k : List aa1 => k.length ≤ 1000000) hl h ?_ ?_ hi h2 h3
  ·intro i j s hi hj hq
   simp only [ab8, dlt hj, if_true, aa8 hj, aa8 hi, Option.bind_some, aw1, bf3 hq hp, Int.toNat_natCast]
  ·intro i s hi
   simp only [ab8, dge, Bool.false_eq_true, if_false, af0, aN6 hi, Option.bind_some, Option.map_some]
theorem cg5 (h : Lim a) {s : Str} (hs : s.length ≤ 2000) : aL0 a s = some (cH2 a s) := by
 have h1 := h.keys
 have hk := bl2 hs
 unfold aL0 cH2
 rw [ao1 h, Option.bind_some, bE1 (by omega), Option.bind_some]
 by_cases he : (an7 s).2.2 = 0
 case neg => rw [if_neg he, decide_eq_false he]; rfl
 rw [if_pos he, decide_eq_true he, Bool.not_true, if_neg (by simp), cC1 (by omega) (fun k hk => (h.key k hk).le) hk.le, Option.bind_some]
 by_cases q : (List.length (cg2 (an7 s).1 a.Keys) : Int) = (List.length a.Keys : Int)
 ·rw [decide_eq_true q, if_pos rfl, if_pos q]; rfl
 ·rw [decide_eq_false q, if_neg (by simp), if_neg q]
theorem aP3 (h : Lim a) {l : Str} (hl : l.length ≤ 2000) : ag6 a l = some (b60 a l) := by
 unfold ag6 b60
 rw [cK1 (by omega), Option.bind_some]
 cases hc : b59 l with
 | none =>
  simp only [Bool.false_and, Bool.false_eq_true, if_false, ao1 h, Option.bind_some]
 | some x =>
  have hx := cg3 hc
  simp only [Bool.true_and]
  by_cases q1 : x.1 = cK2
  ·have q1' := q1; unfold cK2 at q1'
   rw [decide_eq_true q1', if_pos rfl, if_pos q1, cK4 h (by omega)]; rfl
  ·have q1' := q1; unfold cK2 at q1'
   rw [decide_eq_false q1', if_neg (by simp), if_neg q1]
   by_cases q2 : x.1 = cK3
   ·have q2' := q2; unfold cK3 at q2'
    rw [decide_eq_true q2', if_pos rfl, if_pos q2, cg5 h (by omega)]; rfl
   ·have q2' := q2; unfold cK3 at q2'
    rw [decide_eq_false q2', if_neg (by simp), if_neg q2, ao1 h]; rfl
theorem cC2 (v : Val a) {s : Str} (hs : s.length ≤ 2000) : Val (cH1 a s).1 := by
 have o := v.oka
 have hk := bl2 hs
 unfold cH1
 split
 ·split
  ·rename_i hB
   rcases bt6 (pub (an7 s).1) a.Keys with ⟨q, q2⟩ | ⟨i, hi, q, q2⟩
   ·rw [q, if_neg (by omega)]
    split
    ·exact v
    ·rename_i hn
     refine v.keysTo (by simp; omega) (cg0 o.keys q2 hB) (fun k hk' => ?_)
     rcases List.mem_append.1 hk' with hk' | hk'
     ·exact v.lim.key k hk'
     ·obtain rfl := List.mem_singleton.1 hk'; exact hk
   ·rw [q, if_pos (by omega), Int.toNat_natCast]
    refine v.keysTo (by simpa using o.nk) (cs1 o.keys hi q2 hB) (fun k hk' => ?_)
    rcases List.mem_or_eq_of_mem_set hk' with hk' | rfl
    ·exact v.lim.key k hk'
    ·exact hk
  ·exact v
 ·exact v
theorem cC3 (v : Val a) {s : Str} : Val (cH2 a s).1 := by
 have o := v.oka
 unfold cH2
 split
 ·split
  ·exact v
  ·exact v.keysTo (Nat.le_trans (List.length_filter_le _ _) o.nk) (bS5 o.keys _) (fun k hk => v.lim.key k (List.mem_filter.1 hk).1)
 ·exact v
theorem bF1 (v : Val a) {l : Str} (hl : l.length ≤ 2000) : Val (b60 a l).1 := by
 unfold b60
 cases hc : b59 l with
 | none => exact v
 | some x =>
  have hx := cg3 hc
  show Val (if x.1 = cK2 then cH1 a x.2 else if x.1 = cK3 then cH2 a x.2 else (a, 54)).1
  split
  ·exact cC2 v (by omega)
  ·split
   ·exact cC3 v
   ·exact v
def az8 (sep : UInt8) : Str → Str → List Str
 | acc, [] => [acc]
 | acc, c :: r => if c = sep then acc :: az8 sep [] r else az8 sep (acc ++ [c]) r
theorem bT0 {sep : UInt8} {a : Str} (h : sep ∉ a) (acc : Str) : az8 sep acc a = [acc ++ a] := by
 induction a generalizing acc with
 | nil => simp [az8]
 | cons c r ih =>
  simp only [List.mem_cons, not_or] at h
  rw [az8, if_neg (fun e => h.1 e.symm), ih h.2]
  simp
theorem b61 {sep : UInt8} {a b : Str} (h : sep ∉ a) (acc : Str) : az8 sep acc (a ++ sep :: b) = (acc ++ a) :: az8 sep [] b := by
 induction a generalizing acc with
 | nil => simp [az8]
 | cons c r ih =>
  simp only [List.mem_cons, not_or] at h
  rw [List.cons_append, az8, if_neg (fun e => h.1 e.symm), ih h.2]
  simp
theorem a18 {sep : UInt8} : ∀ (p acc : Str), ∀ x ∈ az8 sep acc p, x.length ≤ acc.length + p.length
 | [], acc, x, h => by simp [az8] at h; subst h; simp
 | c :: r, acc, x, h => by
  unfold az8 at h
  split at h
  ·rcases List.mem_cons.1 h with rfl | h
   ·omega
   ·have := a18 r [] x h
    simp at this ⊢; omega
  ·have := a18 r (acc ++ [c]) x h
   simp at this ⊢; omega
theorem bf9 {sep : UInt8} : ∀ (p acc : Str), (az8 sep acc p).length ≤ p.length + 1
 | [], acc => by simp [az8]
 | c :: r, acc => by
  unfold az8
  split
  ·have := bf9 (sep := sep) r []; simp; omega
  ·have := bf9 (sep := sep) r (acc ++ [c]); simp; omega
theorem bT1 {p : Str} {sep : UInt8} (h : p.length ≤ 1000000000) : aw6 p [sep] 0 (-1) = some (az8 sep [] p) := by
 unfold aw6
 simp only [show decide ((-1 : Int) = 0) = false from rfl, show decide (([sep] : Str) = []) = false by simp, show decide ((-1 : Int) < 0) = true from rfl, if_true, Bool.false_eq_true, if_false]
 have hcnt : strings_Count p [sep] = some ((p.count sep : Nat) : Int) := rfl
 have hle : p.count sep ≤ p.length := List.count_le_length
 rw [hcnt, Option.bind_some, ag8 (by omega) (by omega)]
 unfold aq6
 have hmin : min ((p.count sep : Int) + 1) (IntKind.wrap .i64 ((List.length p : Int) + 1)) = ((p.count sep + 1 : Nat) : Int) := by
  rw [ag8 (by omega) (by omega)]; omega
 have hmk : mkC 16 ([] : Str) (((p.count sep + 1 : Nat) : Int)) (((p.count sep + 1 : Nat) : Int)) = some (List.replicate (p.count sep + 1) []) := by
  unfold mkC
  rw [if_pos ⟨by omega, by omega, by omega, by omega⟩, Int.toNat_natCast]
 have hlim : IntKind.wrap .i64 (((p.count sep + 1 : Nat) : Int) - 1) = ((p.count sep : Nat) : Int) := by rw [ag8 (by omega) (by omega)]; omega
 rw [hmin, hmk, Option.bind_some]
 refine (af6 (τ := Str × Int × List Str) (p.count sep) (fun (s : Str × List Str) i => (s.1, i, s.2)) (fun s => aj5 p [sep] 0 ((p.count sep : Int) + 1) s.1 s.2.1 s.2.2)
  (fun i s => s.2.take i ++ az8 sep [] s.1) (fun i s => i + s.1.count sep = p.count sep ∧ s.2.length = p.count sep + 1 ∧ s.1.length ≤ p.length) (s0 := (p, List.replicate (p.count sep + 1) [])) ⟨by simp, by simp, Nat.le_refl _⟩ ?_ ?_).trans ?_
 ·rintro ⟨s, a⟩ i hi ⟨h1, h2, h3⟩
  simp only at h1 h2 h3
  left
  rcases bt5 s sep with ⟨hn, _⟩ | ⟨x, y, rfl, hx, hix⟩
  ·have : s.count sep = 0 := List.count_eq_zero.2 hn
   omega
  ·have hidx : strings_Index (x ++ sep :: y) [sep] = some (x.length : Int) := by
    show some _ = _
    rw [hix]
   simp only [List.length_append, List.length_cons] at h3
   have hia : i < a.length := by omega
   have e1 : cut (x ++ sep :: y) 0 (IntKind.wrap .i64 ((x.length : Int) + 0)) = some x := by
    rw [ag8 (by omega) (by omega), Int.add_zero, aN6 (by simp)]
    simp
   have e2 : cut (x ++ sep :: y) (IntKind.wrap .i64 ((x.length : Int) + (List.length ([sep] : Str) : Int))) (List.length (x ++ sep :: y) : Int) = some y := by
    have hw : IntKind.wrap .i64 ((x.length : Int) + (List.length ([sep] : Str) : Int)) = ((x.length + 1 : Nat) : Int) := by
     rw [ag8 (by simp; omega) (by simp; omega)]; simp
    rw [hw, ay7 (by simp)]
    rw [show (x ++ sep :: y) = (x ++ [sep]) ++ y by simp, List.drop_left' (by simp)]
   have hneg : ¬ ((x.length : Int) < 0) := by omega
   have hcond : (i : Int) < ((p.count sep : Nat) : Int) := by omega
   refine ⟨(y, a.set i x), ?_, ?_, ?_, by simp [h2], by simp; omega⟩
   ·simp only [aj5, hmin, hlim, hcond, decide_true, if_true, hidx, Option.bind_some, hneg, decide_false, Bool.false_eq_true, if_false, e1, e2, aa8 hia, Int.toNat_natCast]
    rw [cA0 hi (by unfold maxLen; omega)]
   ·simp only
    rw [b61 hx, List.take_succ_eq_append_getElem (by simp; omega), List.getElem_set_self, List.take_set_of_le (Nat.le_refl _)]
    simp
   ·simp only [List.count_append, List.count_cons, List.count_eq_zero.2 hx] at h1
    simp at h1 ⊢
    omega
 ·rintro ⟨s, a⟩ ⟨h1, h2, h3⟩
  simp only at h1 h2 h3
  have hc : s.count sep = 0 := by omega
  have hia : p.count sep < a.length := by omega
  have hcond : ¬ (((p.count sep : Nat) : Int) < ((p.count sep : Nat) : Int)) := by omega
  have e1 : cut (List.set a (p.count sep) s) 0 (IntKind.wrap .i64 (((p.count sep : Nat) : Int) + 1)) = some (List.take (p.count sep) a ++ [s]) := by
   rw [ag8 (by omega) (by omega)]
   have := aN6 (l := List.set a (p.count sep) s) (b := p.count sep + 1) (by simp; omega)
   rw [show ((p.count sep + 1 : Nat) : Int) = ((p.count sep : Nat) : Int) + 1 by omega] at this
   rw [this, List.take_succ_eq_append_getElem (by simp; omega), List.getElem_set_self, List.take_set_of_le (Nat.le_refl _)]
  simp only [aj5, aq5, hmin, hlim, hcond, decide_false, Bool.false_eq_true, if_false, aa8 hia, Option.bind_some, Int.toNat_natCast, e1, Option.map_some]
  rw [bT0 (List.count_eq_zero.1 hc)]
  rfl
 ·simp
theorem cs4 {p : Str} {sep : UInt8} (h : p.length ≤ 1000000000) : aG5 p [sep] = some (az8 sep [] p) := by
 unfold aG5
 rw [bT1 h]; rfl
def bg0 (a0 : aa2) : List Str → aa2 → aa2 × Int
 | [], b => (b, 0)
 | l :: r, b => if l = [] then bg0 a0 r b else if (b60 b l).2 = 0 then bg0 a0 r (b60 b l).1 else (a0, (b60 b l).2)
def aG0 (s : Str) : List Str := az8 10 [] s
theorem bF2 {a0 : aa2} (v0 : Val a0) : ∀ {l : List Str} {b : aa2}, Val b → (∀ x ∈ l, x.length ≤ 2000) → Val (bg0 a0 l b).1
 | [], b, v, _ => v
 | x :: r, b, v, h => by
  unfold bg0
  split
  ·exact bF2 v0 v fun y hy => h y (by simp [hy])
  ·split
   ·exact bF2 v0 (bF1 v (h x (by simp))) fun y hy => h y (by simp [hy])
   ·exact v0
theorem bT2 (v : Val a) {s : Str} (hs : s.length ≤ 2000) : aD1 a s = some ((bg0 a (aG0 s) a).1, if (bg0 a (aG0 s) a).2 = 0 then (List.length s : Int) else 0, (bg0 a (aG0 s) a).2) := by
 have hm : ∀ x ∈ aG0 s, x.length ≤ 2000 := fun x hx => by
  have := a18 (sep := 10) s [] x hx
  simp at this; omega
 have hn : (aG0 s).length ≤ 2001 := by
  have := bf9 (sep := 10) s []
  unfold aG0; omega
 unfold aD1
 rw [ao1 v.lim, Option.bind_some, cs4 (by omega), Option.bind_some]
 show aa9 (fun z => aj3 a s (aG0 s) z.1 z.2) (0, a) = _
 refine (af6 (aG0 s).length (fun (b : aa2) i => (i, b)) (fun z => aj3 a s (aG0 s) z.1 z.2) (fun i b => ((bg0 a ((aG0 s).drop i) b).1, if (bg0 a ((aG0 s).drop i) b).2 = 0 then (List.length s : Int) else 0, (bg0 a ((aG0 s).drop i) b).2)) (fun _ b => Val b) (s0 := a) v ?_ ?_).trans rfl
 ·intro b i hi vb
  have hl := hm _ (List.getElem_mem hi)
  rw [List.drop_eq_getElem_cons hi]
  simp only [aj3, dlt hi, if_true, aa8 hi, Option.bind_some, bg0]
  by_cases q : (aG0 s)[i] = []
  ·left
   refine ⟨b, ?_, by simp [q], vb⟩
   simp only [q, decide_true, if_true]
   rw [ab1 (by omega)]
  ·simp only [q, decide_false, Bool.false_eq_true, if_false, aP3 vb.lim hl, Option.bind_some]
   by_cases e : (b60 b (aG0 s)[i]).2 = 0
   ·left
    refine ⟨(b60 b (aG0 s)[i]).1, ?_, by simp [e], bF1 vb hl⟩
    simp only [e, decide_true, Bool.not_true, Bool.false_eq_true, if_false]
    rw [ab1 (by omega)]
   ·right
    simp only [e, decide_false, Bool.not_false, if_true, if_false, ao1 v.lim, Option.bind_some]
 ·intro b vb
  simp [aj3, bg0]
def bM1 (a : aa2) (id : Int) : aa2 := if 0 ≤ aK5 a id then {a with Convs := a.Convs.eraseIdx (aK5 a id).toNat} else a
theorem cs5 (v : Val a) {id : Int} (w : -9223372036854775808 ≤ id ∧ id ≤ 9223372036854775807) (m : Int) : aB9 a id m = some (bM1 a id) := by
 have hb := v.base
 unfold aB9 bM1
 rw [ao1 v.lim, Option.bind_some, bs5 v w, Option.bind_some]
 rcases aC4 v id with q | ⟨i, hi, q, _⟩
 ·rw [q]; rfl
 ·have h0 : (0 : Int) ≤ (i : Int) := by omega
  have hd : ag3 a.Convs (i : Int) (IntKind.wrap .i64 ((i : Int) + 1)) = some (a.Convs.eraseIdx i) := by
   have e1 : ((i : Int) + 1).toNat = i + 1 := by omega
   unfold ag3 delL
   rw [ag8 (by omega) (by omega), if_pos ⟨by omega, by omega, by omega⟩, e1, Int.toNat_natCast, List.eraseIdx_eq_take_drop_succ]
  rw [q, decide_eq_true h0, if_pos rfl, if_pos h0, hd, Option.bind_some, Int.toNat_natCast]
theorem cg6 (v : Val a) (id : Int) : Val (bM1 a id) := by
 unfold bM1
 split
 ·exact v.close _
 ·exact v
def woS (m b : Int) : Int := if 0 ≤ m ∧ Int.tmod (Int.tdiv m b) 2 = 1 then m - b else m
theorem a19 {m b : Int} (hb : b = 16 ∨ b = 64) (w : -9223372036854775808 ≤ m ∧ m ≤ 9223372036854775807) : aq4 m b = some (woS m b) := by
 unfold aq4 woS
 by_cases h : 0 ≤ m
 ·have hd : 0 ≤ Int.tdiv m b ∧ Int.tdiv m b ≤ m := by
   rcases hb with rfl | rfl <;> rw [Int.tdiv_eq_ediv_of_nonneg h] <;> omega
  have hq : cG7 .i64 m b = some (Int.tdiv m b) := by
   unfold cG7
   rw [if_neg (by omega), ag8 (by omega) (by omega)]
  rw [decide_eq_true h, if_pos rfl, hq, Option.bind_some, Option.bind_some]
  by_cases q : Int.tmod (Int.tdiv m b) 2 = 1
  ·rw [decide_eq_true q, if_pos rfl, if_pos ⟨h, q⟩, ag8 (by omega) (by omega)]
  ·rw [decide_eq_false q, if_neg (by simp), if_neg (fun z => q z.2)]
 ·rw [decide_eq_false h, if_neg (by simp), if_neg (fun z => h z.1)]; rfl
def plS (m : Int) : Int := woS (woS m 16) 64
def cs6 (m : Int) : Bool := decide (plS m < 0) || decide (3 < plS m)
theorem cK5 : ∀ m : Fin 84, cs6 (m.val : Int) = (decide (3 < Int.tmod (m.val : Int) 16) || decide (1 < Int.tmod (Int.tdiv (m.val : Int) 16) 4)) ∧ (cs6 (m.val : Int) = false → decide (woS (m.val : Int) 64 = 0) = decide (Int.tmod (m.val : Int) 64 = 0) ∧ decide (plS (m.val : Int) = 3) = decide (Int.tmod (m.val : Int) 16 = 3)) := by decide
theorem cg7 {m b : Int} (hb : b = 16 ∨ b = 64) : m - b ≤ woS m b ∧ woS m b ≤ m := by
 unfold woS
 split <;> omega
theorem cK6 (m : Int) : cs6 m = ((decide (m < 0)) || ((decide (83 < m)) || ((decide (3 < (Int.tmod m 16))) || (decide (1 < (Int.tmod (Int.tdiv m 16) 4)))))) := by
 by_cases h0 : m < 0
 ·have h1 : woS m 16 = m := by unfold woS; rw [if_neg (by omega)]
  have h2 : plS m = m := by unfold plS; rw [h1]; unfold woS; rw [if_neg (by omega)]
  unfold cs6; rw [h2]; simp [h0]
 by_cases h1 : 83 < m
 ·have a1 := cg7 (m := m) (b := 16) (.inl rfl)
  have a2 := cg7 (m := woS m 16) (b := 64) (.inr rfl)
  have : 3 < plS m := by unfold plS; omega
  unfold cs6; simp [this, h1]
 ·have hm := cK5 ⟨m.toNat, by omega⟩
  have e : ((m.toNat : Nat) : Int) = m := by omega
  simp only [e] at hm
  rw [hm.1]; simp [h0, h1]
theorem cg8 {m : Int} (h : cs6 m = false) : decide (woS m 64 = 0) = decide (Int.tmod m 64 = 0) ∧ decide (plS m = 3) = decide (Int.tmod m 16 = 3) := by
 have hb := cK6 m
 rw [h] at hb
 have hb' := hb.symm
 simp only [Bool.or_eq_false_iff, decide_eq_false_iff_not] at hb'
 have hm := cK5 ⟨m.toNat, by omega⟩
 have e : ((m.toNat : Nat) : Int) = m := by omega
 simp only [e] at hm
 exact hm.2 h
def cK7 (a : aa2) (user : Str) (id m : Int) : Bool := if id = 3 then decide (Int.tmod m 64 = 0) else decide (user = a.Owner) && !decide (Int.tmod m 16 = 3)
def b62 (a : aa2) (user : Str) (id m : Int) : Int :=
 if aj0 a id = true then (if cs6 m = true then 12 else if id = 1 then (if m = 0 then 0 else 10) else if cK7 a user id m = true then (if id = 4 ∧ (32 ≤ (List.length a.Convs : Int) ∨ 1048560 ≤ a.Next) then 22 else 0) else 11) else 8
def b63 (a : aa2) (user : Str) (id m : Int) : aa2 × Int × Int :=
 if b62 a user id m = 0 then (if id = 4 then (cB5 a, 16 + a.Next, 0) else (a, id, 0)) else (a, 0, b62 a user id m)
theorem cs7 (v : Val a) {id m : Int} (w : -9223372036854775808 ≤ id ∧ id ≤ 9223372036854775807) (wm : -9223372036854775808 ≤ m ∧ m ≤ 9223372036854775807) (user : Str) : aR0 a user id m = some (b62 a user id m) := by
 have a1 := cg7 (m := m) (b := 16) (.inl rfl)
 have hw1 : aq4 (woS m 16) 64 = some (plS m) := by
  by_cases h : m < 0
  ·have h1 : woS m 16 = m := by unfold woS; rw [if_neg (by omega)]
   unfold plS; rw [h1]; exact a19 (.inr rfl) wm
  ·exact a19 (.inr rfl) (by omega)
 unfold aR0 b62
 rw [a19 (.inl rfl) wm, Option.bind_some, hw1, Option.bind_some, aP2 v w, Option.bind_some]
 cases aj0 a id with
 | false => rfl
 | true =>
  simp only [Bool.not_true, Bool.false_eq_true, if_false, if_true]
  rw [show (decide (plS m < 0) || decide (3 < plS m)) = cs6 m from rfl]
  cases hb : cs6 m with
  | true => rfl
  | false =>
   have hg := cg8 hb
   simp only [Bool.false_eq_true, if_false]
   by_cases h1 : id = 1
   ·subst h1
    by_cases z : m = 0
    ·simp [z]
    ·simp [z]
   ·simp only [h1, decide_false, Bool.false_and, Bool.false_eq_true, if_false]
    unfold cK7
    by_cases h3 : id = 3
    ·subst h3
     simp only [decide_true, if_true, a19 (.inr rfl) wm, Option.bind_some, hg.1]
     by_cases z : Int.tmod m 64 = 0
     ·simp [z]
     ·simp [z]
    ·simp only [h3, decide_false, Bool.false_eq_true, if_false, Option.bind_some, Bool.not_false, Bool.true_and, hg.2]
     by_cases z : user = a.Owner
     ·by_cases z3 : Int.tmod m 16 = 3
      ·simp [z, z3]
      ·by_cases h4 : id = 4
       ·subst h4
        by_cases f1 : 32 ≤ (List.length a.Convs : Int)
        ·simp [z, z3, f1]
        ·by_cases f2 : 1048560 ≤ a.Next
         ·simp [z, z3, f1, f2]
         ·simp [z, z3, f1, f2]
       ·simp [z, z3, h4]
     ·simp [z]
theorem cg9 (v : Val a) {id m : Int} (w : -9223372036854775808 ≤ id ∧ id ≤ 9223372036854775807) (wm : -9223372036854775808 ≤ m ∧ m ≤ 9223372036854775807) (user : Str) : ar6 a user id m = some (b63 a user id m) := by
 have hb := v.base
 unfold ar6 b63
 rw [ao1 v.lim, Option.bind_some, cs7 v w wm, Option.bind_some]
 by_cases q : b62 a user id m = 0
 ·rw [decide_eq_true q, if_pos q, Bool.not_true, if_neg (by simp)]
  by_cases h4 : id = 4
  ·rw [decide_eq_true h4, if_pos h4, Bool.not_true, if_neg (by simp), ak3 (by simp; omega) (by simp; omega), Option.bind_some, ag8 (by omega) (by omega), ag8 (by omega) (by omega)]; rfl
  ·rw [decide_eq_false h4, if_neg h4]; rfl
 ·rw [decide_eq_false q, if_neg q]; rfl
theorem cs8 (v : Val a) (user : Str) (id m : Int) : Val (b63 a user id m).1 := by
 unfold b63
 split
 ·rename_i q
  split
  ·rename_i h4
   subst h4
   unfold b62 at q
   have n1 : ¬ (4 : Int) = 1 := by omega
   rw [if_neg n1] at q
   refine v.opn ?_ ?_
   ·apply Classical.byContradiction
    intro z
    have : (4 : Int) = 4 ∧ (32 ≤ (List.length a.Convs : Int) ∨ 1048560 ≤ a.Next) := ⟨rfl, .inl (by omega)⟩
    rw [if_pos this] at q
    split at q
    ·split at q
     ·omega
     ·split at q <;> omega
    ·omega
   ·apply Classical.byContradiction
    intro z
    have : (4 : Int) = 4 ∧ (32 ≤ (List.length a.Convs : Int) ∨ 1048560 ≤ a.Next) := ⟨rfl, .inr (by omega)⟩
    rw [if_pos this] at q
    split at q
    ·split at q
     ·omega
     ·split at q <;> omega
    ·omega
  ·exact v
 ·exact v
variable {c : aa3} {a : aa2} {id : Int}
def cAt (a : aa2) (id : Int) : aa3 := a.Convs.getD (aK5 a id).toNat cf4
def aK3 (a : aa2) (id : Int) (c : aa3) : aa2 := {a with Convs := a.Convs.set (aK5 a id).toNat c}
theorem bi8 {i : Nat} (h : i < a.Convs.length) (q : aK5 a id = (i : Int)) : cAt a id = a.Convs[i] := by
 unfold cAt
 rw [q, Int.toNat_natCast, List.getD_eq_getElem?_getD, List.getElem?_eq_getElem h]; rfl
def cs9 (a : aa2) (id : Int) (cnt : Int) : aa2 × Str × Int :=
 if ap1 (cAt a id) = true then (a, [], 53) else if (a73 (cAt a id)).2.2 = 0 then (if cnt < (List.length (a73 (cAt a id)).2.1 : Int) then (a, [], 3) else (aK3 a id (a73 (cAt a id)).1, (a73 (cAt a id)).2.1, 0)) else (a, [], (a73 (cAt a id)).2.2)
def bw2 (a : aa2) (id off cnt : Int) : aa2 × Str × Int :=
 if aj0 a id = true then (if id = 1 then (a, [], 10) else if off < 0 ∨ cnt < 0 then (a, [], 1) else if 0 ≤ aK5 a id then cs9 a id (min cnt 65536) else (a, cq4 (bf6 a id) off (min cnt 65536), 0)) else (a, [], 8)
theorem cC4 (v : Val a) {i : Nat} (hi : i < a.Convs.length) (q : aK5 a id = (i : Int)) (cnt : Int) : a05 a (i : Int) cnt = some (cs9 a id cnt) := by
 have hv := v.convAt hi
 have hk := (v.lim.conv _ (List.getElem_mem hi)).key
 unfold a05 cs9 aK3
 rw [bi8 hi q, q, Int.toNat_natCast, ao1 v.lim, Option.bind_some, aa8 hi, Option.bind_some, bE5, Option.bind_some]
 cases hf : ap1 a.Convs[i] with
 | true => rfl
 | false =>
  have hr : ag4 a.Convs[i] = true := by
   rcases hv.2.2 with h | h
   ·rw [hf] at h; cases h
   ·exact h
  obtain ⟨_, _, hp, _, _, _, h0, h3⟩ := aK0 hr
  have hm := bE4 (a.Convs[i]).Proto
  simp only [Bool.false_eq_true, if_false, Option.bind_some, bS4 (bZ8 hk hr) hp h0 (by omega)]
  by_cases e : (a73 a.Convs[i]).2.2 = 0
  ·simp only [e, decide_true, Bool.not_true, Bool.false_eq_true, if_false, if_true]
   by_cases l : cnt < (List.length (a73 a.Convs[i]).2.1 : Int)
   ·simp only [l, decide_true, if_true]
   ·simp only [l, decide_false, Bool.false_eq_true, if_false]
  ·simp only [e, decide_false, Bool.not_false, if_true, if_false]
theorem bt7 (v : Val a) (w : -9223372036854775808 ≤ id ∧ id ≤ 9223372036854775807) (off cnt : Int) : ai0 a id off cnt = some (bw2 a id off cnt) := by
 rcases aC4 v id with q | ⟨i, hi, q, q2⟩
 ·rw [cq5 v w q]
  unfold bK9 bw2
  rw [q]
  simp only [show ¬ (0 : Int) ≤ -1 by omega, if_false]
 ·have h0 : (0 : Int) ≤ (i : Int) := by omega
  have he : aj0 a id = true := by unfold aj0; rw [q]; simp
  have n1 : ¬ id = 1 := by omega
  unfold ai0 bw2
  rw [ao1 v.lim, Option.bind_some, aP2 v w, Option.bind_some, he, if_pos rfl, decide_eq_false n1, if_neg n1]
  by_cases h2 : off < 0 ∨ cnt < 0
  ·have : (decide (off < 0) || decide (cnt < 0)) = true := by simpa using h2
   simp [h2, this]
  ·have h2' : (decide (off < 0) || decide (cnt < 0)) = false := by
    rw [Bool.or_eq_false_iff, decide_eq_false_iff_not, decide_eq_false_iff_not]; omega
   simp only [h2, h2', Bool.not_true, Bool.false_eq_true, if_false, bs5 v w, Option.bind_some]
   rw [q]
   simp only [h0, decide_true, if_true, cC4 v hi q, Option.bind_some]
theorem ct0 (v : Val a) (id off cnt : Int) : Val (bw2 a id off cnt).1 := by
 unfold bw2
 split
 ·split
  ·exact v
  ·split
   ·exact v
   ·split
    ·rename_i hc
     unfold cs9
     rcases aC4 v id with q | ⟨i, hi, q, _⟩
     ·omega
     ·rw [bi8 hi q]
      have hv := v.convAt hi
      have hk := (v.lim.conv _ (List.getElem_mem hi)).key
      cases hf : ap1 a.Convs[i] with
      | true => exact v
      | false =>
       have hr : ag4 a.Convs[i] = true := by
        rcases hv.2.2 with h | h
        ·rw [hf] at h; cases h
        ·exact h
       simp only [Bool.false_eq_true, if_false]
       split
       ·split
        ·exact v
        ·unfold aK3
         rw [q, Int.toNat_natCast]
         exact v.put hi (bL7 _).1 (.inr (bS7 hr)) (by rw [(bL7 _).2]; exact hk)
       ·exact v
    ·exact v
 ·exact v
def bc6 : Str := [112, 114, 111, 116, 111]
def ct1 : Str := [114, 111, 108, 101]
def bw3 (l : List aa1) : Int := if aJ8 ct1 l = aS2 then 1 else if aJ8 ct1 l = aS1 then 2 else 0
def ch0 (l : List aa1) : List aa1 := (l.filter fun x => !decide (x.Name = bc6)).filter fun x => !decide (x.Name = ct1)
def aY9 (a : aa2) (id : Int) (l : List aa1) : aa3 × Int := a47 (am1 bc6 l).1 (bw3 l) (bF4 (ch0 l) a.Keys).1 (bS3 a.Seed (Go.Lib.itoa a.Count))
def bM2 (a : aa2) (id : Int) (l : List aa1) : aa2 × Int :=
 if (am1 bc6 l).2 = true then (if bw3 l = 0 then (a, 1) else if (bF4 (ch0 l) a.Keys).2 = true then (if 9007199254740991 ≤ a.Count then (a, 22) else if (aY9 a id l).2 = 0 then ({aK3 a id {(aY9 a id l).1 with Id := (cAt a id).Id} with Count := a.Count + 1}, 0) else (a, (aY9 a id l).2)) else (a, 52)) else (a, 53)
def bt8 : Str := [115, 116, 97, 114, 116]
def bA3 (a : aa2) (id : Int) (s : Str) : aa2 × Int :=
 if (bt8 ++ [32]).isPrefixOf s = true then (if (an7 (s.drop 6)).2.2 = 0 then bM2 a id (an7 (s.drop 6)).1 else (a, (an7 (s.drop 6)).2.2)) else (a, 53)
def bM3 (a : aa2) (id : Int) (s : Str) : aa2 × Int :=
 if (aE9 (cAt a id) s).2 = 0 ∨ (aE9 (cAt a id) s).2 = 28 then (aK3 a id (aE9 (cAt a id) s).1, (aE9 (cAt a id) s).2) else (a, (aE9 (cAt a id) s).2)
def ch1 (s : Str) (x : aa2 × Int) : aa2 × Int × Int := (x.1, if x.2 = 0 then (List.length s : Int) else 0, x.2)
def bt9 (a : aa2) (id : Int) (s : Str) : aa2 × Int × Int :=
 if aj0 a id = true then (if id = 1 then (a, 0, 10) else if id = 3 ∨ id = 4 then (a, 0, 11) else if id = 2 then ch1 s (bg0 a (aG0 s) a) else if ap1 (cAt a id) = true then ch1 s (bA3 a id s) else ch1 s (bM3 a id s)) else (a, 0, 8)
theorem cC5 {l : List aa1} (h : l.length ≤ 1000000) : (ch0 l).length ≤ 1000000 :=
 Nat.le_trans (List.length_filter_le _ _) (Nat.le_trans (List.length_filter_le _ _) h)
theorem cC6 {l : List aa1} (h : l.length ≤ 1000000) : a08 l = some (bw3 l, !decide (bw3 l = 0)) := by
 unfold a08 bw3 aJ8 ct1 aS2 aS1
 rw [bf1 h, Option.bind_some]
 by_cases q1 : (am1 [114, 111, 108, 101] l).1 = [99, 108, 105, 101, 110, 116]
 ·simp [q1]
 ·by_cases q2 : (am1 [114, 111, 108, 101] l).1 = [115, 101, 114, 118, 101, 114]
  ·simp [q1, q2]
  ·simp [q1, q2]
theorem ch2 (v : Val a) {i : Nat} (hi : i < a.Convs.length) (q : aK5 a id = (i : Int)) {s : Str} (hs : s.length ≤ 2000) : aE2 a (i : Int) s = some (ch1 s (bA3 a id s)) := by
 have hb := v.base
 have hk := bl2 (s := s.drop 6) (by rw [List.length_drop]; omega)
 have hl := hk.le
 have hl1 : ((an7 (s.drop 6)).1.filter fun x => !decide (x.Name = [112, 114, 111, 116, 111])).length ≤ 1000000 := Nat.le_trans (List.length_filter_le _ _) hl
 unfold aE2 bA3
 rw [ao1 v.lim, Option.bind_some]
 unfold strings_CutPrefix stringslite_CutPrefix
 rw [aY2, Option.bind_some, show ([115, 116, 97, 114, 116, 32] : Str) = bt8 ++ [32] from rfl]
 by_cases hp : (bt8 ++ [32]).isPrefixOf s = true
 case neg =>
  rw [Bool.not_eq_true] at hp
  rw [hp]; rfl
 have hpl : 6 ≤ s.length := by
  have := (List.isPrefixOf_iff_prefix.1 hp).length_le
  simpa [bt8] using this
 have hcut : cut s (List.length (bt8 ++ [32]) : Int) (List.length s : Int) = some (s.drop 6) := ay7 (a := 6) (by omega)
 rw [if_pos hp, hp, hcut]
 simp only [Bool.not_true, Bool.false_eq_true, if_false, Option.bind_some, bE1 (show (s.drop 6).length ≤ 1000000 by rw [List.length_drop]; omega)]
 by_cases he : (an7 (s.drop 6)).2.2 = 0
 case neg => simp only [he, decide_false, Bool.not_false, if_true, if_false, ch1]
 simp only [he, decide_true, Bool.not_true, Bool.false_eq_true, if_false, if_true, bf1 hl, Option.bind_some, cC6 hl, bz5 hl, bz5 hl1]
 generalize hP : (an7 (s.drop 6)).1 = l at hk hl hl1 ⊢
 have hpat : ((l.filter fun x => !decide (x.Name = [112, 114, 111, 116, 111])).filter fun x => !decide (x.Name = [114, 111, 108, 101])) = ch0 l := rfl
 rw [hpat, cJ0 v.lim (cC5 hl), Option.bind_some]
 unfold bM2
 rw [show am1 [112, 114, 111, 116, 111] l = am1 bc6 l from rfl]
 cases hf : (am1 bc6 l).2 with
 | false => rfl
 | true =>
  simp only [Bool.not_true, Bool.false_eq_true, if_false, if_true, Bool.not_not]
  by_cases hr : bw3 l = 0
  ·simp only [hr, decide_true, if_true, ch1]; rfl
  ·simp only [hr, decide_false, Bool.false_eq_true, if_false]
   cases hkk : (bF4 (ch0 l) a.Keys).2 with
   | false => rfl
   | true =>
    have hsh : Sh (bF4 (ch0 l) a.Keys).1 := v.lim.key _ (bE6 hkk)
    simp only [Bool.not_true, Bool.false_eq_true, if_false, if_true]
    by_cases hc : 9007199254740991 ≤ a.Count
    ·simp only [hc, decide_true, if_true, ch1]; rfl
    ·have hit : (Go.Lib.itoa a.Count).length ≤ 1000000 := Nat.le_trans (Go.Lib.itoa_length_le _ (by omega) (by omega)) (by omega)
     simp only [hc, decide_false, Bool.false_eq_true, if_false, br6 (show -9223372036854775808 ≤ a.Count by omega) (show a.Count ≤ 9223372036854775807 by omega), Option.bind_some, cw2 (show a.Seed.length ≤ 100000000000 by omega) (show (Go.Lib.itoa a.Count).length ≤ 100000000000 by omega), cr8 hsh]
     rw [show a47 (am1 bc6 l).1 (bw3 l) (bF4 (ch0 l) a.Keys).1 (bS3 a.Seed (Go.Lib.itoa a.Count)) = aY9 a id l from rfl]
     by_cases hz : (aY9 a id l).2 = 0
     ·have hw : IntKind.wrap .i64 (a.Count + 1) = a.Count + 1 := ag8 (by omega) (by omega)
      simp only [hz, decide_true, Bool.not_true, Bool.false_eq_true, if_false, if_true, aa8 hi, Option.bind_some, hw, aK3, bi8 hi q, q, Int.toNat_natCast, ch1]
     ·simp only [hz, decide_false, Bool.not_false, if_true, if_false, ch1]
theorem b64 (c : aa3) (s : Str) : (aE9 c s).2 = 0 ∨ (aE9 c s).2 = 28 ∨ (aE9 c s).2 = 53 := by
 unfold aE9
 split
 ·split
  ·exact .inr (.inl rfl)
  ·unfold bL6
   split
   ·exact .inl rfl
   ·exact .inr (.inl rfl)
 ·exact .inr (.inr rfl)
theorem ch3 (v : Val a) {i : Nat} (hi : i < a.Convs.length) (hf : ap1 a.Convs[i] = false) : ag4 a.Convs[i] = true ∧ Tl a.Convs[i] := by
 have hk := (v.lim.conv _ (List.getElem_mem hi)).key
 have hr : ag4 a.Convs[i] = true := by
  rcases (v.convAt hi).2.2 with h | h
  ·rw [hf] at h; cases h
  ·exact h
 exact ⟨hr, bZ8 hk hr⟩
theorem ct2 (v : Val a) {i : Nat} (hi : i < a.Convs.length) (q : aK5 a id = (i : Int)) (hf : ap1 a.Convs[i] = false) {s : Str} (hs : s.length ≤ 2000) : aB8 a (i : Int) s = some (ch1 s (bM3 a id s)) := by
 obtain ⟨hr, ht⟩ := ch3 v hi hf
 unfold aB8 bM3
 rw [ao1 v.lim, Option.bind_some, aa8 hi, Option.bind_some, bL8 ht hr s (by omega), Option.bind_some, bi8 hi q]
 unfold aD3 ch1 aK3
 rw [q, Int.toNat_natCast, Option.bind_some]
 rcases b64 a.Convs[i] s with e | e | e <;> simp [e]
theorem bu0 (v : Val a) (he : aj0 a id = true) (h : ¬ (1 ≤ id ∧ id ≤ 4)) : ∃ i, ∃ hi : i < a.Convs.length, aK5 a id = (i : Int) := by
 rcases aC4 v id with q | ⟨i, hi, q, _⟩
 ·unfold aj0 at he
  rw [q] at he
  simp only [Bool.or_eq_true, Bool.and_eq_true, decide_eq_true_eq] at he
  omega
 ·exact ⟨i, hi, q⟩
theorem ct3 (v : Val a) (w : -9223372036854775808 ≤ id ∧ id ≤ 9223372036854775807) {s : Str} (hs : s.length ≤ 2000) : an3 a id s = some (bt9 a id s) := by
 unfold an3 bt9
 rw [bs5 v w, Option.bind_some, aP2 v w, Option.bind_some]
 cases he : aj0 a id with
 | false => simp only [Bool.not_false, if_true, ao1 v.lim, Option.bind_some, Bool.false_eq_true, if_false]
 | true =>
  simp only [Bool.not_true, Bool.false_eq_true, if_false, if_true]
  by_cases h1 : id = 1
  ·simp only [h1, decide_true, if_true, ao1 v.lim, Option.bind_some]
  by_cases h34 : id = 3 ∨ id = 4
  ·have e : (decide (id = 3) || decide (id = 4)) = true := by simpa using h34
   simp only [h1, h34, e, decide_false, Bool.false_eq_true, if_false, if_true, ao1 v.lim, Option.bind_some]
  have e : (decide (id = 3) || decide (id = 4)) = false := by
   rw [Bool.or_eq_false_iff, decide_eq_false_iff_not, decide_eq_false_iff_not]; omega
  by_cases h2 : id = 2
  ·simp only [h1, h34, e, decide_false, Bool.false_eq_true, if_false]
   rw [decide_eq_true h2, if_pos rfl, if_pos h2, bT2 v hs]; rfl
  ·obtain ⟨i, hi, q⟩ := bu0 v he (by omega)
   simp only [h1, h34, h2, e, decide_false, Bool.false_eq_true, if_false]
   rw [q, aa8 hi, Option.bind_some, bE5, Option.bind_some, bi8 hi q]
   cases hf : ap1 a.Convs[i] with
   | true => rw [if_pos rfl, if_pos rfl, ch2 (id := id) v hi q hs]; rfl
   | false => rw [if_neg (by simp), if_neg (by simp), ct2 (id := id) v hi q hf hs]; rfl
theorem ch4 (v : Val a) {i : Nat} (hi : i < a.Convs.length) (q : aK5 a id = (i : Int)) (s : Str) : Val (bA3 a id s).1 := by
 have hb := v.base
 unfold bA3
 split
 ·split
  ·unfold bM2
   generalize (an7 (s.drop 6)).1 = l
   split
   ·split
    ·exact v
    ·split
     ·rename_i hkk
      split
      ·exact v
      ·split
       ·rename_i hz
        have hcv := v.conv (List.getElem_mem hi)
        have hsh : Sh (bF4 (ch0 l) a.Keys).1 := v.lim.key _ (bE6 hkk)
        have hz' := hz
        unfold aY9 at hz'
        obtain ⟨r1, r2⟩ := bS8 (id := (a.Convs[i]).Id) hz' (by omega) (by omega)
        have hp : Val {a with Convs := a.Convs.set i {(aY9 a id l).1 with Id := (a.Convs[i]).Id}} := v.put hi rfl (.inr r1) (by
         show Sh (aY9 a id l).1.Key
         unfold aY9
         rw [r2]; exact hsh)
        have := hp.count (by show a.Count < 9007199254740991; omega)
        unfold aK3
        rw [q, bi8 hi q, Int.toNat_natCast]
        exact this
       ·exact v
     ·exact v
   ·exact v
  ·exact v
 ·exact v
theorem ch5 (v : Val a) {i : Nat} (hi : i < a.Convs.length) (q : aK5 a id = (i : Int)) (hf : ap1 a.Convs[i] = false) (s : Str) : Val (bM3 a id s).1 := by
 obtain ⟨hr, ht⟩ := ch3 v hi hf
 have hk := (v.lim.conv _ (List.getElem_mem hi)).key
 unfold bM3 aK3
 rw [q, bi8 hi q, Int.toNat_natCast]
 split
 ·exact v.put hi (bA2 s).1 (.inr (bS6 hr s)) (by rw [(bA2 s).2]; exact hk)
 ·exact v
theorem ch6 (v : Val a) (id : Int) {s : Str} (hs : s.length ≤ 2000) : Val (bt9 a id s).1 := by
 unfold bt9
 cases he : aj0 a id with
 | false => exact v
 | true =>
  simp only [if_true]
  by_cases h1 : id = 1
  ·rw [if_pos h1]; exact v
  rw [if_neg h1]
  by_cases h34 : id = 3 ∨ id = 4
  ·rw [if_pos h34]; exact v
  rw [if_neg h34]
  by_cases h2 : id = 2
  ·rw [if_pos h2]
   exact bF2 v v fun x hx => by
    have := a18 (sep := 10) s [] x hx
    simp at this; omega
  ·rw [if_neg h2]
   obtain ⟨i, hi, q⟩ := bu0 v he (by omega)
   rw [bi8 hi q]
   cases hf : ap1 a.Convs[i] with
   | true => exact ch4 v hi q s
   | false => exact ch5 v hi q hf s
variable {a : aa2}
theorem ch7 {p : Str} {r : Int} {k : List aa1} {n : Str} (h1 : ah5 p = true) (h2 : r = 1 ∨ r = 2) (h3 : n.length = 32) (h4 : a43 k = 0) (h5 : bf4 k = true) : a47 p r k n = (bv8 (bs9 p r k n), 0) := by
 unfold a47
 rw [if_neg (by rw [h1]; simp), if_pos ⟨h2, by omega⟩, if_pos h4, if_pos h5]
theorem ct4 {id : Int} {l k : List aa1} {p : Str} {r : Int} (h1 : am1 bc6 l = (p, true)) (h2 : bw3 l = r) (hr : r = 1 ∨ r = 2) (h3 : bF4 (ch0 l) a.Keys = (k, true)) (hc : a.Count < 9007199254740991) (hp : ah5 p = true) (h4 : a43 k = 0) (h5 : bf4 k = true) :
  bM2 a id l = ({aK3 a id {bv8 (bs9 p r k (bS3 a.Seed (Go.Lib.itoa a.Count))) with Id := (cAt a id).Id} with Count := a.Count + 1}, 0) := by
 have hb : aY9 a id l = (bv8 (bs9 p r k (bS3 a.Seed (Go.Lib.itoa a.Count))), 0) := by
  unfold aY9
  rw [h1, h2, h3]
  exact ch7 hp hr (bE8 _ _) h4 h5
 unfold bM2
 rw [h1, if_pos rfl, h2, if_neg (by omega), h3, if_pos rfl, if_neg (by omega), hb, if_pos rfl]
theorem bT3 {id : Int} {s : Str} {l k : List aa1} {p : Str} {r : Int} (e0 : aj0 a id = true) (e1 : 17 ≤ id) (e2 : ap1 (cAt a id) = true) (e3 : (bt8 ++ [32]).isPrefixOf s = true) (e4 : an7 (s.drop 6) = (l, 0, 0)) (h1 : am1 bc6 l = (p, true)) (h2 : bw3 l = r) (hr : r = 1 ∨ r = 2) (h3 : bF4 (ch0 l) a.Keys = (k, true)) (hc : a.Count < 9007199254740991) (hp : ah5 p = true) (h4 : a43 k = 0) (h5 : bf4 k = true) :
  bt9 a id s = ({aK3 a id {bv8 (bs9 p r k (bS3 a.Seed (Go.Lib.itoa a.Count))) with Id := (cAt a id).Id} with Count := a.Count + 1}, (List.length s : Int), 0) := by
 unfold bt9
 rw [e0, if_pos rfl, if_neg (by omega), if_neg (by omega), if_neg (by omega), e2, if_pos rfl]
 unfold bA3
 rw [if_pos e3, e4, if_pos rfl, ct4 h1 h2 hr h3 hc hp h4 h5]
 rfl
theorem cC7 {o s : Str} {b : aa2} (h : at7 o s = some (b, 0)) (hs : s.length ≤ 2000) : Val b ∧ b = ⟨o, s, [], 1, [], 0⟩ := by
 unfold at7 at h
 by_cases q : decide (o = []) || decide (32 < (List.length o : Int))
 ·rw [if_pos q] at h; cases h
 ·rw [if_neg q] at h
  by_cases q2 : decide (1024 < (List.length s : Int))
  ·rw [if_pos q2] at h; cases h
  ·rw [if_neg q2] at h
   have hb : b = ⟨o, s, [], 1, [], 0⟩ := by
    have := Option.some.inj h
    exact (Prod.mk.inj this).1.symm
   subst hb
   simp only [Bool.or_eq_true, decide_eq_true_eq, not_or] at q q2
   refine ⟨⟨⟨by simp only; omega, hs, by simp, by simp, by simp, by simp⟩, aK1.2 ⟨?_, by simp, by simp, ⟨by simp, by simp⟩, ⟨by simp, by simp⟩⟩⟩, rfl⟩
   unfold bv9
   simp only [Bool.not_eq_true', Bool.or_eq_false_iff, decide_eq_false_iff_not]
   exact ⟨q.1, q.2, by omega, by omega, by omega, by omega, by omega⟩
def k1 : List aa1 := [⟨[117, 115, 101, 114], [97, 110, 110], false⟩, ⟨[33, 115, 101, 99, 114, 101, 116], [97], false⟩, ⟨[100, 111, 109], [120], false⟩]
def sN : Str := bS3 [115] (Go.Lib.itoa 0)
def a0 : aa2 := ⟨[97, 100, 109], [115], [], 1, [], 0⟩
def a1 : aa2 := ⟨[97, 100, 109], [115], [k1], 1, [], 0⟩
def a2 : aa2 := ⟨[97, 100, 109], [115], [k1], 2, [⟨1, [], 0, 0, 0, [], [], [], [], 0⟩], 0⟩
def a3 (n : Str) : aa2 := ⟨[97, 100, 109], [115], [k1], 2, [⟨1, [112, 108, 97, 105, 110], 1, 1, 0, k1, n, [], [], 0⟩], 1⟩
def a4 (n : Str) : aa2 := ⟨[97, 100, 109], [115], [k1], 2, [⟨1, [112, 108, 97, 105, 110], 1, 2, 1, k1, n, [], [], 0⟩], 1⟩
def a5 (n : Str) : aa2 := ⟨[97, 100, 109], [115], [], 2, [⟨1, [112, 108, 97, 105, 110], 1, 2, 1, k1, n, [], [], 0⟩], 1⟩
def a6 : aa2 := ⟨[97, 100, 109], [115], [], 2, [], 1⟩
def ct5 : Str := [107, 101, 121, 32, 117, 115, 101, 114, 61, 97, 110, 110, 32, 33, 115, 101, 99, 114, 101, 116, 61, 97, 32, 100, 111, 109, 61, 120]
def cC8 : Str := [107, 101, 121, 32, 117, 115, 101, 114, 61, 97, 110, 110]
def lnNo : Str := [107, 101, 121, 115]
def bg1 : Str := [115, 116, 97, 114, 116, 32, 112, 114, 111, 116, 111, 61, 112, 108, 97, 105, 110, 32, 114, 111, 108, 101, 61, 99, 108, 105, 101, 110, 116, 32, 117, 115, 101, 114, 61, 97, 110, 110]
def ct6 : Str := [100, 101, 108, 107, 101, 121, 32, 117, 115, 101, 114, 61, 97, 110, 110]
theorem al1 : b60 a0 ct5 = (a1, 0) := by kernel_rfl
theorem al2 : b60 a1 cC8 = (a1, 52) := by kernel_rfl
theorem al3 : b60 a1 lnNo = (a1, 54) := by kernel_rfl
theorem al4 : bw2 a1 2 0 100 = (a1, [107, 101, 121, 32, 117, 115, 101, 114, 61, 97, 110, 110, 32, 100, 111, 109, 61, 120, 10], 0) := by kernel_rfl
theorem al5 : b63 a1 [97, 100, 109] 4 2 = (a2, 17, 0) := by kernel_rfl
theorem al6 : b63 a2 [98, 111, 98] 4 2 = (a2, 0, 11) := by kernel_rfl
theorem al7 : bw2 a2 17 0 100 = (a2, [], 53) := by kernel_rfl
def lS : List aa1 := [⟨[112, 114, 111, 116, 111], [112, 108, 97, 105, 110], false⟩, ⟨[114, 111, 108, 101], [99, 108, 105, 101, 110, 116], false⟩, ⟨[117, 115, 101, 114], [97, 110, 110], false⟩]
theorem al8n (n : Str) : (({aK3 a2 17 {bv8 (bs9 [112, 108, 97, 105, 110] 1 k1 n) with Id := (cAt a2 17).Id} with Count := a2.Count + 1} : aa2), (List.length bg1 : Int), (0 : Int)) = (a3 n, 38, 0) := by kernel_rfl
theorem al8 : bt9 a2 17 bg1 = (a3 sN, 38, 0) := by
 have h := bT3 (a := a2) (id := 17) (s := bg1) (l := lS) (k := k1) (p := [112, 108, 97, 105, 110]) (r := 1) (by kernel_rfl) (by omega) (by kernel_rfl) (by kernel_rfl) (by kernel_rfl) (by kernel_rfl) (by kernel_rfl) (.inl rfl) (by kernel_rfl) (by decide) (by kernel_rfl) (by kernel_rfl) (by kernel_rfl)
 rw [h]
 exact al8n _
theorem al9 (n : Str) : bw2 (a3 n) 17 0 100 = (a4 n, [3, 0, 97, 110, 110, 1, 0, 97], 0) := by kernel_rfl
theorem al10 (n : Str) : b60 (a4 n) ct6 = (a5 n, 0) := by kernel_rfl
theorem al11 (n : Str) : bM1 (a5 n) 17 = a6 := by kernel_rfl
theorem cw4 : at7 [97, 100, 109] [115] = some (a0, 0) := by kernel_rfl
theorem ax7 : ae9 = some true := by
 have w17 : (-9223372036854775808 : Int) ≤ 17 ∧ (17 : Int) ≤ 9223372036854775807 := by omega
 have w2 : (-9223372036854775808 : Int) ≤ 2 ∧ (2 : Int) ≤ 9223372036854775807 := by omega
 have w4 : (-9223372036854775808 : Int) ≤ 4 ∧ (4 : Int) ≤ 9223372036854775807 := by omega
 have v0 : Val a0 := (cC7 cw4 (by decide)).1
 have v1 : Val a1 := by have := bF1 v0 (l := ct5) (by decide); rwa [al1] at this
 have v2 : Val a2 := by have := cs8 v1 [97, 100, 109] 4 2; rwa [al5] at this
 have v3 : Val (a3 sN) := by have := ch6 v2 17 (s := bg1) (by decide); rwa [al8] at this
 have v4 : Val (a4 sN) := by have := ct0 v3 17 0 100; rwa [al9] at this
 have v5 : Val (a5 sN) := by have := bF1 v4 (l := ct6) (by decide); rwa [al10] at this
 have v6 : Val a6 := by have := cg6 v5 17; rwa [al11] at this
 have c1 := aP3 v0.lim (l := ct5) (by decide)
 have c2 := aP3 v1.lim (l := cC8) (by decide)
 have c3 := aP3 v1.lim (l := lnNo) (by decide)
 have c4 := bt7 v1 w2 0 100
 have c5 := cg9 v1 w4 w2 [97, 100, 109]
 have c6 := cg9 v2 w4 w2 [98, 111, 98]
 have c7 := bt7 v2 w17 0 100
 have c8 := ct3 v2 w17 (s := bg1) (by decide)
 have c9 := bt7 v3 w17 0 100
 have c10 := aP3 v4.lim (l := ct6) (by decide)
 have c11 := cs5 v5 w17 0
 have c12 := cq0 v6.lim
 rw [v6.ok] at c12
 rw [al1] at c1
 rw [al2] at c2
 rw [al3] at c3
 rw [al4] at c4
 rw [al5] at c5
 rw [al6] at c6
 rw [al7] at c7
 rw [al8] at c8
 rw [al9] at c9
 rw [al10] at c10
 rw [al11] at c11
 unfold ct5 at c1
 unfold cC8 at c2
 unfold lnNo at c3
 unfold bg1 at c8
 unfold ct6 at c10
 have n1 : (a5 sN).Keys = [] := rfl
 have n2 : a6.Convs = [] := rfl
 have n3 : (a3 sN).Count = 1 := rfl
 unfold ae9
 simp [cw4, c1, c2, c3, c4, c5, c6, c7, c8, c9, c10, c11, c12, n1, n2, n3]
end Go.Proofs.YtiliognepodhnaaGreatDoor
