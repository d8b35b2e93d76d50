import Derived.Test.YtiliognepodhnaaGreatDoorRK
import Derived.KernelRfl
namespace Go.Proofs.YtiliognepodhnaaGreatDoor
open Go.Vm
set_option autoImplicit false
set_option linter.unusedVariables false
set_option linter.unusedSimpArgs false
set_option maxRecDepth 100000
variable {c : aa3} {a : aa2}
theorem bd5 {K : Nat} : ∀ (f : Nat) (out : List aa1) (i : Nat) (s : Str), out.length + s.length ≤ K → (∀ a ∈ out, a.Name.length ≤ K ∧ a.Value.length ≤ K) → (at0 f out i s).1.length ≤ K ∧ ∀ a ∈ (at0 f out i s).1, a.Name.length ≤ K ∧ a.Value.length ≤ K
 | 0, out, i, s, h1, h2 => ⟨by simp only [at0]; omega, by simpa only [at0] using h2⟩
 | f + 1, out, i, [], h1, h2 => ⟨by simp only [at0]; simp at h1; omega, by simpa only [at0] using h2⟩
 | f + 1, out, i, c :: r, h1, h2 => by
  simp only [List.length_cons] at h1
  rw [at0]
  split
  ·exact bd5 f out (i + 1) r (by omega) h2
  ·split
   ·rename_i hz
    have := bH2 (bZ9 hz)
    simp only [List.length_cons] at this
    refine bd5 f _ _ _ (by simp only [List.length_append, List.length_cons, List.length_nil, List.length_drop]; omega) ?_
    intro a ha
    rcases List.mem_append.1 ha with ha | ha
    ·exact h2 a ha
    ·obtain rfl := List.mem_singleton.1 ha
     omega
   ·exact ⟨by simp, by simp⟩
theorem bj3 {s : Str} (h : s.length ≤ 2000) : Sh (an3 s).1 := by
 have := bd5 (K := 2000) (s.length + 1) [] 0 s (by simpa using h) (by simp)
 exact ⟨this.1, fun a ha => by have := this.2 a ha; omega⟩
theorem cm5 {l : List Int} (h : ∀ (i : Nat) (hi : i + 1 < l.length), l[i] < l[i + 1]) : l.Pairwise (fun x y => x < y) := by
 rw [List.pairwise_iff_getElem]
 intro i j hi hj hij
 induction j with
 | zero => omega
 | succ j ih =>
  rcases Nat.lt_or_ge i j with q | q
  ·exact Int.lt_trans (ih (by omega) q) (h j hj)
  ·have : i = j := by omega
   subst this; exact h i hj
theorem bq9 {i : Nat} (hi : i < a.Convs.length) : bq4 a i a.Convs[i] = true ↔ (1 ≤ (a.Convs[i]).Id ∧ (a.Convs[i]).Id < a.Next ∧ (ar2 a.Convs[i] = true ∨ ag3 a.Convs[i] = true)) ∧ ∀ (k : Nat) (hk : k + 1 = i), (a.Convs[k]'(by omega)).Id < (a.Convs[i]).Id := by
 unfold bq4
 simp only [Bool.and_eq_true, Bool.not_eq_true', decide_eq_false_iff_not, Bool.or_eq_true]
 cases i with
 | zero =>
  constructor
  ·rintro ⟨h1, h2, _, h3⟩; exact ⟨⟨by omega, by omega, h3⟩, fun k hk => by omega⟩
  ·rintro ⟨⟨h1, h2, h3⟩, _⟩; exact ⟨by omega, by omega, rfl, h3⟩
 | succ k =>
  have hk : k < a.Convs.length := by omega
  simp only [List.getElem?_eq_getElem hk, Bool.not_eq_true', decide_eq_false_iff_not]
  constructor
  ·rintro ⟨h1, h2, h4, h3⟩
   refine ⟨⟨by omega, by omega, h3⟩, fun j hj => ?_⟩
   obtain rfl : j = k := by omega
   omega
  ·rintro ⟨⟨h1, h2, h3⟩, h4⟩
   have := h4 k rfl
   exact ⟨by omega, by omega, by omega, h3⟩
structure bC4 (n : Int) (l : List aa3) : Prop where
 asc : (l.map fun c => c.Id).Pairwise (fun x y => x < y)
 ok : ∀ c ∈ l, 1 ≤ c.Id ∧ c.Id < n ∧ (ar2 c = true ∨ ag3 c = true)
theorem ca8 : bI9 (bq4 a) 0 a.Convs = true ↔ bC4 a.Next a.Convs := by
 rw [a65]
 constructor
 ·intro h
  have h' : ∀ (i : Nat) (hi : i < a.Convs.length), bq4 a i a.Convs[i] = true := fun i hi => by
   have := h i hi
   rwa [Nat.zero_add] at this
  refine ⟨cm5 fun i hi => ?_, fun c hc => ?_⟩
  ·simp only [List.length_map] at hi
   simp only [List.getElem_map]
   exact ((bq9 hi).1 (h' _ hi)).2 i rfl
  ·obtain ⟨i, hi, rfl⟩ := List.getElem_of_mem hc
   exact ((bq9 hi).1 (h' _ hi)).1
 ·intro h i hi
  rw [Nat.zero_add]
  refine (bq9 hi).2 ⟨h.ok _ (List.getElem_mem hi), fun k hk => ?_⟩
  have := List.pairwise_iff_getElem.1 h.asc k i (by simp; omega) (by simpa using hi) (by omega)
  simpa only [List.getElem_map] using this
structure ba2 (l : List (List aa1)) : Prop where
 one : (l.map pub).Pairwise (fun x y => x ≠ y)
 ok : ∀ k ∈ l, cf5 k = true
theorem cm6 {l : List (List aa1)} : bI9 (b90 l) 0 l = true ↔ ba2 l := by
 rw [a65]
 constructor
 ·intro h
  refine ⟨?_, fun k hk => ?_⟩
  ·rw [List.pairwise_iff_getElem]
   intro i j hi hj hij e
   simp only [List.length_map] at hi hj
   simp only [List.getElem_map] at e
   have := h j hj
   unfold b90 at this
   simp only [Bool.and_eq_true, Bool.not_eq_true', List.any_eq_false, decide_eq_true_eq, Nat.zero_add] at this
   refine this.2 l[i] ?_ e
   have hm : l[i] = (l.take j)[i]'(by simp; omega) := by simp
   rw [hm]; exact List.getElem_mem _
  ·obtain ⟨i, hi, rfl⟩ := List.getElem_of_mem hk
   have := h i hi
   unfold b90 at this
   simp only [Bool.and_eq_true] at this
   exact this.1
 ·rintro ⟨h1, h2⟩ i hi
  unfold b90
  simp only [Nat.zero_add, h2 _ (List.getElem_mem hi), Bool.true_and, Bool.not_eq_true', List.any_eq_false, decide_eq_true_eq]
  intro o ho e
  obtain ⟨j, hj, rfl⟩ := List.getElem_of_mem ho
  simp only [List.length_take] at hj
  have := List.pairwise_iff_getElem.1 h1 j i (by simp; omega) (by simpa using hi) (by omega)
  simp only [List.getElem_map] at this
  rw [List.getElem_take] at e
  exact this e
structure OKA (a : aa2) : Prop where
 base : bC2 a = true
 nc : a.Convs.length ≤ 32
 nk : a.Keys.length ≤ 64
 keys : ba2 a.Keys
 convs : bC4 a.Next a.Convs
theorem aG7 : bg9 a = true ↔ OKA a := by
 unfold bg9
 simp only [Bool.and_eq_true, Bool.not_eq_true', decide_eq_false_iff_not, ca8, cm6]
 constructor
 ·rintro ⟨h1, h2, h3, h4, h5⟩; exact ⟨h1, by omega, by omega, h4, h5⟩
 ·rintro ⟨h1, h2, h3, h4, h5⟩; exact ⟨h1, by omega, by omega, h4, h5⟩
theorem Val.oka (v : Val a) : OKA a := aG7.1 v.ok
theorem ca9 {n : Int} {l : List aa3} (h : bC4 n l) {i : Nat} (hi : i < l.length) {c : aa3} (hid : c.Id = (l[i]).Id) (hr : ar2 c = true ∨ ag3 c = true) : bC4 n (l.set i c) := by
 have hm : (l.set i c).map (fun c => c.Id) = l.map fun c => c.Id := by
  rw [List.map_set, hid]
  have : (l[i]).Id = (l.map fun c => c.Id)[i]'(by simpa using hi) := by simp
  rw [this, List.set_getElem_self]
 refine ⟨by rw [hm]; exact h.asc, fun x hx => ?_⟩
 rcases List.mem_or_eq_of_mem_set hx with hx | rfl
 ·exact h.ok x hx
 ·have := h.ok _ (List.getElem_mem hi)
  rw [hid]; exact ⟨this.1, this.2.1, hr⟩
theorem Val.put (v : Val a) {i : Nat} (hi : i < a.Convs.length) {c : aa3} (hid : c.Id = (a.Convs[i]).Id) (hr : ar2 c = true ∨ ag3 c = true) (hk : Sh c.Key) : Val {a with Convs := a.Convs.set i c} := by
 have h := v.lim
 have o := v.oka
 refine ⟨⟨h.owner, h.seed, h.keys, h.key, by simpa using h.convs, fun x hx => ?_⟩, aG7.2 ⟨o.base, by simpa using o.nc, o.nk, o.keys, ca9 o.convs hi hid hr⟩⟩
 rcases List.mem_or_eq_of_mem_set hx with hx | rfl
 ·exact h.conv x hx
 ·exact ⟨hk⟩
theorem Val.count (v : Val a) (h : a.Count < 9007199254740991) : Val {a with Count := a.Count + 1} := by
 have l := v.lim
 have o := v.oka
 have hb := v.base
 refine ⟨⟨l.owner, l.seed, l.keys, l.key, l.convs, l.conv⟩, aG7.2 ⟨?_, o.nc, o.nk, o.keys, o.convs⟩⟩
 have := o.base
 unfold bC2 at this ⊢
 simp only [Bool.not_eq_true', Bool.or_eq_false_iff, decide_eq_false_iff_not] at this ⊢
 refine ⟨this.1, this.2.1, this.2.2.1, this.2.2.2.1, this.2.2.2.2.1, by omega, by omega⟩
theorem Val.close (v : Val a) (i : Nat) : Val {a with Convs := a.Convs.eraseIdx i} := by
 have h := v.lim
 have o := v.oka
 have hl : (a.Convs.eraseIdx i).length ≤ a.Convs.length := (List.eraseIdx_sublist _ _).length_le
 have h1 := h.convs
 have h2 := o.nc
 refine ⟨⟨h.owner, h.seed, h.keys, h.key, by show (a.Convs.eraseIdx i).length ≤ 40; omega, fun x hx => h.conv x ((List.eraseIdx_sublist _ _).subset hx)⟩, aG7.2 ⟨o.base, by show (a.Convs.eraseIdx i).length ≤ 32; omega, o.nk, o.keys, ?_, fun x hx => o.convs.ok x ((List.eraseIdx_sublist _ _).subset hx)⟩⟩
 exact o.convs.asc.sublist ((List.eraseIdx_sublist _ _).map _)
def bV4 (n : Int) : aa3 := ⟨n, [], 0, 0, 0, [], [], [], [], 0⟩
def cw0 (a : aa2) : aa2 := {a with Convs := a.Convs ++ [bV4 a.Next], Next := a.Next + 1}
theorem Val.opn (v : Val a) (h : a.Convs.length < 32) (hn : a.Next < 1048560) : Val (cw0 a) := by
 have l := v.lim
 have o := v.oka
 have hb := v.base
 unfold cw0
 refine ⟨⟨l.owner, l.seed, l.keys, l.key, by simp; omega, fun x hx => ?_⟩, aG7.2 ⟨?_, by simp; omega, o.nk, o.keys, ?_, fun x hx => ?_⟩⟩
 ·rcases List.mem_append.1 hx with hx | hx
  ·exact l.conv x hx
  ·obtain rfl := List.mem_singleton.1 hx
   exact ⟨⟨by simp [bV4], by simp [bV4]⟩⟩
 ·have := o.base
  unfold bC2 at this ⊢
  simp only [Bool.not_eq_true', Bool.or_eq_false_iff, decide_eq_false_iff_not] at this ⊢
  refine ⟨this.1, this.2.1, this.2.2.1, by omega, by omega, this.2.2.2.2.2⟩
 ·rw [List.map_append, List.pairwise_append]
  refine ⟨o.convs.asc, by simp, fun x hx y hy => ?_⟩
  obtain ⟨c, hc, rfl⟩ := List.mem_map.1 hx
  obtain rfl := List.mem_singleton.1 hy
  exact (o.convs.ok c hc).2.1
 ·rcases List.mem_append.1 hx with hx | hx
  ·have := o.convs.ok x hx
   exact ⟨this.1, by show x.Id < a.Next + 1; omega, this.2.2⟩
  ·obtain rfl := List.mem_singleton.1 hx
   exact ⟨by show 1 ≤ a.Next; omega, by show a.Next < a.Next + 1; omega, .inl rfl⟩
theorem Val.keysTo (v : Val a) {l : List (List aa1)} (hl : l.length ≤ 64) (hk : ba2 l) (hs : ∀ k ∈ l, Sh k) : Val {a with Keys := l} := by
 have h := v.lim
 have o := v.oka
 exact ⟨⟨h.owner, h.seed, by show l.length ≤ 70; omega, hs, h.convs, h.conv⟩, aG7.2 ⟨o.base, o.nc, hl, hk, o.convs⟩⟩
theorem bN9 {l : List (List aa1)} (h : ba2 l) (p : List aa1 → Bool) : ba2 (l.filter p) :=
 ⟨h.one.sublist ((List.filter_sublist).map _), fun k hk => h.ok k (List.mem_filter.1 hk).1⟩
theorem cm7 {l : List (List aa1)} (h : ba2 l) {i : Nat} (hi : i < l.length) {k : List aa1} (hp : pub l[i] = pub k) (hk : cf5 k = true) : ba2 (l.set i k) := by
 have hm : (l.set i k).map pub = l.map pub := by
  rw [List.map_set, ← hp]
  have : pub l[i] = (l.map pub)[i]'(by simpa using hi) := by simp
  rw [this, List.set_getElem_self]
 refine ⟨by rw [hm]; exact h.one, fun x hx => ?_⟩
 rcases List.mem_or_eq_of_mem_set hx with hx | rfl
 ·exact h.ok x hx
 ·exact hk
theorem cb0 {l : List (List aa1)} (h : ba2 l) {k : List aa1} (hp : ∀ o ∈ l, pub o ≠ pub k) (hk : cf5 k = true) : ba2 (l ++ [k]) := by
 refine ⟨?_, fun x hx => ?_⟩
 ·rw [List.map_append, List.pairwise_append]
  refine ⟨h.one, by simp, fun x hx y hy => ?_⟩
  obtain ⟨c, hc, rfl⟩ := List.mem_map.1 hx
  obtain rfl := List.mem_singleton.1 hy
  exact hp c hc
 ·rcases List.mem_append.1 hx with hx | hx
  ·exact h.ok x hx
  ·obtain rfl := List.mem_singleton.1 hx; exact hk
variable {c : aa3}
def aV3 (s : Str) (at_ : Nat) : Option Str := if at_ + 32 ≤ s.length then some ((s.drop at_).take 32) else none
def a16 (c : aa3) (s : Str) : Option Str := if 0 ≤ bx0 c c.Step then aV3 s (bx0 c c.Step).toNat else some c.Peer
def bC5 (c : aa3) : aa3 := {c with Phase := 4, Err := 28}
def bO0 (c : aa3) (p : Str) : Str := aO7 c c.Step (if c.Role = 1 then c.Own else p) (if c.Role = 1 then p else c.Own)
def cm8 (c : aa3) (p : Str) : aa3 := bi9 {c with Peer := p, Step := c.Step + 1}
def bC6 (c : aa3) (s p : Str) : aa3 × Int := if bO0 c p = s then (cm8 c p, 0) else (bC5 c, 28)
def au9 (c : aa3) (s : Str) : aa3 × Int :=
 if c.Phase = 2 then (match a16 c s with | none => (bC5 c, 28) | some p => bC6 c s p) else (c, 53)
theorem b06 {s : Str} {n : Nat} {p : Str} (h : aV3 s n = some p) : p.length = 32 := by
 unfold aV3 at h
 split at h
 ·obtain rfl := Option.some.inj h; simp; omega
 ·cases h
theorem br0 (h : ai3 c.Proto = true) : c.Proto = ah5 ∨ c.Proto = aq1 ∨ c.Proto = ai5 := by
 unfold ai3 at h
 simpa only [Bool.or_eq_true, decide_eq_true_eq] using h
theorem br1 (c : aa3) : phS c = 3 ∧ c.Step = aY9 c.Proto ∨ phS c = 1 ∧ c.Step ≠ aY9 c.Proto ∧ aL2 c.Proto c.Role c.Step = true ∨ phS c = 2 ∧ c.Step ≠ aY9 c.Proto ∧ aL2 c.Proto c.Role c.Step = false := by
 unfold phS
 split
 ·rename_i h; exact .inl ⟨rfl, h⟩
 ·rename_i h
  split
  ·rename_i q; exact .inr (.inl ⟨rfl, h, q⟩)
  ·rename_i q; exact .inr (.inr ⟨rfl, h, by simpa using q⟩)
theorem bd6 (h : ag3 c = true) (q : c.Phase = 2) : c.Step ≠ aY9 c.Proto ∧ c.Step ≤ 2 ∧ c.User = [] ∧ c.Err = 0 ∧ phS c = 2 ∧ aL2 c.Proto c.Role c.Step = false ∧ (if aw9 c = true then c.Peer.length = 32 else c.Peer = []) := by
 obtain ⟨_, _, _, _, _, _, h7, h8⟩ := aG6 h
 have hm := bC0 c.Proto
 unfold ag3 stB bd4 a98 at h
 simp only [Bool.and_eq_true, Bool.or_eq_true, decide_eq_true_eq] at h
 obtain ⟨_, ⟨h1, h2, h3⟩, h4⟩ := h
 have hp : phS c = 2 := by
  rcases h1 with h1 | h1
  ·omega
  ·omega
 have hn : ¬ phS c = 3 := by omega
 have n4 : ¬ (c.Phase = 4 ∧ phS c = 2) := by omega
 rw [if_neg hn] at h2
 rw [if_neg n4] at h3
 rcases br1 c with ⟨e, _⟩ | ⟨e, _⟩ | ⟨e, e2, e3⟩
 ·omega
 ·omega
 ·refine ⟨e2, by omega, h2, h3, hp, e3, ?_⟩
  by_cases k : aw9 c = true
  ·rw [if_pos k] at h4 ⊢; have := of_decide_eq_true h4; omega
  ·rw [if_neg k] at h4 ⊢; exact of_decide_eq_true h4
theorem b07 (h : ag3 c = true) (q : c.Phase = 1) : c.Step ≠ aY9 c.Proto ∧ c.Step ≤ 2 ∧ c.User = [] ∧ c.Err = 0 ∧ phS c = 1 ∧ aL2 c.Proto c.Role c.Step = true ∧ (if aw9 c = true then c.Peer.length = 32 else c.Peer = []) := by
 obtain ⟨_, _, _, _, _, _, h7, h8⟩ := aG6 h
 have hm := bC0 c.Proto
 unfold ag3 stB bd4 a98 at h
 simp only [Bool.and_eq_true, Bool.or_eq_true, decide_eq_true_eq] at h
 obtain ⟨_, ⟨h1, h2, h3⟩, h4⟩ := h
 have hp : phS c = 1 := by
  rcases h1 with h1 | h1
  ·omega
  ·omega
 have hn : ¬ phS c = 3 := by omega
 have n4 : ¬ (c.Phase = 4 ∧ phS c = 2) := by omega
 rw [if_neg hn] at h2
 rw [if_neg n4] at h3
 rcases br1 c with ⟨e, _⟩ | ⟨e, e2, e3⟩ | ⟨e, _⟩
 ·omega
 ·refine ⟨e2, by omega, h2, h3, hp, e3, ?_⟩
  by_cases k : aw9 c = true
  ·rw [if_pos k] at h4 ⊢; have := of_decide_eq_true h4; omega
  ·rw [if_neg k] at h4 ⊢; exact of_decide_eq_true h4
 ·omega
theorem bx3 {p : Str} (hp : ai3 c.Proto = true) (hr : c.Role = 1 ∨ c.Role = 2) (h0 : 0 ≤ c.Step) (h2 : c.Step ≤ 2) : aw9 {c with Peer := p, Step := c.Step + 1} = (aw9 c || kb c c.Step) := by
 have k1 := @bq2 c hp hr
 have k2 := @bq2 {c with Peer := p, Step := c.Step + 1} hp hr
 rw [← k1, ← k2]
 have e : ∀ n, kb {c with Peer := p, Step := c.Step + 1} n = kb c n := fun n => rfl
 have hs : c.Step = 0 ∨ c.Step = 1 ∨ c.Step = 2 := by omega
 unfold bg8
 rw [e, e, e]
 show (decide (0 < c.Step + 1) && kb c 0 || (decide (1 < c.Step + 1) && kb c 1 || decide (2 < c.Step + 1) && kb c 2)) = _
 rcases hs with h | h | h <;> rw [h] <;> simp [Bool.or_assoc]
theorem cb1 (hp : ai3 c.Proto = true) (hr : c.Role = 1 ∨ c.Role = 2) (h0 : 0 ≤ c.Step) (h2 : c.Step ≤ 2) (hk : kb c c.Step = true) : aw9 c = false := by
 have hs : c.Step = 0 ∨ c.Step = 1 ∨ c.Step = 2 := by omega
 have n0 : ¬ (ah5 = aq1) := by decide
 have n1 : ¬ (aq1 = ah5) := by decide
 have n2 : ¬ (ai5 = ah5) := by decide
 have n3 : ¬ (ai5 = aq1) := by decide
 have d : Int.tmod 0 2 = 0 ∧ Int.tmod 1 2 = 1 ∧ Int.tmod 2 2 = 0 := by decide
 rcases br0 hp with h | h | h <;> rcases hr with r | r <;> rcases hs with q | q | q <;> simp [kb, bx0, aL2, bU4, h, r, q, n0, n1, n2, n3, d] at hk <;> simp [aw9, h, r, q, n0, n1, n2, n3]
theorem br2 {c : aa3} (hpre : bq3 c = true) (he : c.Err = 0) (hpe : a98 c = true) : ag3 (bi9 c) = true := by
 unfold ag3
 have e1 : bq3 (bi9 c) = bq3 c := rfl
 have e2 : a98 (bi9 c) = a98 c := rfl
 have hph : phS (bi9 c) = phS c := rfl
 have hne : ¬ phS c = 4 := by rcases br1 c with h | h | h <;> omega
 rw [e1, e2, hpre, hpe]
 have hf : bd4 (bi9 c) = false := by
  unfold bd4
  show (decide (phS c = 4) && _) = false
  simp [hne]
 unfold stB
 rw [hf, hph]
 show (true && ((false || decide (phS c = phS c)) && (decide ((if phS c = 3 then usr c else []) = if phS c = 3 then usr c else []) && decide (c.Err = if false = true then 28 else 0))) && true) = true
 simp [he]
theorem b08 (h : ag3 c = true) (q : c.Phase = 1) : ag3 (bi9 {c with Step := c.Step + 1}) = true := by
 obtain ⟨i0, i1, hp, hr, hk, ho, h0, h3⟩ := aG6 h
 obtain ⟨hm, h2, hu, he, hph, hs, hpe⟩ := b07 h q
 refine br2 ?_ he ?_
 ·unfold ag3 bq3 at h
  simp only [Bool.and_eq_true, Bool.not_eq_true', decide_eq_false_iff_not] at h
  obtain ⟨⟨g1, g2, g3, g4, g5, g6, g7, g8⟩, _⟩ := h
  unfold bq3
  simp only [Bool.and_eq_true, Bool.not_eq_true', decide_eq_false_iff_not]
  exact ⟨g1, g2, g3, g4, g5, g6, by omega, by omega⟩
 ·have kn := @bx3 c c.Peer hp hr h0 h2
  have kf : kb c c.Step = false := by unfold kb; rw [hs]; simp
  rw [kf, Bool.or_false] at kn
  unfold a98
  have e : ({c with Peer := c.Peer, Step := c.Step + 1} : aa3) = {c with Step := c.Step + 1} := rfl
  rw [e] at kn
  rw [kn]
  show (if aw9 c = true then decide ((List.length c.Peer : Int) = 32) else decide (c.Peer = [])) = true
  by_cases k : aw9 c = true
  ·rw [if_pos k] at hpe ⊢; simp [hpe]
  ·rw [if_neg k] at hpe ⊢; simp [hpe]
theorem bx4 (h : ag3 c = true) (q : c.Phase = 2) : ag3 (bC5 c) = true := by
 obtain ⟨hm, h2, hu, he, hph, hs, hpe⟩ := bd6 h q
 have hpre : bq3 c = true := by unfold ag3 at h; simp only [Bool.and_eq_true] at h; exact h.1
 unfold ag3
 have e1 : bq3 (bC5 c) = bq3 c := rfl
 have e2 : a98 (bC5 c) = a98 c := rfl
 have hpB : a98 c = true := by unfold ag3 at h; simp only [Bool.and_eq_true] at h; exact h.2.2
 have hp' : phS (bC5 c) = 2 := hph
 have hf : bd4 (bC5 c) = true := by
  unfold bd4
  rw [hp']; rfl
 rw [e1, e2, hpre, hpB]
 unfold stB
 rw [hf, hp']
 show (true && ((true || decide ((4 : Int) = 2)) && (decide (c.User = if (2 : Int) = 3 then usr c else []) && decide ((28 : Int) = if true = true then 28 else 0)) && true)) = true
 simp [hu]
theorem b09 (h : ag3 c = true) (q : c.Phase = 2) {s p : Str} (hl : a16 c s = some p) : ag3 (cm8 c p) = true := by
 obtain ⟨i0, i1, hp, hr, hk, ho, h0, h3⟩ := aG6 h
 obtain ⟨hm, h2, hu, he, hph, hs, hpe⟩ := bd6 h q
 refine br2 ?_ he ?_
 ·unfold ag3 bq3 at h
  simp only [Bool.and_eq_true, Bool.not_eq_true', decide_eq_false_iff_not] at h
  obtain ⟨⟨g1, g2, g3, g4, g5, g6, g7, g8⟩, _⟩ := h
  unfold bq3
  simp only [Bool.and_eq_true, Bool.not_eq_true', decide_eq_false_iff_not]
  exact ⟨g1, g2, g3, g4, g5, g6, by omega, by omega⟩
 ·have kn := @bx3 c p hp hr h0 h2
  unfold a98
  rw [kn]
  show (if (aw9 c || kb c c.Step) = true then decide ((List.length p : Int) = 32) else decide (p = [])) = true
  unfold a16 at hl
  by_cases hc : 0 ≤ bx0 c c.Step
  ·rw [if_pos hc] at hl
   have := b06 hl
   have kt : kb c c.Step = true := by unfold kb; rw [hs]; simp [hc]
   rw [kt]; simp [this]
  ·rw [if_neg hc] at hl
   obtain rfl := Option.some.inj hl
   have kf : kb c c.Step = false := by unfold kb; simp [hc]
   rw [kf, Bool.or_false]
   by_cases k : aw9 c = true
   ·rw [if_pos k] at hpe ⊢; simp [hpe]
   ·rw [if_neg k] at hpe ⊢; simp [hpe]
theorem bO1 (h : ag3 c = true) (s : Str) : ag3 (au9 c s).1 = true := by
 unfold au9
 by_cases q : c.Phase = 2
 ·rw [if_pos q]
  cases hl : a16 c s with
  | none => exact bx4 h q
  | some p =>
   show ag3 (bC6 c s p).1 = true
   unfold bC6
   split
   ·exact b09 h q hl
   ·exact bx4 h q
 ·rw [if_neg q]; exact h
theorem bx5 (s : Str) : (au9 c s).1.Id = c.Id ∧ (au9 c s).1.Key = c.Key := by
 unfold au9
 split
 ·split
  ·exact ⟨rfl, rfl⟩
  ·unfold bC6
   split <;> exact ⟨rfl, rfl⟩
 ·exact ⟨rfl, rfl⟩
theorem bI2 (c : aa3) : (aO8 c).1.Id = c.Id ∧ (aO8 c).1.Key = c.Key := by
 unfold aO8
 split <;> exact ⟨rfl, rfl⟩
theorem bO2 (h : ag3 c = true) : ag3 (aO8 c).1 = true := by
 unfold aO8
 by_cases q : c.Phase = 1
 ·rw [if_pos q]; exact b08 h q
 ·rw [if_neg q]; exact h
theorem bO3 {p : Str} {r : Int} {k : List aa1} {n : Str} {id : Int} (h : (a15 p r k n).2 = 0) (h0 : 0 ≤ id) (h1 : id ≤ 1048575) : ag3 {(a15 p r k n).1 with Id := id} = true ∧ (a15 p r k n).1.Key = k := by
 unfold a15 at h ⊢
 split
 ·rename_i q; rw [if_pos q] at h; cases h
 ·rename_i q
  rw [if_neg q] at h
  split
  ·rename_i q1
   rw [if_pos q1] at h
   split
   ·rename_i q2
    rw [if_pos q2] at h
    split
    ·rename_i q3
     refine ⟨?_, rfl⟩
     have hp : ai3 p = true := by simpa using q
     have e : ({bi9 (ba1 p r k n) with Id := id} : aa3) = bi9 {ba1 p r k n with Id := id} := rfl
     show ag3 {bi9 (ba1 p r k n) with Id := id} = true
     rw [e]
     refine br2 ?_ rfl ?_
     ·unfold bq3 bH4
      have m0 : ¬ aY9 p < 0 := by unfold aY9; split <;> (try split) <;> (try split) <;> omega
      have hr : (decide (r = 1) || decide (r = 2)) = true := by simpa using q1.1
      show (!decide (id < 0) && (!decide (1048575 < id) && (ai3 p && ((decide (r = 1) || decide (r = 2)) && (decide (bp4 k = 0) && bt4 k && (decide ((List.length n : Int) = 32) && (!decide ((0 : Int) < 0) && !decide (aY9 p < 0)))))))) = true
      rw [hp, hr, q3, decide_eq_true q2, decide_eq_true q1.2, decide_eq_false m0]
      simp; omega
     ·unfold a98 aw9
      show (if (if p = ah5 then decide (r = 1) && decide ((0 : Int) < 0) else if p = aq1 ∧ r = 2 then decide ((0 : Int) < 0) else decide (p = aq1) && decide ((1 : Int) < 0)) = true then decide ((List.length ([] : Str) : Int) = 32) else decide (([] : Str) = [])) = true
      simp
    ·rename_i q3; rw [if_neg q3] at h; cases h
   ·rename_i q2; rw [if_neg q2] at h; exact absurd h q2
  ·rename_i q1; rw [if_neg q1] at h; cases h
theorem cw1 {c : aa3} (h : Tl c) (hp : ai3 c.Proto = true) (n : Int) (s : Str) : (if (decide ((aa4.mk c).Conv.Proto = [99, 104, 97, 108])) then (aj8 (aa4.mk c) n).bind fun x => some (!decide (x = s)) else if (decide ((aa4.mk c).Conv.Proto = [109, 117, 116, 117, 97, 108])) then (ai0 (aa4.mk c) n).bind fun x => some (!decide (x = s)) else (ai9 (aa4.mk c) n).bind fun x => some (!decide (x = s))) = some (!decide (aO7 c n (bt6 c) (bD5 c) = s)) := by
 rcases br0 hp with q | q | q
 ·have q' : c.Proto = [99, 104, 97, 108] := q
  simp only [q', decide_true, if_true, bV2 h q, Option.bind_some]
 ·have q' : c.Proto = [109, 117, 116, 117, 97, 108] := q
  have n1 : ¬ ([109, 117, 116, 117, 97, 108] : Str) = [99, 104, 97, 108] := by decide
  simp only [q', n1, decide_true, decide_false, Bool.false_eq_true, if_false, if_true, ca7 h q, Option.bind_some]
 ·have q' : c.Proto = [112, 108, 97, 105, 110] := q
  have n1 : ¬ ([112, 108, 97, 105, 110] : Str) = [99, 104, 97, 108] := by decide
  have n2 : ¬ ([112, 108, 97, 105, 110] : Str) = [109, 117, 116, 117, 97, 108] := by decide
  simp only [q', n1, n2, decide_false, Bool.false_eq_true, if_false, bI1 h q, Option.bind_some]
theorem cw2 {p s : Str} (h : Tl {c with Peer := p}) (hp : ai3 c.Proto = true) (h0 : 0 ≤ c.Step) (h2 : c.Step ≤ 2) : ap9 c s {c with Peer := p} = some (if 0 ≤ bx0 c c.Step ∧ ¬ ((List.length p : Int) = 32) then (bC5 c, 28) else bC6 c s p) := by
 have hk : c.Key.length ≤ 1000000 := h.key
 have hu : (usr c).length ≤ 65535 := Nat.le_trans h.usr (by omega)
 have hs := cw1 h hp c.Step s
 have ht : aO7 {c with Peer := p} c.Step (bt6 {c with Peer := p}) (bD5 {c with Peer := p}) = bO0 c p := rfl
 rw [ht] at hs
 have hset : am4 {c with Peer := p, Step := IntKind.wrap .i64 (c.Step + 1)} = some (cm8 c p) := by
  rw [ah7 (by omega) (by omega)]
  exact aY3 (c := {c with Peer := p, Step := c.Step + 1}) hp hk
 have hcop : an0 c = some c := by unfold an0; rw [aD0 hk]; rfl
 have fin : ∀ t : Bool, t = !decide (bO0 c p = s) → (if t = true then (an0 c).bind fun x20 => some ({x20 with Phase := 4, Err := 28}, (28 : Int)) else (am4 {c with Peer := p, Step := IntKind.wrap .i64 (c.Step + 1)}).bind fun x21 => some (x21, 0)) = some (bC6 c s p) := by
  rintro t rfl
  unfold bC6
  rw [hset, hcop]
  by_cases q : bO0 c p = s
  ·simp [q]
  ·simp [q, bC5]
 unfold ap9
 rw [bd3 hk hu, Option.bind_some, hs]
 by_cases hc : 0 ≤ bx0 c c.Step
 ·by_cases hl : (List.length p : Int) = 32
  ·have n1 : ¬ (0 ≤ bx0 c c.Step ∧ ¬ ((List.length p : Int) = 32)) := fun h => h.2 hl
   rw [if_neg n1, decide_eq_true hc, if_pos rfl]
   rw [show decide ((List.length ({c with Peer := p} : aa3).Peer : Int) = 32) = true from decide_eq_true hl]
   exact fin _ rfl
  ·have n1 : 0 ≤ bx0 c c.Step ∧ ¬ ((List.length p : Int) = 32) := ⟨hc, hl⟩
   rw [if_pos n1, decide_eq_true hc, if_pos rfl]
   rw [show decide ((List.length ({c with Peer := p} : aa3).Peer : Int) = 32) = false from decide_eq_false hl, hcop]
   rfl
 ·have n1 : ¬ (0 ≤ bx0 c c.Step ∧ ¬ ((List.length p : Int) = 32)) := fun h => hc h.1
  rw [if_neg n1, decide_eq_false hc, if_neg (by simp)]
  exact fin _ rfl
theorem cut32 {s : Str} {n : Nat} (h : n + 32 ≤ s.length) : cut s (n : Int) ((n : Int) + 32) = some ((s.drop n).take 32) := by
 unfold cut
 rw [if_pos ⟨by omega, by omega, by omega⟩]
 have : ((n : Int) + 32).toNat = n + 32 := by omega
 rw [this, Int.toNat_natCast, List.drop_take]
 congr 2
 omega
theorem cw3 (h : (usr c).length ≤ 5000) (n : Int) : bx0 c n ≤ 5002 := by
 unfold bx0
 split
 ·omega
 ·split
  ·omega
  ·split <;> omega
theorem cw4 (hs : aL2 c.Proto c.Role c.Step = false) : kb c c.Step = decide (0 ≤ bx0 c c.Step) := by
 unfold kb; rw [hs]; simp
theorem bI3 (h : Tl c) (hr : ag3 c = true) (s : Str) (hsl : s.length ≤ 1000000) : aX6 c s = some (au9 c s) := by
 obtain ⟨_, _, hp, hro, hok, ho, h0, _⟩ := aG6 hr
 have hcop : an0 c = some c := by unfold an0; rw [aD0 h.key]; rfl
 unfold aX6 au9
 by_cases q : c.Phase = 2
 case neg => simp [q, hcop]
 obtain ⟨hm, h2, hu, he, hph, hs, hpe⟩ := bd6 hr q
 have hul : (usr c).length ≤ 65535 := Nat.le_trans h.usr (by omega)
 have hle := cw3 h.usr c.Step
 rw [if_pos q, decide_eq_true q, Bool.not_true, if_neg (by simp), bd3 h.key hul, Option.bind_some]
 have hself : ap9 c s c = ap9 c s {c with Peer := c.Peer} := rfl
 unfold a16
 by_cases hc : 0 ≤ bx0 c c.Step
 ·rw [if_pos hc, decide_eq_true hc, Bool.true_and]
  obtain ⟨n, hn⟩ : ∃ n : Nat, bx0 c c.Step = (n : Int) := ⟨(bx0 c c.Step).toNat, by omega⟩
  rw [hn, Int.toNat_natCast, ah7 (by omega) (by omega)]
  unfold aV3
  by_cases hl : n + 32 ≤ s.length
  ·have hl' : (n : Int) + 32 ≤ (List.length s : Int) := by omega
   rw [if_pos hl, decide_eq_true hl', if_pos rfl, cut32 hl, Option.bind_some]
   have hpl : ((s.drop n).take 32).length = 32 := by simp; omega
   have ht : Tl {c with Peer := (s.drop n).take 32} := ⟨h.key, h.usr, h.sec, h.own, by rw [hpl]; omega⟩
   rw [cw2 ht hp h0 h2, if_neg (by rw [hpl]; simp)]
  ·have hl' : ¬ ((n : Int) + 32 ≤ (List.length s : Int)) := by omega
   rw [if_neg hl, decide_eq_false hl', if_neg (by simp), hself, cw2 h hp h0 h2]
   have hk := cw4 hs
   rw [decide_eq_true hc] at hk
   have hkn := cb1 hp hro h0 h2 hk
   rw [hkn] at hpe
   simp only [Bool.false_eq_true, if_false] at hpe
   rw [hpe, if_pos ⟨hc, by simp⟩]
 ·rw [if_neg hc, decide_eq_false hc, Bool.false_and, if_neg (by simp), hself, cw2 h hp h0 h2, if_neg (fun x => hc x.1)]
theorem br3 (l : Str) (c : UInt8) : (c ∉ l ∧ Go.Lib.indexByte l c = -1) ∨ ∃ a b, l = a ++ c :: b ∧ c ∉ a ∧ Go.Lib.indexByte l c = (a.length : Int) := by
 induction l with
 | nil => exact .inl ⟨by simp, rfl⟩
 | cons x r ih =>
  by_cases hx : x = c
  ·subst hx
   exact .inr ⟨[], r, rfl, by simp, by simp [Go.Lib.indexByte]⟩
  ·have hx' : (x == c) = false := by simpa using hx
   rcases ih with ⟨h1, h2⟩ | ⟨a, b, h1, h2, h3⟩
   ·refine .inl ⟨by simp [h1, Ne.symm hx], ?_⟩
    simp [Go.Lib.indexByte, hx', h2]
   ·refine .inr ⟨x :: a, b, by rw [h1]; rfl, by simp [h2, Ne.symm hx], ?_⟩
    have : ¬ ((a.length : Int) = -1) := by omega
    simp [Go.Lib.indexByte, hx', h3, this]
def b10 : Str → Option (Str × Str)
 | [] => none
 | c :: r => if c = 32 then some ([], r) else match b10 r with | some x => some (c :: x.1, x.2) | none => none
theorem bI4 : ∀ {l : Str}, (32 : UInt8) ∉ l → b10 l = none
 | [], _ => rfl
 | c :: r, h => by
  simp only [List.mem_cons, not_or] at h
  rw [b10, if_neg (fun e => h.1 e.symm), bI4 h.2]
theorem bV5 : ∀ {x b : Str}, (32 : UInt8) ∉ x → b10 (x ++ 32 :: b) = some (x, b)
 | [], b, _ => by rw [List.nil_append, b10, if_pos rfl]
 | c :: r, b, h => by
  simp only [List.mem_cons, not_or] at h
  rw [List.cons_append, b10, if_neg (fun e => h.1 e.symm), bV5 h.2]
theorem cE4 {l : Str} (h : l.length ≤ 1000000) : strings_Cut l [32] = some (match b10 l with | some x => (x.1, x.2, true) | none => (l, [], false)) := by
 unfold strings_Cut stringslite_Cut
 rcases br3 l 32 with ⟨h1, h2⟩ | ⟨x, y, rfl, h2, h3⟩
 ·have : stringslite_Index l [32] = some (-1) := by show some _ = _; rw [h2]
  rw [this, bI4 h1]; rfl
 ·have : stringslite_Index (x ++ 32 :: y) [32] = some (x.length : Int) := by show some _ = _; rw [h3]
  simp only [List.length_append, List.length_cons] at h
  have e1 : cut (x ++ 32 :: y) 0 (x.length : Int) = some x := by
   rw [aP2 (by simp)]; simp
  have e2 : cut (x ++ 32 :: y) (IntKind.wrap .i64 ((x.length : Int) + (List.length ([32] : Str) : Int))) (List.length (x ++ 32 :: y) : Int) = some y := by
   have hw : IntKind.wrap .i64 ((x.length : Int) + (List.length ([32] : Str) : Int)) = ((x.length + 1 : Nat) : Int) := by
    rw [ah7 (by simp; omega) (by simp; omega)]; simp
   rw [hw, az2 (by simp)]
   rw [show (x ++ 32 :: y) = (x ++ [32]) ++ y by simp, List.drop_left' (by simp)]
  have h0 : (0 : Int) ≤ (x.length : Int) := by omega
  rw [this, bV5 h2, Option.bind_some, decide_eq_true h0, if_pos rfl, e1, Option.bind_some, e2]; rfl
theorem bI5 : ∀ {l x y : Str}, b10 l = some (x, y) → l = x ++ 32 :: y
 | c :: r, x, y, h => by
  rw [b10] at h
  split at h
  ·rename_i q
   simp only [Option.some.injEq, Prod.mk.injEq] at h
   rw [← h.1, ← h.2, q]; rfl
  ·split at h
   ·rename_i z hz
    simp only [Option.some.injEq, Prod.mk.injEq] at h
    have := bI5 (x := z.1) (y := z.2) hz
    rw [← h.1, ← h.2, this]; rfl
   ·cases h
def bO4 (p : List aa1) (l : List (List aa1)) : Int := ixF (fun k => decide (pub k = p)) l 0
def cB4 (a : aa2) (s : Str) : aa2 × Int :=
 if (an3 s).2.2 = 0 then (if cf5 (an3 s).1 = true then (if 0 ≤ bO4 (pub (an3 s).1) a.Keys then ({a with Keys := a.Keys.set (bO4 (pub (an3 s).1) a.Keys).toNat (an3 s).1}, 0) else if 64 ≤ (List.length a.Keys : Int) then (a, 22) else ({a with Keys := a.Keys ++ [(an3 s).1]}, 0)) else (a, 52)) else (a, (an3 s).2.2)
def cb2 (p : List aa1) (l : List (List aa1)) : List (List aa1) := l.filter fun k => !(p.all (a95 k))
def cB5 (a : aa2) (s : Str) : aa2 × Int :=
 if (an3 s).2.2 = 0 then (if (List.length (cb2 (an3 s).1 a.Keys) : Int) = (List.length a.Keys : Int) then (a, 52) else ({a with Keys := cb2 (an3 s).1 a.Keys}, 0)) else (a, (an3 s).2.2)
def cE5 : Str := [107, 101, 121]
def cE6 : Str := [100, 101, 108, 107, 101, 121]
def bO5 (a : aa2) (line : Str) : aa2 × Int := match b10 line with
 | some x => if x.1 = cE5 then cB4 a x.2 else if x.1 = cE6 then cB5 a x.2 else (a, 54)
 | none => (a, 54)
theorem br4 (p : List aa1) (l : List (List aa1)) : (bO4 p l = -1 ∧ ∀ k ∈ l, pub k ≠ p) ∨ ∃ i, ∃ h : i < l.length, bO4 p l = (i : Int) ∧ pub l[i] = p := by
 unfold bO4
 rcases bn7 (fun k => decide (pub k = p)) l 0 with ⟨h1, h2⟩ | ⟨x, k, y, h1, h2, h3, h4⟩
 ·exact .inl ⟨h2, fun k hk => by simpa using h1 k hk⟩
 ·refine .inr ⟨x.length, by rw [h1]; simp, by rw [h4]; simp, ?_⟩
  have hk : l[x.length]? = some k := by rw [h1]; simp
  have hi : x.length < l.length := by rw [h1]; simp
  rw [List.getElem?_eq_getElem hi] at hk
  rw [Option.some.inj hk]
  exact of_decide_eq_true h2
theorem cb3 {l : Str} {x : Str × Str} (h : b10 l = some x) : x.2.length ≤ l.length := by
 have := bI5 (x := x.1) (y := x.2) h
 rw [this]; simp; omega
theorem cm9 {l : List (List aa1)} {k : List aa1} (hl : l.length ≤ 1000000) (h : ∀ o ∈ l, o.length ≤ 1000000) (hk : k.length ≤ 1000000) : ae3 l k = some (bO4 (pub k) l) := by
 unfold ae3 bO4
 refine bM7 l _ _ (fun i hi => ?_) ?_
 ·simp only [ac8, dlt hi, if_true, ab6 hi, Option.bind_some, a38, bU3 (h _ (List.getElem_mem hi)) hk]
  rw [ag2 (by omega)]
  cases decide (pub l[i] = pub k) <;> rfl
 ·simp [ac8]
theorem cE7 (h : Lim a) {s : Str} (hs : s.length ≤ 2000) : a71 a s = some (cB4 a s) := by
 have h1 := h.keys
 have hk := bj3 hs
 unfold a71 cB4
 rw [an6 h, Option.bind_some, bB5 (by omega), Option.bind_some]
 by_cases he : (an3 s).2.2 = 0
 case neg => rw [if_neg he, decide_eq_false he]; rfl
 rw [if_pos he, decide_eq_true he, Bool.not_true, if_neg (by simp), cp9 hk, Option.bind_some]
 cases cf5 (an3 s).1 with
 | false => rfl
 | true =>
  rw [Bool.not_true, if_neg (by simp), if_pos rfl, cm9 (by omega) (fun k hk => (h.key k hk).le) hk.le, Option.bind_some]
  rcases br4 (pub (an3 s).1) a.Keys with ⟨q, _⟩ | ⟨i, hi, q, _⟩
  ·simp only [q, show ¬ (0 : Int) ≤ -1 by omega, decide_false, Bool.false_eq_true, if_false]
   by_cases q64 : 64 ≤ (List.length a.Keys : Int)
   ·rw [decide_eq_true q64, if_pos rfl, if_pos q64]
   ·rw [decide_eq_false q64, if_neg (by simp), if_neg q64, au1 (by simp; omega) (by simp; omega)]; rfl
  ·have h0 : (0 : Int) ≤ (i : Int) := by omega
   rw [q, decide_eq_true h0, if_pos rfl, if_pos h0, ab6 hi]; rfl
theorem cb4 {α : Type} {p : α → Bool} (Q : α → Prop) {l : List α} {body : Int × Int × List α → Option (Step (Int × Int × List α) (List α))} (hl : l.length ≤ 1000000)
  (hQ : ∀ x ∈ l, Q x) (hb : ∀ (i j : Nat) (s : List α) (hi : i < s.length) (hj : j < s.length), Q s[j] → body ((i : Int), (j : Int), s) = if !p s[j] then some (.cont (IntKind.wrap .i64 ((i : Int) + 1), IntKind.wrap .i64 ((j : Int) + 1), s.set i s[j])) else some (.cont ((i : Int), IntKind.wrap .i64 ((j : Int) + 1), s)))
  (he : ∀ (i : Nat) (s : List α), i ≤ s.length → body ((i : Int), (s.length : Int), s) = some (.done (s.take i))) {i0 : Nat} (h0 : i0 < l.length) (hp0 : p l[i0] = true) (hbef : ∀ a ∈ l.take i0, p a = false) :
  aa8 body ((i0 : Int), IntKind.wrap .i64 ((i0 : Int) + 1), l) = some (l.filter fun a => !p a) := by
 have hw0 : IntKind.wrap .i64 ((i0 : Int) + 1) = ((i0 + 1 : Nat) : Int) := by rw [ah7 (by omega) (by omega)]; omega
 rw [hw0]
 have hf0 : (l.take (i0 + 1)).filter (fun a => !p a) = l.take i0 := by
  rw [List.take_succ_eq_append_getElem h0, List.filter_append, List.filter_eq_self.2 (fun a ha => by simp [hbef a ha])]
  simp [hp0]
 refine (aW9 (σ := Nat × Nat × List α) body (fun x => ((x.1 : Int), (x.2.1 : Int), x.2.2)) (fun _ => l.filter fun a => !p a) (fun x => l.length - x.2.1)
  (fun x => (∀ y ∈ x.2.2, Q y) ∧ x.1 < x.2.1 ∧ x.2.1 ≤ l.length ∧ x.2.2.length = l.length ∧ x.2.2.take x.1 = (l.take x.2.1).filter (fun a => !p a) ∧ x.2.2.drop x.2.1 = l.drop x.2.1) ?_ (s0 := (i0, i0 + 1, l)) ⟨hQ, by simp, by simp only; omega, rfl, by simp only; exact hf0.symm, rfl⟩).trans rfl
 rintro ⟨i, j, s⟩ ⟨h0, h1, h2, h3, h4, h5⟩
 simp only at h0 h1 h2 h3 h4 h5
 rcases Nat.lt_or_ge j l.length with hj | hj
 ·left
  have hjs : j < s.length := by omega
  have hwi : IntKind.wrap .i64 ((i : Int) + 1) = ((i + 1 : Nat) : Int) := by rw [ah7 (by omega) (by omega)]; omega
  have hwj : IntKind.wrap .i64 ((j : Int) + 1) = ((j + 1 : Nat) : Int) := by rw [ah7 (by omega) (by omega)]; omega
  have hsj : s[j] = l[j] := by
   rw [List.drop_eq_getElem_cons hjs, List.drop_eq_getElem_cons hj] at h5
   exact (List.cons.inj h5).1
  have h5' : s.drop (j + 1) = l.drop (j + 1) := by
   rw [List.drop_eq_getElem_cons hjs, List.drop_eq_getElem_cons hj] at h5
   exact (List.cons.inj h5).2
  simp only
  rw [hb i j s (by omega) hjs (h0 _ (List.getElem_mem hjs))]
  cases hp : p s[j] with
  | true =>
   refine ⟨(i, j + 1, s), ?_, by trivial, ⟨h0, by simp only; omega, by simp only; omega, h3, ?_, h5'⟩, by simp only; omega⟩
   ·simp only [Bool.not_true, Bool.false_eq_true, if_false, hwj]
   ·simp only
    rw [h4, List.take_succ_eq_append_getElem hj, List.filter_append]
    simp [← hsj, hp]
  | false =>
   refine ⟨(i + 1, j + 1, s.set i s[j]), ?_, by trivial, ⟨fun y hy => (List.mem_or_eq_of_mem_set hy).elim (h0 y) (fun e => e ▸ h0 _ (List.getElem_mem hjs)), by simp only; omega, by simp only; omega, by simp [h3], ?_, ?_⟩, by simp only; omega⟩
   ·simp only [Bool.not_false, if_true, hwi, hwj]
   ·simp only
    rw [List.take_succ_eq_append_getElem (by simp; omega), List.getElem_set_self, List.take_set_of_le (Nat.le_refl _), h4, List.take_succ_eq_append_getElem hj, List.filter_append]
    simp [← hsj, hp]
   ·simp only
    rw [List.drop_set_of_lt (by omega)]; exact h5'
 ·right
  have : j = s.length := by omega
  subst this
  simp only
  rw [he i s (by omega), h4, List.take_of_length_le hj]
theorem cw5 {l : List (List aa1)} {p : List aa1} (hl : l.length ≤ 1000000) (h : ∀ o ∈ l, o.length ≤ 1000000) (hp : p.length ≤ 1000000) : ad0 l p = some (cb2 p l) := by
 unfold ad0 cb2
 have hix : ae4 l p = some (ba6 (fun k => p.all (a95 k)) l) := by
  unfold ae4
  refine aO2 hl ?_ ?_
  ·intro i hi
   simp only [ac9, dlt hi, if_true, ab6 hi, Option.bind_some, at6, bd2 (h _ (List.getElem_mem hi)) hp]
  ·simp [ac9]
 rw [hix, Option.bind_some]
 rcases a94 (fun k => p.all (a95 k)) l with ⟨h1, h2⟩ | ⟨i, hi, h1, h2, h3⟩
 ·rw [h1, List.filter_eq_self.2 (fun a ha => by simp only [h2 a ha]; rfl)]; rfl
 ·have : ¬ ((i : Int) = -1) := by omega
  rw [h1]
  simp only [this, decide_false, Bool.false_eq_true, if_false]
  refine cb4 (p := fun k => p.all (a95 k)) (fun k : List aa1 => k.length ≤ 1000000) hl h ?_ ?_ hi h2 h3
  ·intro i j s hi hj hq
   simp only [ab7, dlt hj, if_true, ab6 hj, ab6 hi, Option.bind_some, at6, bd2 hq hp, Int.toNat_natCast]
  ·intro i s hi
   simp only [ab7, dge, Bool.false_eq_true, if_false, ae9, aP2 hi, Option.bind_some, Option.map_some]
theorem cb5 (h : Lim a) {s : Str} (hs : s.length ≤ 2000) : aH2 a s = some (cB5 a s) := by
 have h1 := h.keys
 have hk := bj3 hs
 unfold aH2 cB5
 rw [an6 h, Option.bind_some, bB5 (by omega), Option.bind_some]
 by_cases he : (an3 s).2.2 = 0
 case neg => rw [if_neg he, decide_eq_false he]; rfl
 rw [if_pos he, decide_eq_true he, Bool.not_true, if_neg (by simp), cw5 (by omega) (fun k hk => (h.key k hk).le) hk.le, Option.bind_some]
 by_cases q : (List.length (cb2 (an3 s).1 a.Keys) : Int) = (List.length a.Keys : Int)
 ·rw [decide_eq_true q, if_pos rfl, if_pos q]; rfl
 ·rw [decide_eq_false q, if_neg (by simp), if_neg q]
theorem ay8 (h : Lim a) {l : Str} (hl : l.length ≤ 2000) : ag6 a l = some (bO5 a l) := by
 unfold ag6 bO5
 rw [cE4 (by omega), Option.bind_some]
 cases hc : b10 l with
 | none =>
  simp only [Bool.false_and, Bool.false_eq_true, if_false, an6 h, Option.bind_some]
 | some x =>
  have hx := cb3 hc
  simp only [Bool.true_and]
  by_cases q1 : x.1 = cE5
  ·have q1' := q1; unfold cE5 at q1'
   rw [decide_eq_true q1', if_pos rfl, if_pos q1, cE7 h (by omega)]; rfl
  ·have q1' := q1; unfold cE5 at q1'
   rw [decide_eq_false q1', if_neg (by simp), if_neg q1]
   by_cases q2 : x.1 = cE6
   ·have q2' := q2; unfold cE6 at q2'
    rw [decide_eq_true q2', if_pos rfl, if_pos q2, cb5 h (by omega)]; rfl
   ·have q2' := q2; unfold cE6 at q2'
    rw [decide_eq_false q2', if_neg (by simp), if_neg q2, an6 h]; rfl
theorem cw6 (v : Val a) {s : Str} (hs : s.length ≤ 2000) : Val (cB4 a s).1 := by
 have o := v.oka
 have hk := bj3 hs
 unfold cB4
 split
 ·split
  ·rename_i hB
   rcases br4 (pub (an3 s).1) a.Keys with ⟨q, q2⟩ | ⟨i, hi, q, q2⟩
   ·rw [q, if_neg (by omega)]
    split
    ·exact v
    ·rename_i hn
     refine v.keysTo (by simp; omega) (cb0 o.keys q2 hB) (fun k hk' => ?_)
     rcases List.mem_append.1 hk' with hk' | hk'
     ·exact v.lim.key k hk'
     ·obtain rfl := List.mem_singleton.1 hk'; exact hk
   ·rw [q, if_pos (by omega), Int.toNat_natCast]
    refine v.keysTo (by simpa using o.nk) (cm7 o.keys hi q2 hB) (fun k hk' => ?_)
    rcases List.mem_or_eq_of_mem_set hk' with hk' | rfl
    ·exact v.lim.key k hk'
    ·exact hk
  ·exact v
 ·exact v
theorem cw7 (v : Val a) {s : Str} : Val (cB5 a s).1 := by
 have o := v.oka
 unfold cB5
 split
 ·split
  ·exact v
  ·exact v.keysTo (Nat.le_trans (List.length_filter_le _ _) o.nk) (bN9 o.keys _) (fun k hk => v.lim.key k (List.mem_filter.1 hk).1)
 ·exact v
theorem bd7 (v : Val a) {l : Str} (hl : l.length ≤ 2000) : Val (bO5 a l).1 := by
 unfold bO5
 cases hc : b10 l with
 | none => exact v
 | some x =>
  have hx := cb3 hc
  show Val (if x.1 = cE5 then cB4 a x.2 else if x.1 = cE6 then cB5 a x.2 else (a, 54)).1
  split
  ·exact cw6 v (by omega)
  ·split
   ·exact cw7 v
   ·exact v
def aw7 (sep : UInt8) : Str → Str → List Str
 | acc, [] => [acc]
 | acc, c :: r => if c = sep then acc :: aw7 sep [] r else aw7 sep (acc ++ [c]) r
theorem bO6 {sep : UInt8} {a : Str} (h : sep ∉ a) (acc : Str) : aw7 sep acc a = [acc ++ a] := by
 induction a generalizing acc with
 | nil => simp [aw7]
 | cons c r ih =>
  simp only [List.mem_cons, not_or] at h
  rw [aw7, if_neg (fun e => h.1 e.symm), ih h.2]
  simp
theorem b11 {sep : UInt8} {a b : Str} (h : sep ∉ a) (acc : Str) : aw7 sep acc (a ++ sep :: b) = (acc ++ a) :: aw7 sep [] b := by
 induction a generalizing acc with
 | nil => simp [aw7]
 | cons c r ih =>
  simp only [List.mem_cons, not_or] at h
  rw [List.cons_append, aw7, if_neg (fun e => h.1 e.symm), ih h.2]
  simp
theorem aY5 {sep : UInt8} : ∀ (p acc : Str), ∀ x ∈ aw7 sep acc p, x.length ≤ acc.length + p.length
 | [], acc, x, h => by simp [aw7] at h; subst h; simp
 | c :: r, acc, x, h => by
  unfold aw7 at h
  split at h
  ·rcases List.mem_cons.1 h with rfl | h
   ·omega
   ·have := aY5 r [] x h
    simp at this ⊢; omega
  ·have := aY5 r (acc ++ [c]) x h
   simp at this ⊢; omega
theorem bd8 {sep : UInt8} : ∀ (p acc : Str), (aw7 sep acc p).length ≤ p.length + 1
 | [], acc => by simp [aw7]
 | c :: r, acc => by
  unfold aw7
  split
  ·have := bd8 (sep := sep) r []; simp; omega
  ·have := bd8 (sep := sep) r (acc ++ [c]); simp; omega
theorem bO7 {p : Str} {sep : UInt8} (h : p.length ≤ 1000000000) : at9 p [sep] 0 (-1) = some (aw7 sep [] p) := by
 unfold at9
 simp only [show decide ((-1 : Int) = 0) = false from rfl, show decide (([sep] : Str) = []) = false by simp, show decide ((-1 : Int) < 0) = true from rfl, if_true, Bool.false_eq_true, if_false]
 have hcnt : strings_Count p [sep] = some ((p.count sep : Nat) : Int) := rfl
 have hle : p.count sep ≤ p.length := List.count_le_length
 rw [hcnt, Option.bind_some, ah7 (by omega) (by omega)]
 unfold ap8
 have hmin : min ((p.count sep : Int) + 1) (IntKind.wrap .i64 ((List.length p : Int) + 1)) = ((p.count sep + 1 : Nat) : Int) := by
  rw [ah7 (by omega) (by omega)]; omega
 have hmk : mkC 16 ([] : Str) (((p.count sep + 1 : Nat) : Int)) (((p.count sep + 1 : Nat) : Int)) = some (List.replicate (p.count sep + 1) []) := by
  unfold mkC
  rw [if_pos ⟨by omega, by omega, by omega, by omega⟩, Int.toNat_natCast]
 have hlim : IntKind.wrap .i64 (((p.count sep + 1 : Nat) : Int) - 1) = ((p.count sep : Nat) : Int) := by rw [ah7 (by omega) (by omega)]; omega
 rw [hmin, hmk, Option.bind_some]
 refine (ai8 (τ := Str × Int × List Str) (p.count sep) (fun (s : Str × List Str) i => (s.1, i, s.2)) (fun s => aj5 p [sep] 0 ((p.count sep : Int) + 1) s.1 s.2.1 s.2.2)
  (fun i s => s.2.take i ++ aw7 sep [] s.1) (fun i s => i + s.1.count sep = p.count sep ∧ s.2.length = p.count sep + 1 ∧ s.1.length ≤ p.length) (s0 := (p, List.replicate (p.count sep + 1) [])) ⟨by simp, by simp, Nat.le_refl _⟩ ?_ ?_).trans ?_
 ·rintro ⟨s, a⟩ i hi ⟨h1, h2, h3⟩
  simp only at h1 h2 h3
  left
  rcases br3 s sep with ⟨hn, _⟩ | ⟨x, y, rfl, hx, hix⟩
  ·have : s.count sep = 0 := List.count_eq_zero.2 hn
   omega
  ·have hidx : strings_Index (x ++ sep :: y) [sep] = some (x.length : Int) := by
    show some _ = _
    rw [hix]
   simp only [List.length_append, List.length_cons] at h3
   have hia : i < a.length := by omega
   have e1 : cut (x ++ sep :: y) 0 (IntKind.wrap .i64 ((x.length : Int) + 0)) = some x := by
    rw [ah7 (by omega) (by omega), Int.add_zero, aP2 (by simp)]
    simp
   have e2 : cut (x ++ sep :: y) (IntKind.wrap .i64 ((x.length : Int) + (List.length ([sep] : Str) : Int))) (List.length (x ++ sep :: y) : Int) = some y := by
    have hw : IntKind.wrap .i64 ((x.length : Int) + (List.length ([sep] : Str) : Int)) = ((x.length + 1 : Nat) : Int) := by
     rw [ah7 (by simp; omega) (by simp; omega)]; simp
    rw [hw, az2 (by simp)]
    rw [show (x ++ sep :: y) = (x ++ [sep]) ++ y by simp, List.drop_left' (by simp)]
   have hneg : ¬ ((x.length : Int) < 0) := by omega
   have hcond : (i : Int) < ((p.count sep : Nat) : Int) := by omega
   refine ⟨(y, a.set i x), ?_, ?_, ?_, by simp [h2], by simp; omega⟩
   ·simp only [aj5, hmin, hlim, hcond, decide_true, if_true, hidx, Option.bind_some, hneg, decide_false, Bool.false_eq_true, if_false, e1, e2, ab6 hia, Int.toNat_natCast]
    rw [cu4 hi (by unfold maxLen; omega)]
   ·simp only
    rw [b11 hx, List.take_succ_eq_append_getElem (by simp; omega), List.getElem_set_self, List.take_set_of_le (Nat.le_refl _)]
    simp
   ·simp only [List.count_append, List.count_cons, List.count_eq_zero.2 hx] at h1
    simp at h1 ⊢
    omega
 ·rintro ⟨s, a⟩ ⟨h1, h2, h3⟩
  simp only at h1 h2 h3
  have hc : s.count sep = 0 := by omega
  have hia : p.count sep < a.length := by omega
  have hcond : ¬ (((p.count sep : Nat) : Int) < ((p.count sep : Nat) : Int)) := by omega
  have e1 : cut (List.set a (p.count sep) s) 0 (IntKind.wrap .i64 (((p.count sep : Nat) : Int) + 1)) = some (List.take (p.count sep) a ++ [s]) := by
   rw [ah7 (by omega) (by omega)]
   have := aP2 (l := List.set a (p.count sep) s) (b := p.count sep + 1) (by simp; omega)
   rw [show ((p.count sep + 1 : Nat) : Int) = ((p.count sep : Nat) : Int) + 1 by omega] at this
   rw [this, List.take_succ_eq_append_getElem (by simp; omega), List.getElem_set_self, List.take_set_of_le (Nat.le_refl _)]
  simp only [aj5, ap7, hmin, hlim, hcond, decide_false, Bool.false_eq_true, if_false, ab6 hia, Option.bind_some, Int.toNat_natCast, e1, Option.map_some]
  rw [bO6 (List.count_eq_zero.1 hc)]
  rfl
 ·simp
theorem cn0 {p : Str} {sep : UInt8} (h : p.length ≤ 1000000000) : aC8 p [sep] = some (aw7 sep [] p) := by
 unfold aC8
 rw [bO7 h]; rfl
def bd9 (a0 : aa2) : List Str → aa2 → aa2 × Int
 | [], b => (b, 0)
 | l :: r, b => if l = [] then bd9 a0 r b else if (bO5 b l).2 = 0 then bd9 a0 r (bO5 b l).1 else (a0, (bO5 b l).2)
def aC0 (s : Str) : List Str := aw7 10 [] s
theorem bC7 {a0 : aa2} (v0 : Val a0) : ∀ {l : List Str} {b : aa2}, Val b → (∀ x ∈ l, x.length ≤ 2000) → Val (bd9 a0 l b).1
 | [], b, v, _ => v
 | x :: r, b, v, h => by
  unfold bd9
  split
  ·exact bC7 v0 v fun y hy => h y (by simp [hy])
  ·split
   ·exact bC7 v0 (bd7 v (h x (by simp))) fun y hy => h y (by simp [hy])
   ·exact v0
theorem bO8 (v : Val a) {s : Str} (hs : s.length ≤ 2000) : az5 a s = some ((bd9 a (aC0 s) a).1, if (bd9 a (aC0 s) a).2 = 0 then (List.length s : Int) else 0, (bd9 a (aC0 s) a).2) := by
 have hm : ∀ x ∈ aC0 s, x.length ≤ 2000 := fun x hx => by
  have := aY5 (sep := 10) s [] x hx
  simp at this; omega
 have hn : (aC0 s).length ≤ 2001 := by
  have := bd8 (sep := 10) s []
  unfold aC0; omega
 unfold az5
 rw [an6 v.lim, Option.bind_some, cn0 (by omega), Option.bind_some]
 show aa8 (fun z => aj2 a s (aC0 s) z.1 z.2) (0, a) = _
 refine (ai8 (aC0 s).length (fun (b : aa2) i => (i, b)) (fun z => aj2 a s (aC0 s) z.1 z.2) (fun i b => ((bd9 a ((aC0 s).drop i) b).1, if (bd9 a ((aC0 s).drop i) b).2 = 0 then (List.length s : Int) else 0, (bd9 a ((aC0 s).drop i) b).2)) (fun _ b => Val b) (s0 := a) v ?_ ?_).trans rfl
 ·intro b i hi vb
  have hl := hm _ (List.getElem_mem hi)
  rw [List.drop_eq_getElem_cons hi]
  simp only [aj2, dlt hi, if_true, ab6 hi, Option.bind_some, bd9]
  by_cases q : (aC0 s)[i] = []
  ·left
   refine ⟨b, ?_, by simp [q], vb⟩
   simp only [q, decide_true, if_true]
   rw [ag2 (by omega)]
  ·simp only [q, decide_false, Bool.false_eq_true, if_false, ay8 vb.lim hl, Option.bind_some]
   by_cases e : (bO5 b (aC0 s)[i]).2 = 0
   ·left
    refine ⟨(bO5 b (aC0 s)[i]).1, ?_, by simp [e], bd7 vb hl⟩
    simp only [e, decide_true, Bool.not_true, Bool.false_eq_true, if_false]
    rw [ag2 (by omega)]
   ·right
    simp only [e, decide_false, Bool.not_false, if_true, if_false, an6 v.lim, Option.bind_some]
 ·intro b vb
  simp [aj2, bd9]
def bI6 (a : aa2) (id : Int) : aa2 := if 0 ≤ aI9 a id then {a with Convs := a.Convs.eraseIdx (aI9 a id).toNat} else a
theorem cn1 (v : Val a) {id : Int} (w : -9223372036854775808 ≤ id ∧ id ≤ 9223372036854775807) (m : Int) : ay6 a id m = some (bI6 a id) := by
 have hb := v.base
 unfold ay6 bI6
 rw [an6 v.lim, Option.bind_some, bq5 v w, Option.bind_some]
 rcases aO4 v id with q | ⟨i, hi, q, _⟩
 ·rw [q]; rfl
 ·have h0 : (0 : Int) ≤ (i : Int) := by omega
  have hd : ag1 a.Convs (i : Int) (IntKind.wrap .i64 ((i : Int) + 1)) = some (a.Convs.eraseIdx i) := by
   have e1 : ((i : Int) + 1).toNat = i + 1 := by omega
   unfold ag1 delL
   rw [ah7 (by omega) (by omega), if_pos ⟨by omega, by omega, by omega⟩, e1, Int.toNat_natCast, List.eraseIdx_eq_take_drop_succ]
  rw [q, decide_eq_true h0, if_pos rfl, if_pos h0, hd, Option.bind_some, Int.toNat_natCast]
theorem cb6 (v : Val a) (id : Int) : Val (bI6 a id) := by
 unfold bI6
 split
 ·exact v.close _
 ·exact v
def woS (m b : Int) : Int := if 0 ≤ m ∧ Int.tmod (Int.tdiv m b) 2 = 1 then m - b else m
theorem aY6 {m b : Int} (hb : b = 16 ∨ b = 64) (w : -9223372036854775808 ≤ m ∧ m ≤ 9223372036854775807) : ap6 m b = some (woS m b) := by
 unfold ap6 woS
 by_cases h : 0 ≤ m
 ·have hd : 0 ≤ Int.tdiv m b ∧ Int.tdiv m b ≤ m := by
   rcases hb with rfl | rfl <;> rw [Int.tdiv_eq_ediv_of_nonneg h] <;> omega
  have hq : cB0 .i64 m b = some (Int.tdiv m b) := by
   unfold cB0
   rw [if_neg (by omega), ah7 (by omega) (by omega)]
  rw [decide_eq_true h, if_pos rfl, hq, Option.bind_some, Option.bind_some]
  by_cases q : Int.tmod (Int.tdiv m b) 2 = 1
  ·rw [decide_eq_true q, if_pos rfl, if_pos ⟨h, q⟩, ah7 (by omega) (by omega)]
  ·rw [decide_eq_false q, if_neg (by simp), if_neg (fun z => q z.2)]
 ·rw [decide_eq_false h, if_neg (by simp), if_neg (fun z => h z.1)]; rfl
def plS (m : Int) : Int := woS (woS m 16) 64
def cn2 (m : Int) : Bool := decide (plS m < 0) || decide (3 < plS m)
theorem cE8 : ∀ m : Fin 84, cn2 (m.val : Int) = (decide (3 < Int.tmod (m.val : Int) 16) || decide (1 < Int.tmod (Int.tdiv (m.val : Int) 16) 4)) ∧ (cn2 (m.val : Int) = false → decide (woS (m.val : Int) 64 = 0) = decide (Int.tmod (m.val : Int) 64 = 0) ∧ decide (plS (m.val : Int) = 3) = decide (Int.tmod (m.val : Int) 16 = 3)) := by decide
theorem cb7 {m b : Int} (hb : b = 16 ∨ b = 64) : m - b ≤ woS m b ∧ woS m b ≤ m := by
 unfold woS
 split <;> omega
theorem cE9 (m : Int) : cn2 m = ((decide (m < 0)) || ((decide (83 < m)) || ((decide (3 < (Int.tmod m 16))) || (decide (1 < (Int.tmod (Int.tdiv m 16) 4)))))) := by
 by_cases h0 : m < 0
 ·have h1 : woS m 16 = m := by unfold woS; rw [if_neg (by omega)]
  have h2 : plS m = m := by unfold plS; rw [h1]; unfold woS; rw [if_neg (by omega)]
  unfold cn2; rw [h2]; simp [h0]
 by_cases h1 : 83 < m
 ·have a1 := cb7 (m := m) (b := 16) (.inl rfl)
  have a2 := cb7 (m := woS m 16) (b := 64) (.inr rfl)
  have : 3 < plS m := by unfold plS; omega
  unfold cn2; simp [this, h1]
 ·have hm := cE8 ⟨m.toNat, by omega⟩
  have e : ((m.toNat : Nat) : Int) = m := by omega
  simp only [e] at hm
  rw [hm.1]; simp [h0, h1]
theorem cb8 {m : Int} (h : cn2 m = false) : decide (woS m 64 = 0) = decide (Int.tmod m 64 = 0) ∧ decide (plS m = 3) = decide (Int.tmod m 16 = 3) := by
 have hb := cE9 m
 rw [h] at hb
 have hb' := hb.symm
 simp only [Bool.or_eq_false_iff, decide_eq_false_iff_not] at hb'
 have hm := cE8 ⟨m.toNat, by omega⟩
 have e : ((m.toNat : Nat) : Int) = m := by omega
 simp only [e] at hm
 exact hm.2 h
def cF0 (a : aa2) (user : Str) (id m : Int) : Bool := if id = 3 then decide (Int.tmod m 64 = 0) else decide (user = a.Owner) && !decide (Int.tmod m 16 = 3)
def b12 (a : aa2) (user : Str) (id m : Int) : Int :=
 if as4 a id = true then (if cn2 m = true then 12 else if id = 1 then (if m = 0 then 0 else 10) else if cF0 a user id m = true then (if id = 4 ∧ (32 ≤ (List.length a.Convs : Int) ∨ 1048560 ≤ a.Next) then 22 else 0) else 11) else 8
def bO9 (a : aa2) (user : Str) (id m : Int) : aa2 × Int × Int :=
 if b12 a user id m = 0 then (if id = 4 then (cw0 a, 16 + a.Next, 0) else (a, id, 0)) else (a, 0, b12 a user id m)
theorem cn3 (v : Val a) {id m : Int} (w : -9223372036854775808 ≤ id ∧ id ≤ 9223372036854775807) (wm : -9223372036854775808 ≤ m ∧ m ≤ 9223372036854775807) (user : Str) : aN4 a user id m = some (b12 a user id m) := by
 have a1 := cb7 (m := m) (b := 16) (.inl rfl)
 have hw1 : ap6 (woS m 16) 64 = some (plS m) := by
  by_cases h : m < 0
  ·have h1 : woS m 16 = m := by unfold woS; rw [if_neg (by omega)]
   unfold plS; rw [h1]; exact aY6 (.inr rfl) wm
  ·exact aY6 (.inr rfl) (by omega)
 unfold aN4 b12
 rw [aY6 (.inl rfl) wm, Option.bind_some, hw1, Option.bind_some, a99 v w, Option.bind_some]
 cases as4 a id with
 | false => rfl
 | true =>
  simp only [Bool.not_true, Bool.false_eq_true, if_false, if_true]
  rw [show (decide (plS m < 0) || decide (3 < plS m)) = cn2 m from rfl]
  cases hb : cn2 m with
  | true => rfl
  | false =>
   have hg := cb8 hb
   simp only [Bool.false_eq_true, if_false]
   by_cases h1 : id = 1
   ·subst h1
    by_cases z : m = 0
    ·simp [z]
    ·simp [z]
   ·simp only [h1, decide_false, Bool.false_and, Bool.false_eq_true, if_false]
    unfold cF0
    by_cases h3 : id = 3
    ·subst h3
     simp only [decide_true, if_true, aY6 (.inr rfl) wm, Option.bind_some, hg.1]
     by_cases z : Int.tmod m 64 = 0
     ·simp [z]
     ·simp [z]
    ·simp only [h3, decide_false, Bool.false_eq_true, if_false, Option.bind_some, Bool.not_false, Bool.true_and, hg.2]
     by_cases z : user = a.Owner
     ·by_cases z3 : Int.tmod m 16 = 3
      ·simp [z, z3]
      ·by_cases h4 : id = 4
       ·subst h4
        by_cases f1 : 32 ≤ (List.length a.Convs : Int)
        ·simp [z, z3, f1]
        ·by_cases f2 : 1048560 ≤ a.Next
         ·simp [z, z3, f1, f2]
         ·simp [z, z3, f1, f2]
       ·simp [z, z3, h4]
     ·simp [z]
theorem bC8 (v : Val a) {id m : Int} (w : -9223372036854775808 ≤ id ∧ id ≤ 9223372036854775807) (wm : -9223372036854775808 ≤ m ∧ m ≤ 9223372036854775807) (user : Str) : aq7 a user id m = some (bO9 a user id m) := by
 have hb := v.base
 unfold aq7 bO9
 rw [an6 v.lim, Option.bind_some, cn3 v w wm, Option.bind_some]
 by_cases q : b12 a user id m = 0
 ·rw [decide_eq_true q, if_pos q, Bool.not_true, if_neg (by simp)]
  by_cases h4 : id = 4
  ·rw [decide_eq_true h4, if_pos h4, Bool.not_true, if_neg (by simp), au1 (by simp; omega) (by simp; omega), Option.bind_some, ah7 (by omega) (by omega), ah7 (by omega) (by omega)]; rfl
  ·rw [decide_eq_false h4, if_neg h4]; rfl
 ·rw [decide_eq_false q, if_neg q]; rfl
theorem bC9 (v : Val a) (user : Str) (id m : Int) : Val (bO9 a user id m).1 := by
 unfold bO9
 split
 ·rename_i q
  split
  ·rename_i h4
   subst h4
   unfold b12 at q
   have n1 : ¬ (4 : Int) = 1 := by omega
   rw [if_neg n1] at q
   refine v.opn ?_ ?_
   ·apply Classical.byContradiction
    intro z
    have : (4 : Int) = 4 ∧ (32 ≤ (List.length a.Convs : Int) ∨ 1048560 ≤ a.Next) := ⟨rfl, .inl (by omega)⟩
    rw [if_pos this] at q
    split at q
    ·split at q
     ·omega
     ·split at q <;> omega
    ·omega
   ·apply Classical.byContradiction
    intro z
    have : (4 : Int) = 4 ∧ (32 ≤ (List.length a.Convs : Int) ∨ 1048560 ≤ a.Next) := ⟨rfl, .inr (by omega)⟩
    rw [if_pos this] at q
    split at q
    ·split at q
     ·omega
     ·split at q <;> omega
    ·omega
  ·exact v
 ·exact v
variable {c : aa3} {a : aa2} {id : Int}
def cAt (a : aa2) (id : Int) : aa3 := a.Convs.getD (aI9 a id).toNat ca4
def aC3 (a : aa2) (id : Int) (c : aa3) : aa2 := {a with Convs := a.Convs.set (aI9 a id).toNat c}
theorem bh0 {i : Nat} (h : i < a.Convs.length) (q : aI9 a id = (i : Int)) : cAt a id = a.Convs[i] := by
 unfold cAt
 rw [q, Int.toNat_natCast, List.getD_eq_getElem?_getD, List.getElem?_eq_getElem h]; rfl
def b13 (a : aa2) (id : Int) (cnt : Int) : aa2 × Str × Int :=
 if ar2 (cAt a id) = true then (a, [], 53) else if (aO8 (cAt a id)).2.2 = 0 then (if cnt < (List.length (aO8 (cAt a id)).2.1 : Int) then (a, [], 3) else (aC3 a id (aO8 (cAt a id)).1, (aO8 (cAt a id)).2.1, 0)) else (a, [], (aO8 (cAt a id)).2.2)
def bh3 (a : aa2) (id off cnt : Int) : aa2 × Str × Int :=
 if as4 a id = true then (if id = 1 then (a, [], 10) else if off < 0 ∨ cnt < 0 then (a, [], 1) else if 0 ≤ aI9 a id then b13 a id (min cnt 65536) else (a, cl1 (bt5 a id) off (min cnt 65536), 0)) else (a, [], 8)
theorem cw8 (v : Val a) {i : Nat} (hi : i < a.Convs.length) (q : aI9 a id = (i : Int)) (cnt : Int) : aX1 a (i : Int) cnt = some (b13 a id cnt) := by
 have hv := v.convAt hi
 have hk := (v.lim.conv _ (List.getElem_mem hi)).key
 unfold aX1 b13 aC3
 rw [bh0 hi q, q, Int.toNat_natCast, an6 v.lim, Option.bind_some, ab6 hi, Option.bind_some, bC1, Option.bind_some]
 cases hf : ar2 a.Convs[i] with
 | true => rfl
 | false =>
  have hr : ag3 a.Convs[i] = true := by
   rcases hv.2.2 with h | h
   ·rw [hf] at h; cases h
   ·exact h
  obtain ⟨_, _, hp, _, _, _, h0, h3⟩ := aG6 hr
  have hm := bC0 (a.Convs[i]).Proto
  simp only [Bool.false_eq_true, if_false, Option.bind_some, bN8 (bV3 hk hr) hp h0 (by omega)]
  by_cases e : (aO8 a.Convs[i]).2.2 = 0
  ·simp only [e, decide_true, Bool.not_true, Bool.false_eq_true, if_false, if_true]
   by_cases l : cnt < (List.length (aO8 a.Convs[i]).2.1 : Int)
   ·simp only [l, decide_true, if_true]
   ·simp only [l, decide_false, Bool.false_eq_true, if_false]
  ·simp only [e, decide_false, Bool.not_false, if_true, if_false]
theorem br5 (v : Val a) (w : -9223372036854775808 ≤ id ∧ id ≤ 9223372036854775807) (off cnt : Int) : ah0 a id off cnt = some (bh3 a id off cnt) := by
 rcases aO4 v id with q | ⟨i, hi, q, q2⟩
 ·rw [cl2 v w q]
  unfold cv2 bh3
  rw [q]
  simp only [show ¬ (0 : Int) ≤ -1 by omega, if_false]
 ·have h0 : (0 : Int) ≤ (i : Int) := by omega
  have he : as4 a id = true := by unfold as4; rw [q]; simp
  have n1 : ¬ id = 1 := by omega
  unfold ah0 bh3
  rw [an6 v.lim, Option.bind_some, a99 v w, Option.bind_some, he, if_pos rfl, decide_eq_false n1, if_neg n1]
  by_cases h2 : off < 0 ∨ cnt < 0
  ·have : (decide (off < 0) || decide (cnt < 0)) = true := by simpa using h2
   simp [h2, this]
  ·have h2' : (decide (off < 0) || decide (cnt < 0)) = false := by
    rw [Bool.or_eq_false_iff, decide_eq_false_iff_not, decide_eq_false_iff_not]; omega
   simp only [h2, h2', Bool.not_true, Bool.false_eq_true, if_false, bq5 v w, Option.bind_some]
   rw [q]
   simp only [h0, decide_true, if_true, cw8 v hi q, Option.bind_some]
theorem bV6 (v : Val a) (id off cnt : Int) : Val (bh3 a id off cnt).1 := by
 unfold bh3
 split
 ·split
  ·exact v
  ·split
   ·exact v
   ·split
    ·rename_i hc
     unfold b13
     rcases aO4 v id with q | ⟨i, hi, q, _⟩
     ·omega
     ·rw [bh0 hi q]
      have hv := v.convAt hi
      have hk := (v.lim.conv _ (List.getElem_mem hi)).key
      cases hf : ar2 a.Convs[i] with
      | true => exact v
      | false =>
       have hr : ag3 a.Convs[i] = true := by
        rcases hv.2.2 with h | h
        ·rw [hf] at h; cases h
        ·exact h
       simp only [Bool.false_eq_true, if_false]
       split
       ·split
        ·exact v
        ·unfold aC3
         rw [q, Int.toNat_natCast]
         exact v.put hi (bI2 _).1 (.inr (bO2 hr)) (by rw [(bI2 _).2]; exact hk)
       ·exact v
    ·exact v
 ·exact v
def ba3 : Str := [112, 114, 111, 116, 111]
def cn4 : Str := [114, 111, 108, 101]
def bt7 (l : List aa1) : Int := if aY1 cn4 l = aB2 then 1 else if aY1 cn4 l = aB1 then 2 else 0
def cb9 (l : List aa1) : List aa1 := (l.filter fun x => !decide (x.Name = ba3)).filter fun x => !decide (x.Name = cn4)
def aV4 (a : aa2) (id : Int) (l : List aa1) : aa3 × Int := a15 (an4 ba3 l).1 (bt7 l) (bD4 (cb9 l) a.Keys).1 (bx2 a.Seed (Go.Lib.itoa a.Count))
def bI7 (a : aa2) (id : Int) (l : List aa1) : aa2 × Int :=
 if (an4 ba3 l).2 = true then (if bt7 l = 0 then (a, 1) else if (bD4 (cb9 l) a.Keys).2 = true then (if 9007199254740991 ≤ a.Count then (a, 22) else if (aV4 a id l).2 = 0 then ({aC3 a id {(aV4 a id l).1 with Id := (cAt a id).Id} with Count := a.Count + 1}, 0) else (a, (aV4 a id l).2)) else (a, 52)) else (a, 53)
def br6 : Str := [115, 116, 97, 114, 116]
def bx6 (a : aa2) (id : Int) (s : Str) : aa2 × Int :=
 if (br6 ++ [32]).isPrefixOf s = true then (if (an3 (s.drop 6)).2.2 = 0 then bI7 a id (an3 (s.drop 6)).1 else (a, (an3 (s.drop 6)).2.2)) else (a, 53)
def bx7 (a : aa2) (id : Int) (s : Str) : aa2 × Int :=
 if (au9 (cAt a id) s).2 = 0 ∨ (au9 (cAt a id) s).2 = 28 then (aC3 a id (au9 (cAt a id) s).1, (au9 (cAt a id) s).2) else (a, (au9 (cAt a id) s).2)
def cc0 (s : Str) (x : aa2 × Int) : aa2 × Int × Int := (x.1, if x.2 = 0 then (List.length s : Int) else 0, x.2)
def a17 (a : aa2) (id : Int) (s : Str) : aa2 × Int × Int :=
 if as4 a id = true then (if id = 1 then (a, 0, 10) else if id = 3 ∨ id = 4 then (a, 0, 11) else if id = 2 then cc0 s (bd9 a (aC0 s) a) else if ar2 (cAt a id) = true then cc0 s (bx6 a id s) else cc0 s (bx7 a id s)) else (a, 0, 8)
theorem cw9 {l : List aa1} (h : l.length ≤ 1000000) : (cb9 l).length ≤ 1000000 :=
 Nat.le_trans (List.length_filter_le _ _) (Nat.le_trans (List.length_filter_le _ _) h)
theorem cx0 {l : List aa1} (h : l.length ≤ 1000000) : aX4 l = some (bt7 l, !decide (bt7 l = 0)) := by
 unfold aX4 bt7 aY1 cn4 aB2 aB1
 rw [bd1 h, Option.bind_some]
 by_cases q1 : (an4 [114, 111, 108, 101] l).1 = [99, 108, 105, 101, 110, 116]
 ·simp [q1]
 ·by_cases q2 : (an4 [114, 111, 108, 101] l).1 = [115, 101, 114, 118, 101, 114]
  ·simp [q1, q2]
  ·simp [q1, q2]
theorem cc1 (v : Val a) {i : Nat} (hi : i < a.Convs.length) (q : aI9 a id = (i : Int)) {s : Str} (hs : s.length ≤ 2000) : aA6 a (i : Int) s = some (cc0 s (bx6 a id s)) := by
 have hb := v.base
 have hk := bj3 (s := s.drop 6) (by rw [List.length_drop]; omega)
 have hl := hk.le
 have hl1 : ((an3 (s.drop 6)).1.filter fun x => !decide (x.Name = [112, 114, 111, 116, 111])).length ≤ 1000000 := Nat.le_trans (List.length_filter_le _ _) hl
 unfold aA6 bx6
 rw [an6 v.lim, Option.bind_some]
 unfold strings_CutPrefix stringslite_CutPrefix
 rw [aV2, Option.bind_some, show ([115, 116, 97, 114, 116, 32] : Str) = br6 ++ [32] from rfl]
 by_cases hp : (br6 ++ [32]).isPrefixOf s = true
 case neg =>
  rw [Bool.not_eq_true] at hp
  rw [hp]; rfl
 have hpl : 6 ≤ s.length := by
  have := (List.isPrefixOf_iff_prefix.1 hp).length_le
  simpa [br6] using this
 have hcut : cut s (List.length (br6 ++ [32]) : Int) (List.length s : Int) = some (s.drop 6) := az2 (a := 6) (by omega)
 rw [if_pos hp, hp, hcut]
 simp only [Bool.not_true, Bool.false_eq_true, if_false, Option.bind_some, bB5 (show (s.drop 6).length ≤ 1000000 by rw [List.length_drop]; omega)]
 by_cases he : (an3 (s.drop 6)).2.2 = 0
 case neg => simp only [he, decide_false, Bool.not_false, if_true, if_false, cc0]
 simp only [he, decide_true, Bool.not_true, Bool.false_eq_true, if_false, if_true, bd1 hl, Option.bind_some, cx0 hl, bw9 hl, bw9 hl1]
 generalize hP : (an3 (s.drop 6)).1 = l at hk hl hl1 ⊢
 have hpat : ((l.filter fun x => !decide (x.Name = [112, 114, 111, 116, 111])).filter fun x => !decide (x.Name = [114, 111, 108, 101])) = cb9 l := rfl
 rw [hpat, cD3 v.lim (cw9 hl), Option.bind_some]
 unfold bI7
 rw [show an4 [112, 114, 111, 116, 111] l = an4 ba3 l from rfl]
 cases hf : (an4 ba3 l).2 with
 | false => rfl
 | true =>
  simp only [Bool.not_true, Bool.false_eq_true, if_false, if_true, Bool.not_not]
  by_cases hr : bt7 l = 0
  ·simp only [hr, decide_true, if_true, cc0]; rfl
  ·simp only [hr, decide_false, Bool.false_eq_true, if_false]
   cases hkk : (bD4 (cb9 l) a.Keys).2 with
   | false => rfl
   | true =>
    have hsh : Sh (bD4 (cb9 l) a.Keys).1 := v.lim.key _ (bC3 hkk)
    simp only [Bool.not_true, Bool.false_eq_true, if_false, if_true]
    by_cases hc : 9007199254740991 ≤ a.Count
    ·simp only [hc, decide_true, if_true, cc0]; rfl
    ·have hit : (Go.Lib.itoa a.Count).length ≤ 1000000 := Nat.le_trans (Go.Lib.itoa_length_le _ (by omega) (by omega)) (by omega)
     simp only [hc, decide_false, Bool.false_eq_true, if_false, bN3 (show -9223372036854775808 ≤ a.Count by omega) (show a.Count ≤ 9223372036854775807 by omega), Option.bind_some, cq4 (show a.Seed.length ≤ 100000000000 by omega) (show (Go.Lib.itoa a.Count).length ≤ 100000000000 by omega), cm4 hsh]
     rw [show a15 (an4 ba3 l).1 (bt7 l) (bD4 (cb9 l) a.Keys).1 (bx2 a.Seed (Go.Lib.itoa a.Count)) = aV4 a id l from rfl]
     by_cases hz : (aV4 a id l).2 = 0
     ·have hw : IntKind.wrap .i64 (a.Count + 1) = a.Count + 1 := ah7 (by omega) (by omega)
      simp only [hz, decide_true, Bool.not_true, Bool.false_eq_true, if_false, if_true, ab6 hi, Option.bind_some, hw, aC3, bh0 hi q, q, Int.toNat_natCast, cc0]
     ·simp only [hz, decide_false, Bool.not_false, if_true, if_false, cc0]
theorem b14 (c : aa3) (s : Str) : (au9 c s).2 = 0 ∨ (au9 c s).2 = 28 ∨ (au9 c s).2 = 53 := by
 unfold au9
 split
 ·split
  ·exact .inr (.inl rfl)
  ·unfold bC6
   split
   ·exact .inl rfl
   ·exact .inr (.inl rfl)
 ·exact .inr (.inr rfl)
theorem cc2 (v : Val a) {i : Nat} (hi : i < a.Convs.length) (hf : ar2 a.Convs[i] = false) : ag3 a.Convs[i] = true ∧ Tl a.Convs[i] := by
 have hk := (v.lim.conv _ (List.getElem_mem hi)).key
 have hr : ag3 a.Convs[i] = true := by
  rcases (v.convAt hi).2.2 with h | h
  ·rw [hf] at h; cases h
  ·exact h
 exact ⟨hr, bV3 hk hr⟩
theorem cn5 (v : Val a) {i : Nat} (hi : i < a.Convs.length) (q : aI9 a id = (i : Int)) (hf : ar2 a.Convs[i] = false) {s : Str} (hs : s.length ≤ 2000) : ay5 a (i : Int) s = some (cc0 s (bx7 a id s)) := by
 obtain ⟨hr, ht⟩ := cc2 v hi hf
 unfold ay5 bx7
 rw [an6 v.lim, Option.bind_some, ab6 hi, Option.bind_some, bI3 ht hr s (by omega), Option.bind_some, bh0 hi q]
 unfold az7 cc0 aC3
 rw [q, Int.toNat_natCast, Option.bind_some]
 rcases b14 a.Convs[i] s with e | e | e <;> simp [e]
theorem br7 (v : Val a) (he : as4 a id = true) (h : ¬ (1 ≤ id ∧ id ≤ 4)) : ∃ i, ∃ hi : i < a.Convs.length, aI9 a id = (i : Int) := by
 rcases aO4 v id with q | ⟨i, hi, q, _⟩
 ·unfold as4 at he
  rw [q] at he
  simp only [Bool.or_eq_true, Bool.and_eq_true, decide_eq_true_eq] at he
  omega
 ·exact ⟨i, hi, q⟩
theorem bj4 (v : Val a) (w : -9223372036854775808 ≤ id ∧ id ≤ 9223372036854775807) {s : Str} (hs : s.length ≤ 2000) : ak3 a id s = some (a17 a id s) := by
 unfold ak3 a17
 rw [bq5 v w, Option.bind_some, a99 v w, Option.bind_some]
 cases he : as4 a id with
 | false => simp only [Bool.not_false, if_true, an6 v.lim, Option.bind_some, Bool.false_eq_true, if_false]
 | true =>
  simp only [Bool.not_true, Bool.false_eq_true, if_false, if_true]
  by_cases h1 : id = 1
  ·simp only [h1, decide_true, if_true, an6 v.lim, Option.bind_some]
  by_cases h34 : id = 3 ∨ id = 4
  ·have e : (decide (id = 3) || decide (id = 4)) = true := by simpa using h34
   simp only [h1, h34, e, decide_false, Bool.false_eq_true, if_false, if_true, an6 v.lim, Option.bind_some]
  have e : (decide (id = 3) || decide (id = 4)) = false := by
   rw [Bool.or_eq_false_iff, decide_eq_false_iff_not, decide_eq_false_iff_not]; omega
  by_cases h2 : id = 2
  ·simp only [h1, h34, e, decide_false, Bool.false_eq_true, if_false]
   rw [decide_eq_true h2, if_pos rfl, if_pos h2, bO8 v hs]; rfl
  ·obtain ⟨i, hi, q⟩ := br7 v he (by omega)
   simp only [h1, h34, h2, e, decide_false, Bool.false_eq_true, if_false]
   rw [q, ab6 hi, Option.bind_some, bC1, Option.bind_some, bh0 hi q]
   cases hf : ar2 a.Convs[i] with
   | true => rw [if_pos rfl, if_pos rfl, cc1 (id := id) v hi q hs]; rfl
   | false => rw [if_neg (by simp), if_neg (by simp), cn5 (id := id) v hi q hf hs]; rfl
theorem cc3 (v : Val a) {i : Nat} (hi : i < a.Convs.length) (q : aI9 a id = (i : Int)) (s : Str) : Val (bx6 a id s).1 := by
 have hb := v.base
 unfold bx6
 split
 ·split
  ·unfold bI7
   generalize (an3 (s.drop 6)).1 = l
   split
   ·split
    ·exact v
    ·split
     ·rename_i hkk
      split
      ·exact v
      ·split
       ·rename_i hz
        have hcv := v.conv (List.getElem_mem hi)
        have hsh : Sh (bD4 (cb9 l) a.Keys).1 := v.lim.key _ (bC3 hkk)
        have hz' := hz
        unfold aV4 at hz'
        obtain ⟨r1, r2⟩ := bO3 (id := (a.Convs[i]).Id) hz' (by omega) (by omega)
        have hp : Val {a with Convs := a.Convs.set i {(aV4 a id l).1 with Id := (a.Convs[i]).Id}} := v.put hi rfl (.inr r1) (by
         show Sh (aV4 a id l).1.Key
         unfold aV4
         rw [r2]; exact hsh)
        have := hp.count (by show a.Count < 9007199254740991; omega)
        unfold aC3
        rw [q, bh0 hi q, Int.toNat_natCast]
        exact this
       ·exact v
     ·exact v
   ·exact v
  ·exact v
 ·exact v
theorem cc4 (v : Val a) {i : Nat} (hi : i < a.Convs.length) (q : aI9 a id = (i : Int)) (hf : ar2 a.Convs[i] = false) (s : Str) : Val (bx7 a id s).1 := by
 obtain ⟨hr, ht⟩ := cc2 v hi hf
 have hk := (v.lim.conv _ (List.getElem_mem hi)).key
 unfold bx7 aC3
 rw [q, bh0 hi q, Int.toNat_natCast]
 split
 ·exact v.put hi (bx5 s).1 (.inr (bO1 hr s)) (by rw [(bx5 s).2]; exact hk)
 ·exact v
theorem ba4 (v : Val a) (id : Int) {s : Str} (hs : s.length ≤ 2000) : Val (a17 a id s).1 := by
 unfold a17
 cases he : as4 a id with
 | false => exact v
 | true =>
  simp only [if_true]
  by_cases h1 : id = 1
  ·rw [if_pos h1]; exact v
  rw [if_neg h1]
  by_cases h34 : id = 3 ∨ id = 4
  ·rw [if_pos h34]; exact v
  rw [if_neg h34]
  by_cases h2 : id = 2
  ·rw [if_pos h2]
   exact bC7 v v fun x hx => by
    have := aY5 (sep := 10) s [] x hx
    simp at this; omega
  ·rw [if_neg h2]
   obtain ⟨i, hi, q⟩ := br7 v he (by omega)
   rw [bh0 hi q]
   cases hf : ar2 a.Convs[i] with
   | true => exact cc3 v hi q s
   | false => exact cc4 v hi q hf s
variable {a : aa2}
theorem cc5 {p : Str} {r : Int} {k : List aa1} {n : Str} (h1 : ai3 p = true) (h2 : r = 1 ∨ r = 2) (h3 : n.length = 32) (h4 : bp4 k = 0) (h5 : bt4 k = true) : a15 p r k n = (bi9 (ba1 p r k n), 0) := by
 unfold a15
 rw [if_neg (by rw [h1]; simp), if_pos ⟨h2, by omega⟩, if_pos h4, if_pos h5]
theorem cn6 {id : Int} {l k : List aa1} {p : Str} {r : Int} (h1 : an4 ba3 l = (p, true)) (h2 : bt7 l = r) (hr : r = 1 ∨ r = 2) (h3 : bD4 (cb9 l) a.Keys = (k, true)) (hc : a.Count < 9007199254740991) (hp : ai3 p = true) (h4 : bp4 k = 0) (h5 : bt4 k = true) :
  bI7 a id l = ({aC3 a id {bi9 (ba1 p r k (bx2 a.Seed (Go.Lib.itoa a.Count))) with Id := (cAt a id).Id} with Count := a.Count + 1}, 0) := by
 have hb : aV4 a id l = (bi9 (ba1 p r k (bx2 a.Seed (Go.Lib.itoa a.Count))), 0) := by
  unfold aV4
  rw [h1, h2, h3]
  exact cc5 hp hr (aO6 _ _) h4 h5
 unfold bI7
 rw [h1, if_pos rfl, h2, if_neg (by omega), h3, if_pos rfl, if_neg (by omega), hb, if_pos rfl]
theorem br8 {id : Int} {s : Str} {l k : List aa1} {p : Str} {r : Int} (e0 : as4 a id = true) (e1 : 17 ≤ id) (e2 : ar2 (cAt a id) = true) (e3 : (br6 ++ [32]).isPrefixOf s = true) (e4 : an3 (s.drop 6) = (l, 0, 0)) (h1 : an4 ba3 l = (p, true)) (h2 : bt7 l = r) (hr : r = 1 ∨ r = 2) (h3 : bD4 (cb9 l) a.Keys = (k, true)) (hc : a.Count < 9007199254740991) (hp : ai3 p = true) (h4 : bp4 k = 0) (h5 : bt4 k = true) :
  a17 a id s = ({aC3 a id {bi9 (ba1 p r k (bx2 a.Seed (Go.Lib.itoa a.Count))) with Id := (cAt a id).Id} with Count := a.Count + 1}, (List.length s : Int), 0) := by
 unfold a17
 rw [e0, if_pos rfl, if_neg (by omega), if_neg (by omega), if_neg (by omega), e2, if_pos rfl]
 unfold bx6
 rw [if_pos e3, e4, if_pos rfl, cn6 h1 h2 hr h3 hc hp h4 h5]
 rfl
theorem bP0 {o s : Str} {b : aa2} (h : ao0 o s = some (b, 0)) (hs : s.length ≤ 2000) : Val b ∧ b = ⟨o, s, [], 1, [], 0⟩ := by
 unfold ao0 at h
 by_cases q : decide (o = []) || decide (32 < (List.length o : Int))
 ·rw [if_pos q] at h; cases h
 ·rw [if_neg q] at h
  by_cases q2 : decide (1024 < (List.length s : Int))
  ·rw [if_pos q2] at h; cases h
  ·rw [if_neg q2] at h
   have hb : b = ⟨o, s, [], 1, [], 0⟩ := by
    have := Option.some.inj h
    exact (Prod.mk.inj this).1.symm
   subst hb
   simp only [Bool.or_eq_true, decide_eq_true_eq, not_or] at q q2
   refine ⟨⟨⟨by simp only; omega, hs, by simp, by simp, by simp, by simp⟩, aG7.2 ⟨?_, by simp, by simp, ⟨by simp, by simp⟩, ⟨by simp, by simp⟩⟩⟩, rfl⟩
   unfold bC2
   simp only [Bool.not_eq_true', Bool.or_eq_false_iff, decide_eq_false_iff_not]
   exact ⟨q.1, q.2, by omega, by omega, by omega, by omega, by omega⟩
def k1 : List aa1 := [⟨[117, 115, 101, 114], [97, 110, 110], false⟩, ⟨[33, 115, 101, 99, 114, 101, 116], [97], false⟩, ⟨[100, 111, 109], [120], false⟩]
def sN : Str := bx2 [115] (Go.Lib.itoa 0)
def a0 : aa2 := ⟨[97, 100, 109], [115], [], 1, [], 0⟩
def a1 : aa2 := ⟨[97, 100, 109], [115], [k1], 1, [], 0⟩
def a2 : aa2 := ⟨[97, 100, 109], [115], [k1], 2, [⟨1, [], 0, 0, 0, [], [], [], [], 0⟩], 0⟩
def a3 (n : Str) : aa2 := ⟨[97, 100, 109], [115], [k1], 2, [⟨1, [112, 108, 97, 105, 110], 1, 1, 0, k1, n, [], [], 0⟩], 1⟩
def a4 (n : Str) : aa2 := ⟨[97, 100, 109], [115], [k1], 2, [⟨1, [112, 108, 97, 105, 110], 1, 2, 1, k1, n, [], [], 0⟩], 1⟩
def a5 (n : Str) : aa2 := ⟨[97, 100, 109], [115], [], 2, [⟨1, [112, 108, 97, 105, 110], 1, 2, 1, k1, n, [], [], 0⟩], 1⟩
def a6 : aa2 := ⟨[97, 100, 109], [115], [], 2, [], 1⟩
def cn7 : Str := [107, 101, 121, 32, 117, 115, 101, 114, 61, 97, 110, 110, 32, 33, 115, 101, 99, 114, 101, 116, 61, 97, 32, 100, 111, 109, 61, 120]
def cx1 : Str := [107, 101, 121, 32, 117, 115, 101, 114, 61, 97, 110, 110]
def lnNo : Str := [107, 101, 121, 115]
def be0 : Str := [115, 116, 97, 114, 116, 32, 112, 114, 111, 116, 111, 61, 112, 108, 97, 105, 110, 32, 114, 111, 108, 101, 61, 99, 108, 105, 101, 110, 116, 32, 117, 115, 101, 114, 61, 97, 110, 110]
def cn8 : Str := [100, 101, 108, 107, 101, 121, 32, 117, 115, 101, 114, 61, 97, 110, 110]
theorem al1 : bO5 a0 cn7 = (a1, 0) := by kernel_rfl
theorem al2 : bO5 a1 cx1 = (a1, 52) := by kernel_rfl
theorem al3 : bO5 a1 lnNo = (a1, 54) := by kernel_rfl
theorem al4 : bh3 a1 2 0 100 = (a1, [107, 101, 121, 32, 117, 115, 101, 114, 61, 97, 110, 110, 32, 100, 111, 109, 61, 120, 10], 0) := by kernel_rfl
theorem al5 : bO9 a1 [97, 100, 109] 4 2 = (a2, 17, 0) := by kernel_rfl
theorem al6 : bO9 a2 [98, 111, 98] 4 2 = (a2, 0, 11) := by kernel_rfl
theorem al7 : bh3 a2 17 0 100 = (a2, [], 53) := by kernel_rfl
def lS : List aa1 := [⟨[112, 114, 111, 116, 111], [112, 108, 97, 105, 110], false⟩, ⟨[114, 111, 108, 101], [99, 108, 105, 101, 110, 116], false⟩, ⟨[117, 115, 101, 114], [97, 110, 110], false⟩]
theorem al8n (n : Str) : (({aC3 a2 17 {bi9 (ba1 [112, 108, 97, 105, 110] 1 k1 n) with Id := (cAt a2 17).Id} with Count := a2.Count + 1} : aa2), (List.length be0 : Int), (0 : Int)) = (a3 n, 38, 0) := by kernel_rfl
theorem al8 : a17 a2 17 be0 = (a3 sN, 38, 0) := by
 have h := br8 (a := a2) (id := 17) (s := be0) (l := lS) (k := k1) (p := [112, 108, 97, 105, 110]) (r := 1) (by kernel_rfl) (by omega) (by kernel_rfl) (by kernel_rfl) (by kernel_rfl) (by kernel_rfl) (by kernel_rfl) (.inl rfl) (by kernel_rfl) (by decide) (by kernel_rfl) (by kernel_rfl) (by kernel_rfl)
 rw [h]
 exact al8n _
theorem al9 (n : Str) : bh3 (a3 n) 17 0 100 = (a4 n, [3, 0, 97, 110, 110, 1, 0, 97], 0) := by kernel_rfl
theorem al10 (n : Str) : bO5 (a4 n) cn8 = (a5 n, 0) := by kernel_rfl
theorem al11 (n : Str) : bI6 (a5 n) 17 = a6 := by kernel_rfl
theorem cq6 : ao0 [97, 100, 109] [115] = some (a0, 0) := by kernel_rfl
theorem be1 : ae8 = some true := by
 have w17 : (-9223372036854775808 : Int) ≤ 17 ∧ (17 : Int) ≤ 9223372036854775807 := by omega
 have w2 : (-9223372036854775808 : Int) ≤ 2 ∧ (2 : Int) ≤ 9223372036854775807 := by omega
 have w4 : (-9223372036854775808 : Int) ≤ 4 ∧ (4 : Int) ≤ 9223372036854775807 := by omega
 have v0 : Val a0 := (bP0 cq6 (by decide)).1
 have v1 : Val a1 := by have := bd7 v0 (l := cn7) (by decide); rwa [al1] at this
 have v2 : Val a2 := by have := bC9 v1 [97, 100, 109] 4 2; rwa [al5] at this
 have v3 : Val (a3 sN) := by have := ba4 v2 17 (s := be0) (by decide); rwa [al8] at this
 have v4 : Val (a4 sN) := by have := bV6 v3 17 0 100; rwa [al9] at this
 have v5 : Val (a5 sN) := by have := bd7 v4 (l := cn8) (by decide); rwa [al10] at this
 have v6 : Val a6 := by have := cb6 v5 17; rwa [al11] at this
 have c1 := ay8 v0.lim (l := cn7) (by decide)
 have c2 := ay8 v1.lim (l := cx1) (by decide)
 have c3 := ay8 v1.lim (l := lnNo) (by decide)
 have c4 := br5 v1 w2 0 100
 have c5 := bC8 v1 w4 w2 [97, 100, 109]
 have c6 := bC8 v2 w4 w2 [98, 111, 98]
 have c7 := br5 v2 w17 0 100
 have c8 := bj4 v2 w17 (s := be0) (by decide)
 have c9 := br5 v3 w17 0 100
 have c10 := ay8 v4.lim (l := cn8) (by decide)
 have c11 := cn1 v5 w17 0
 have c12 := cl0 v6.lim
 rw [v6.ok] at c12
 rw [al1] at c1
 rw [al2] at c2
 rw [al3] at c3
 rw [al4] at c4
 rw [al5] at c5
 rw [al6] at c6
 rw [al7] at c7
 rw [al8] at c8
 rw [al9] at c9
 rw [al10] at c10
 rw [al11] at c11
 unfold cn7 at c1
 unfold cx1 at c2
 unfold lnNo at c3
 unfold be0 at c8
 unfold cn8 at c10
 have n1 : (a5 sN).Keys = [] := rfl
 have n2 : a6.Convs = [] := rfl
 have n3 : (a3 sN).Count = 1 := rfl
 unfold ae8
 simp [cq6, c1, c2, c3, c4, c5, c6, c7, c8, c9, c10, c11, c12, n1, n2, n3]
end Go.Proofs.YtiliognepodhnaaGreatDoor
