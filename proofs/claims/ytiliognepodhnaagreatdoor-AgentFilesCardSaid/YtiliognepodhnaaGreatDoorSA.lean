import Derived.Test.YtiliognepodhnaaGreatDoorRK
import Derived.KernelRfl
namespace Go.Proofs.YtiliognepodhnaaGreatDoor
open Go.Vm
set_option autoImplicit false
set_option linter.unusedVariables false
set_option linter.unusedSimpArgs false
set_option maxRecDepth 100000
variable {c : aa3} {a : aa2}
theorem bg9 {K : Nat} : ∀ (f : Nat) (out : List aa1) (i : Nat) (s : Str), out.length + s.length ≤ K → (∀ a ∈ out, a.Name.length ≤ K ∧ a.Value.length ≤ K) → (av5 f out i s).1.length ≤ K ∧ ∀ a ∈ (av5 f out i s).1, a.Name.length ≤ K ∧ a.Value.length ≤ K
 | 0, out, i, s, h1, h2 => ⟨by simp only [av5]; omega, by simpa only [av5] using h2⟩
 | f + 1, out, i, [], h1, h2 => ⟨by simp only [av5]; simp at h1; omega, by simpa only [av5] using h2⟩
 | f + 1, out, i, c :: r, h1, h2 => by
  simp only [List.length_cons] at h1
  rw [av5]
  split
  ·exact bg9 f out (i + 1) r (by omega) h2
  ·split
   ·rename_i hz
    have := bK5 (b49 hz)
    simp only [List.length_cons] at this
    refine bg9 f _ _ _ (by simp only [List.length_append, List.length_cons, List.length_nil, List.length_drop]; omega) ?_
    intro a ha
    rcases List.mem_append.1 ha with ha | ha
    ·exact h2 a ha
    ·obtain rfl := List.mem_singleton.1 ha
     omega
   ·exact ⟨by simp, by simp⟩
theorem bm2 {s : Str} (h : s.length ≤ 2000) : Sh (an6 s).1 := by
 have := bg9 (K := 2000) (s.length + 1) [] 0 s (by simpa using h) (by simp)
 exact ⟨this.1, fun a ha => by have := this.2 a ha; omega⟩
theorem cs4 {l : List Int} (h : ∀ (i : Nat) (hi : i + 1 < l.length), l[i] < l[i + 1]) : l.Pairwise (fun x y => x < y) := by
 rw [List.pairwise_iff_getElem]
 intro i j hi hj hij
 induction j with
 | zero => omega
 | succ j ih =>
  rcases Nat.lt_or_ge i j with q | q
  ·exact Int.lt_trans (ih (by omega) q) (h j hj)
  ·have : i = j := by omega
   subst this; exact h i hj
theorem bu3 {i : Nat} (hi : i < a.Convs.length) : a01 a i a.Convs[i] = true ↔ (1 ≤ (a.Convs[i]).Id ∧ (a.Convs[i]).Id < a.Next ∧ (ap0 a.Convs[i] = true ∨ ag5 a.Convs[i] = true)) ∧ ∀ (k : Nat) (hk : k + 1 = i), (a.Convs[k]'(by omega)).Id < (a.Convs[i]).Id := by
 unfold a01
 simp only [Bool.and_eq_true, Bool.not_eq_true', decide_eq_false_iff_not, Bool.or_eq_true]
 cases i with
 | zero =>
  constructor
  ·rintro ⟨h1, h2, _, h3⟩; exact ⟨⟨by omega, by omega, h3⟩, fun k hk => by omega⟩
  ·rintro ⟨⟨h1, h2, h3⟩, _⟩; exact ⟨by omega, by omega, rfl, h3⟩
 | succ k =>
  have hk : k < a.Convs.length := by omega
  simp only [List.getElem?_eq_getElem hk, Bool.not_eq_true', decide_eq_false_iff_not]
  constructor
  ·rintro ⟨h1, h2, h4, h3⟩
   refine ⟨⟨by omega, by omega, h3⟩, fun j hj => ?_⟩
   obtain rfl : j = k := by omega
   omega
  ·rintro ⟨⟨h1, h2, h3⟩, h4⟩
   have := h4 k rfl
   exact ⟨by omega, by omega, by omega, h3⟩
structure bF8 (n : Int) (l : List aa3) : Prop where
 asc : (l.map fun c => c.Id).Pairwise (fun x y => x < y)
 ok : ∀ c ∈ l, 1 ≤ c.Id ∧ c.Id < n ∧ (ap0 c = true ∨ ag5 c = true)
theorem cg7 : bv4 (a01 a) 0 a.Convs = true ↔ bF8 a.Next a.Convs := by
 rw [bb1]
 constructor
 ·intro h
  have h' : ∀ (i : Nat) (hi : i < a.Convs.length), a01 a i a.Convs[i] = true := fun i hi => by
   have := h i hi
   rwa [Nat.zero_add] at this
  refine ⟨cs4 fun i hi => ?_, fun c hc => ?_⟩
  ·simp only [List.length_map] at hi
   simp only [List.getElem_map]
   exact ((bu3 hi).1 (h' _ hi)).2 i rfl
  ·obtain ⟨i, hi, rfl⟩ := List.getElem_of_mem hc
   exact ((bu3 hi).1 (h' _ hi)).1
 ·intro h i hi
  rw [Nat.zero_add]
  refine (bu3 hi).2 ⟨h.ok _ (List.getElem_mem hi), fun k hk => ?_⟩
  have := List.pairwise_iff_getElem.1 h.asc k i (by simp; omega) (by simpa using hi) (by omega)
  simpa only [List.getElem_map] using this
structure bd8 (l : List (List aa1)) : Prop where
 one : (l.map pub).Pairwise (fun x y => x ≠ y)
 ok : ∀ k ∈ l, b52 k = true
theorem cs5 {l : List (List aa1)} : bv4 (bS2 l) 0 l = true ↔ bd8 l := by
 rw [bb1]
 constructor
 ·intro h
  refine ⟨?_, fun k hk => ?_⟩
  ·rw [List.pairwise_iff_getElem]
   intro i j hi hj hij e
   simp only [List.length_map] at hi hj
   simp only [List.getElem_map] at e
   have := h j hj
   unfold bS2 at this
   simp only [Bool.and_eq_true, Bool.not_eq_true', List.any_eq_false, decide_eq_true_eq, Nat.zero_add] at this
   refine this.2 l[i] ?_ e
   have hm : l[i] = (l.take j)[i]'(by simp; omega) := by simp
   rw [hm]; exact List.getElem_mem _
  ·obtain ⟨i, hi, rfl⟩ := List.getElem_of_mem hk
   have := h i hi
   unfold bS2 at this
   simp only [Bool.and_eq_true] at this
   exact this.1
 ·rintro ⟨h1, h2⟩ i hi
  unfold bS2
  simp only [Nat.zero_add, h2 _ (List.getElem_mem hi), Bool.true_and, Bool.not_eq_true', List.any_eq_false, decide_eq_true_eq]
  intro o ho e
  obtain ⟨j, hj, rfl⟩ := List.getElem_of_mem ho
  simp only [List.length_take] at hj
  have := List.pairwise_iff_getElem.1 h1 j i (by simp; omega) (by simpa using hi) (by omega)
  simp only [List.getElem_map] at this
  rw [List.getElem_take] at e
  exact this e
structure OKA (a : aa2) : Prop where
 base : bw8 a = true
 nc : a.Convs.length ≤ 32
 nk : a.Keys.length ≤ 64
 keys : bd8 a.Keys
 convs : bF8 a.Next a.Convs
theorem aL6 : a02 a = true ↔ OKA a := by
 unfold a02
 simp only [Bool.and_eq_true, Bool.not_eq_true', decide_eq_false_iff_not, cg7, cs5]
 constructor
 ·rintro ⟨h1, h2, h3, h4, h5⟩; exact ⟨h1, by omega, by omega, h4, h5⟩
 ·rintro ⟨h1, h2, h3, h4, h5⟩; exact ⟨h1, by omega, by omega, h4, h5⟩
theorem Val.oka (v : Val a) : OKA a := aL6.1 v.ok
theorem cg8 {n : Int} {l : List aa3} (h : bF8 n l) {i : Nat} (hi : i < l.length) {c : aa3} (hid : c.Id = (l[i]).Id) (hr : ap0 c = true ∨ ag5 c = true) : bF8 n (l.set i c) := by
 have hm : (l.set i c).map (fun c => c.Id) = l.map fun c => c.Id := by
  rw [List.map_set, hid]
  have : (l[i]).Id = (l.map fun c => c.Id)[i]'(by simpa using hi) := by simp
  rw [this, List.set_getElem_self]
 refine ⟨by rw [hm]; exact h.asc, fun x hx => ?_⟩
 rcases List.mem_or_eq_of_mem_set hx with hx | rfl
 ·exact h.ok x hx
 ·have := h.ok _ (List.getElem_mem hi)
  rw [hid]; exact ⟨this.1, this.2.1, hr⟩
theorem Val.put (v : Val a) {i : Nat} (hi : i < a.Convs.length) {c : aa3} (hid : c.Id = (a.Convs[i]).Id) (hr : ap0 c = true ∨ ag5 c = true) (hk : Sh c.Key) : Val {a with Convs := a.Convs.set i c} := by
 have h := v.lim
 have o := v.oka
 refine ⟨⟨h.owner, h.seed, h.keys, h.key, by simpa using h.convs, fun x hx => ?_⟩, aL6.2 ⟨o.base, by simpa using o.nc, o.nk, o.keys, cg8 o.convs hi hid hr⟩⟩
 rcases List.mem_or_eq_of_mem_set hx with hx | rfl
 ·exact h.conv x hx
 ·exact ⟨hk⟩
theorem Val.count (v : Val a) (h : a.Count < 9007199254740991) : Val {a with Count := a.Count + 1} := by
 have l := v.lim
 have o := v.oka
 have hb := v.base
 refine ⟨⟨l.owner, l.seed, l.keys, l.key, l.convs, l.conv⟩, aL6.2 ⟨?_, o.nc, o.nk, o.keys, o.convs⟩⟩
 have := o.base
 unfold bw8 at this ⊢
 simp only [Bool.not_eq_true', Bool.or_eq_false_iff, decide_eq_false_iff_not] at this ⊢
 refine ⟨this.1, this.2.1, this.2.2.1, this.2.2.2.1, this.2.2.2.2.1, by omega, by omega⟩
theorem Val.close (v : Val a) (i : Nat) : Val {a with Convs := a.Convs.eraseIdx i} := by
 have h := v.lim
 have o := v.oka
 have hl : (a.Convs.eraseIdx i).length ≤ a.Convs.length := (List.eraseIdx_sublist _ _).length_le
 have h1 := h.convs
 have h2 := o.nc
 refine ⟨⟨h.owner, h.seed, h.keys, h.key, by show (a.Convs.eraseIdx i).length ≤ 40; omega, fun x hx => h.conv x ((List.eraseIdx_sublist _ _).subset hx)⟩, aL6.2 ⟨o.base, by show (a.Convs.eraseIdx i).length ≤ 32; omega, o.nk, o.keys, ?_, fun x hx => o.convs.ok x ((List.eraseIdx_sublist _ _).subset hx)⟩⟩
 exact o.convs.asc.sublist ((List.eraseIdx_sublist _ _).map _)
def b04 (n : Int) : aa3 := ⟨n, [], 0, 0, 0, [], [], [], [], 0⟩
def cC3 (a : aa2) : aa2 := {a with Convs := a.Convs ++ [b04 a.Next], Next := a.Next + 1}
theorem Val.opn (v : Val a) (h : a.Convs.length < 32) (hn : a.Next < 1048560) : Val (cC3 a) := by
 have l := v.lim
 have o := v.oka
 have hb := v.base
 unfold cC3
 refine ⟨⟨l.owner, l.seed, l.keys, l.key, by simp; omega, fun x hx => ?_⟩, aL6.2 ⟨?_, by simp; omega, o.nk, o.keys, ?_, fun x hx => ?_⟩⟩
 ·rcases List.mem_append.1 hx with hx | hx
  ·exact l.conv x hx
  ·obtain rfl := List.mem_singleton.1 hx
   exact ⟨⟨by simp [b04], by simp [b04]⟩⟩
 ·have := o.base
  unfold bw8 at this ⊢
  simp only [Bool.not_eq_true', Bool.or_eq_false_iff, decide_eq_false_iff_not] at this ⊢
  refine ⟨this.1, this.2.1, this.2.2.1, by omega, by omega, this.2.2.2.2.2⟩
 ·rw [List.map_append, List.pairwise_append]
  refine ⟨o.convs.asc, by simp, fun x hx y hy => ?_⟩
  obtain ⟨c, hc, rfl⟩ := List.mem_map.1 hx
  obtain rfl := List.mem_singleton.1 hy
  exact (o.convs.ok c hc).2.1
 ·rcases List.mem_append.1 hx with hx | hx
  ·have := o.convs.ok x hx
   exact ⟨this.1, by show x.Id < a.Next + 1; omega, this.2.2⟩
  ·obtain rfl := List.mem_singleton.1 hx
   exact ⟨by show 1 ≤ a.Next; omega, by show a.Next < a.Next + 1; omega, .inl rfl⟩
theorem Val.keysTo (v : Val a) {l : List (List aa1)} (hl : l.length ≤ 64) (hk : bd8 l) (hs : ∀ k ∈ l, Sh k) : Val {a with Keys := l} := by
 have h := v.lim
 have o := v.oka
 exact ⟨⟨h.owner, h.seed, by show l.length ≤ 70; omega, hs, h.convs, h.conv⟩, aL6.2 ⟨o.base, o.nc, hl, hk, o.convs⟩⟩
theorem bT0 {l : List (List aa1)} (h : bd8 l) (p : List aa1 → Bool) : bd8 (l.filter p) :=
 ⟨h.one.sublist ((List.filter_sublist).map _), fun k hk => h.ok k (List.mem_filter.1 hk).1⟩
theorem cs6 {l : List (List aa1)} (h : bd8 l) {i : Nat} (hi : i < l.length) {k : List aa1} (hp : pub l[i] = pub k) (hk : b52 k = true) : bd8 (l.set i k) := by
 have hm : (l.set i k).map pub = l.map pub := by
  rw [List.map_set, ← hp]
  have : pub l[i] = (l.map pub)[i]'(by simpa using hi) := by simp
  rw [this, List.set_getElem_self]
 refine ⟨by rw [hm]; exact h.one, fun x hx => ?_⟩
 rcases List.mem_or_eq_of_mem_set hx with hx | rfl
 ·exact h.ok x hx
 ·exact hk
theorem cg9 {l : List (List aa1)} (h : bd8 l) {k : List aa1} (hp : ∀ o ∈ l, pub o ≠ pub k) (hk : b52 k = true) : bd8 (l ++ [k]) := by
 refine ⟨?_, fun x hx => ?_⟩
 ·rw [List.map_append, List.pairwise_append]
  refine ⟨h.one, by simp, fun x hx y hy => ?_⟩
  obtain ⟨c, hc, rfl⟩ := List.mem_map.1 hx
  obtain rfl := List.mem_singleton.1 hy
  exact hp c hc
 ·rcases List.mem_append.1 hx with hx | hx
  ·exact h.ok x hx
  ·obtain rfl := List.mem_singleton.1 hx; exact hk
variable {c : aa3}
def b05 (s : Str) (at_ : Nat) : Option Str := if at_ + 32 ≤ s.length then some ((s.drop at_).take 32) else none
def bM0 (c : aa3) (s : Str) : Option Str := if 0 ≤ bA3 c c.Step then b05 s (bA3 c c.Step).toNat else some c.Peer
def bF9 (c : aa3) : aa3 := {c with Phase := 4, Err := 28}
def cs7 (c : aa3) (p : Str) : Str := bu2 c c.Step (if c.Role = 1 then c.Own else p) (if c.Role = 1 then p else c.Own)
def cC4 (c : aa3) (p : Str) : aa3 := bw7 {c with Peer := p, Step := c.Step + 1}
def bM1 (c : aa3) (s p : Str) : aa3 × Int := if cs7 c p = s then (cC4 c p, 0) else (bF9 c, 28)
def aF4 (c : aa3) (s : Str) : aa3 × Int :=
 if c.Phase = 2 then (match bM0 c s with | none => (bF9 c, 28) | some p => bM1 c s p) else (c, 53)
theorem b61 {s : Str} {n : Nat} {p : Str} (h : b05 s n = some p) : p.length = 32 := by
 unfold b05 at h
 split at h
 ·obtain rfl := Option.some.inj h; simp; omega
 ·cases h
theorem bu4 (h : ah7 c.Proto = true) : c.Proto = an3 ∨ c.Proto = aO2 ∨ c.Proto = av3 := by
 unfold ah7 at h
 simpa only [Bool.or_eq_true, decide_eq_true_eq] using h
theorem bu5 (c : aa3) : phS c = 3 ∧ c.Step = aL9 c.Proto ∨ phS c = 1 ∧ c.Step ≠ aL9 c.Proto ∧ aN3 c.Proto c.Role c.Step = true ∨ phS c = 2 ∧ c.Step ≠ aL9 c.Proto ∧ aN3 c.Proto c.Role c.Step = false := by
 unfold phS
 split
 ·rename_i h; exact .inl ⟨rfl, h⟩
 ·rename_i h
  split
  ·rename_i q; exact .inr (.inl ⟨rfl, h, q⟩)
  ·rename_i q; exact .inr (.inr ⟨rfl, h, by simpa using q⟩)
theorem bh0 (h : ag5 c = true) (q : c.Phase = 2) : c.Step ≠ aL9 c.Proto ∧ c.Step ≤ 2 ∧ c.User = [] ∧ c.Err = 0 ∧ phS c = 2 ∧ aN3 c.Proto c.Role c.Step = false ∧ (if as2 c = true then c.Peer.length = 32 else c.Peer = []) := by
 obtain ⟨_, _, _, _, _, _, h7, h8⟩ := aL5 h
 have hm := bF2 c.Proto
 unfold ag5 stB bd4 a00 at h
 simp only [Bool.and_eq_true, Bool.or_eq_true, decide_eq_true_eq] at h
 obtain ⟨_, ⟨h1, h2, h3⟩, h4⟩ := h
 have hp : phS c = 2 := by
  rcases h1 with h1 | h1
  ·omega
  ·omega
 have hn : ¬ phS c = 3 := by omega
 have n4 : ¬ (c.Phase = 4 ∧ phS c = 2) := by omega
 rw [if_neg hn] at h2
 rw [if_neg n4] at h3
 rcases bu5 c with ⟨e, _⟩ | ⟨e, _⟩ | ⟨e, e2, e3⟩
 ·omega
 ·omega
 ·refine ⟨e2, by omega, h2, h3, hp, e3, ?_⟩
  by_cases k : as2 c = true
  ·rw [if_pos k] at h4 ⊢; have := of_decide_eq_true h4; omega
  ·rw [if_neg k] at h4 ⊢; exact of_decide_eq_true h4
theorem b62 (h : ag5 c = true) (q : c.Phase = 1) : c.Step ≠ aL9 c.Proto ∧ c.Step ≤ 2 ∧ c.User = [] ∧ c.Err = 0 ∧ phS c = 1 ∧ aN3 c.Proto c.Role c.Step = true ∧ (if as2 c = true then c.Peer.length = 32 else c.Peer = []) := by
 obtain ⟨_, _, _, _, _, _, h7, h8⟩ := aL5 h
 have hm := bF2 c.Proto
 unfold ag5 stB bd4 a00 at h
 simp only [Bool.and_eq_true, Bool.or_eq_true, decide_eq_true_eq] at h
 obtain ⟨_, ⟨h1, h2, h3⟩, h4⟩ := h
 have hp : phS c = 1 := by
  rcases h1 with h1 | h1
  ·omega
  ·omega
 have hn : ¬ phS c = 3 := by omega
 have n4 : ¬ (c.Phase = 4 ∧ phS c = 2) := by omega
 rw [if_neg hn] at h2
 rw [if_neg n4] at h3
 rcases bu5 c with ⟨e, _⟩ | ⟨e, e2, e3⟩ | ⟨e, _⟩
 ·omega
 ·refine ⟨e2, by omega, h2, h3, hp, e3, ?_⟩
  by_cases k : as2 c = true
  ·rw [if_pos k] at h4 ⊢; have := of_decide_eq_true h4; omega
  ·rw [if_neg k] at h4 ⊢; exact of_decide_eq_true h4
 ·omega
theorem bA5 {p : Str} (hp : ah7 c.Proto = true) (hr : c.Role = 1 ∨ c.Role = 2) (h0 : 0 ≤ c.Step) (h2 : c.Step ≤ 2) : as2 {c with Peer := p, Step := c.Step + 1} = (as2 c || kb c c.Step) := by
 have k1 := @bt4 c hp hr
 have k2 := @bt4 {c with Peer := p, Step := c.Step + 1} hp hr
 rw [← k1, ← k2]
 have e : ∀ n, kb {c with Peer := p, Step := c.Step + 1} n = kb c n := fun n => rfl
 have hs : c.Step = 0 ∨ c.Step = 1 ∨ c.Step = 2 := by omega
 unfold bj6
 rw [e, e, e]
 show (decide (0 < c.Step + 1) && kb c 0 || (decide (1 < c.Step + 1) && kb c 1 || decide (2 < c.Step + 1) && kb c 2)) = _
 rcases hs with h | h | h <;> rw [h] <;> simp [Bool.or_assoc]
theorem ch0 (hp : ah7 c.Proto = true) (hr : c.Role = 1 ∨ c.Role = 2) (h0 : 0 ≤ c.Step) (h2 : c.Step ≤ 2) (hk : kb c c.Step = true) : as2 c = false := by
 have hs : c.Step = 0 ∨ c.Step = 1 ∨ c.Step = 2 := by omega
 have n0 : ¬ (an3 = aO2) := by decide
 have n1 : ¬ (aO2 = an3) := by decide
 have n2 : ¬ (av3 = an3) := by decide
 have n3 : ¬ (av3 = aO2) := by decide
 have d : Int.tmod 0 2 = 0 ∧ Int.tmod 1 2 = 1 ∧ Int.tmod 2 2 = 0 := by decide
 rcases bu4 hp with h | h | h <;> rcases hr with r | r <;> rcases hs with q | q | q <;> simp [kb, bA3, aN3, bt0, h, r, q, n0, n1, n2, n3, d] at hk <;> simp [as2, h, r, q, n0, n1, n2, n3]
theorem bu6 {c : aa3} (hpre : bj7 c = true) (he : c.Err = 0) (hpe : a00 c = true) : ag5 (bw7 c) = true := by
 unfold ag5
 have e1 : bj7 (bw7 c) = bj7 c := rfl
 have e2 : a00 (bw7 c) = a00 c := rfl
 have hph : phS (bw7 c) = phS c := rfl
 have hne : ¬ phS c = 4 := by rcases bu5 c with h | h | h <;> omega
 rw [e1, e2, hpre, hpe]
 have hf : bd4 (bw7 c) = false := by
  unfold bd4
  show (decide (phS c = 4) && _) = false
  simp [hne]
 unfold stB
 rw [hf, hph]
 show (true && ((false || decide (phS c = phS c)) && (decide ((if phS c = 3 then usr c else []) = if phS c = 3 then usr c else []) && decide (c.Err = if false = true then 28 else 0))) && true) = true
 simp [he]
theorem b63 (h : ag5 c = true) (q : c.Phase = 1) : ag5 (bw7 {c with Step := c.Step + 1}) = true := by
 obtain ⟨i0, i1, hp, hr, hk, ho, h0, h3⟩ := aL5 h
 obtain ⟨hm, h2, hu, he, hph, hs, hpe⟩ := b62 h q
 refine bu6 ?_ he ?_
 ·unfold ag5 bj7 at h
  simp only [Bool.and_eq_true, Bool.not_eq_true', decide_eq_false_iff_not] at h
  obtain ⟨⟨g1, g2, g3, g4, g5, g6, g7, g8⟩, _⟩ := h
  unfold bj7
  simp only [Bool.and_eq_true, Bool.not_eq_true', decide_eq_false_iff_not]
  exact ⟨g1, g2, g3, g4, g5, g6, by omega, by omega⟩
 ·have kn := @bA5 c c.Peer hp hr h0 h2
  have kf : kb c c.Step = false := by unfold kb; rw [hs]; simp
  rw [kf, Bool.or_false] at kn
  unfold a00
  have e : ({c with Peer := c.Peer, Step := c.Step + 1} : aa3) = {c with Step := c.Step + 1} := rfl
  rw [e] at kn
  rw [kn]
  show (if as2 c = true then decide ((List.length c.Peer : Int) = 32) else decide (c.Peer = [])) = true
  by_cases k : as2 c = true
  ·rw [if_pos k] at hpe ⊢; simp [hpe]
  ·rw [if_neg k] at hpe ⊢; simp [hpe]
theorem bA6 (h : ag5 c = true) (q : c.Phase = 2) : ag5 (bF9 c) = true := by
 obtain ⟨hm, h2, hu, he, hph, hs, hpe⟩ := bh0 h q
 have hpre : bj7 c = true := by unfold ag5 at h; simp only [Bool.and_eq_true] at h; exact h.1
 unfold ag5
 have e1 : bj7 (bF9 c) = bj7 c := rfl
 have e2 : a00 (bF9 c) = a00 c := rfl
 have hpB : a00 c = true := by unfold ag5 at h; simp only [Bool.and_eq_true] at h; exact h.2.2
 have hp' : phS (bF9 c) = 2 := hph
 have hf : bd4 (bF9 c) = true := by
  unfold bd4
  rw [hp']; rfl
 rw [e1, e2, hpre, hpB]
 unfold stB
 rw [hf, hp']
 show (true && ((true || decide ((4 : Int) = 2)) && (decide (c.User = if (2 : Int) = 3 then usr c else []) && decide ((28 : Int) = if true = true then 28 else 0)) && true)) = true
 simp [hu]
theorem b64 (h : ag5 c = true) (q : c.Phase = 2) {s p : Str} (hl : bM0 c s = some p) : ag5 (cC4 c p) = true := by
 obtain ⟨i0, i1, hp, hr, hk, ho, h0, h3⟩ := aL5 h
 obtain ⟨hm, h2, hu, he, hph, hs, hpe⟩ := bh0 h q
 refine bu6 ?_ he ?_
 ·unfold ag5 bj7 at h
  simp only [Bool.and_eq_true, Bool.not_eq_true', decide_eq_false_iff_not] at h
  obtain ⟨⟨g1, g2, g3, g4, g5, g6, g7, g8⟩, _⟩ := h
  unfold bj7
  simp only [Bool.and_eq_true, Bool.not_eq_true', decide_eq_false_iff_not]
  exact ⟨g1, g2, g3, g4, g5, g6, by omega, by omega⟩
 ·have kn := @bA5 c p hp hr h0 h2
  unfold a00
  rw [kn]
  show (if (as2 c || kb c c.Step) = true then decide ((List.length p : Int) = 32) else decide (p = [])) = true
  unfold bM0 at hl
  by_cases hc : 0 ≤ bA3 c c.Step
  ·rw [if_pos hc] at hl
   have := b61 hl
   have kt : kb c c.Step = true := by unfold kb; rw [hs]; simp [hc]
   rw [kt]; simp [this]
  ·rw [if_neg hc] at hl
   obtain rfl := Option.some.inj hl
   have kf : kb c c.Step = false := by unfold kb; simp [hc]
   rw [kf, Bool.or_false]
   by_cases k : as2 c = true
   ·rw [if_pos k] at hpe ⊢; simp [hpe]
   ·rw [if_neg k] at hpe ⊢; simp [hpe]
theorem bT1 (h : ag5 c = true) (s : Str) : ag5 (aF4 c s).1 = true := by
 unfold aF4
 by_cases q : c.Phase = 2
 ·rw [if_pos q]
  cases hl : bM0 c s with
  | none => exact bA6 h q
  | some p =>
   show ag5 (bM1 c s p).1 = true
   unfold bM1
   split
   ·exact b64 h q hl
   ·exact bA6 h q
 ·rw [if_neg q]; exact h
theorem bA7 (s : Str) : (aF4 c s).1.Id = c.Id ∧ (aF4 c s).1.Key = c.Key := by
 unfold aF4
 split
 ·split
  ·exact ⟨rfl, rfl⟩
  ·unfold bM1
   split <;> exact ⟨rfl, rfl⟩
 ·exact ⟨rfl, rfl⟩
theorem bM2 (c : aa3) : (a90 c).1.Id = c.Id ∧ (a90 c).1.Key = c.Key := by
 unfold a90
 split <;> exact ⟨rfl, rfl⟩
theorem bT2 (h : ag5 c = true) : ag5 (a90 c).1 = true := by
 unfold a90
 by_cases q : c.Phase = 1
 ·rw [if_pos q]; exact b63 h q
 ·rw [if_neg q]; exact h
theorem bT3 {p : Str} {r : Int} {k : List aa1} {n : Str} {id : Int} (h : (a62 p r k n).2 = 0) (h0 : 0 ≤ id) (h1 : id ≤ 1048575) : ag5 {(a62 p r k n).1 with Id := id} = true ∧ (a62 p r k n).1.Key = k := by
 unfold a62 at h ⊢
 split
 ·rename_i q; rw [if_pos q] at h; cases h
 ·rename_i q
  rw [if_neg q] at h
  split
  ·rename_i q1
   rw [if_pos q1] at h
   split
   ·rename_i q2
    rw [if_pos q2] at h
    split
    ·rename_i q3
     refine ⟨?_, rfl⟩
     have hp : ah7 p = true := by simpa using q
     have e : ({bw7 (bu1 p r k n) with Id := id} : aa3) = bw7 {bu1 p r k n with Id := id} := rfl
     show ag5 {bw7 (bu1 p r k n) with Id := id} = true
     rw [e]
     refine bu6 ?_ rfl ?_
     ·unfold bj7 bw6
      have m0 : ¬ aL9 p < 0 := by unfold aL9; split <;> (try split) <;> (try split) <;> omega
      have hr : (decide (r = 1) || decide (r = 2)) = true := by simpa using q1.1
      show (!decide (id < 0) && (!decide (1048575 < id) && (ah7 p && ((decide (r = 1) || decide (r = 2)) && (decide (a87 k = 0) && bg6 k && (decide ((List.length n : Int) = 32) && (!decide ((0 : Int) < 0) && !decide (aL9 p < 0)))))))) = true
      rw [hp, hr, q3, decide_eq_true q2, decide_eq_true q1.2, decide_eq_false m0]
      simp; omega
     ·unfold a00 as2
      show (if (if p = an3 then decide (r = 1) && decide ((0 : Int) < 0) else if p = aO2 ∧ r = 2 then decide ((0 : Int) < 0) else decide (p = aO2) && decide ((1 : Int) < 0)) = true then decide ((List.length ([] : Str) : Int) = 32) else decide (([] : Str) = [])) = true
      simp
    ·rename_i q3; rw [if_neg q3] at h; cases h
   ·rename_i q2; rw [if_neg q2] at h; exact absurd h q2
  ·rename_i q1; rw [if_neg q1] at h; cases h
theorem cC5 {c : aa3} (h : Tl c) (hp : ah7 c.Proto = true) (n : Int) (s : Str) : (if (decide ((aa4.mk c).Conv.Proto = [99, 104, 97, 108])) then (aj7 (aa4.mk c) n).bind fun x => some (!decide (x = s)) else if (decide ((aa4.mk c).Conv.Proto = [109, 117, 116, 117, 97, 108])) then (ai3 (aa4.mk c) n).bind fun x => some (!decide (x = s)) else (ai8 (aa4.mk c) n).bind fun x => some (!decide (x = s))) = some (!decide (bu2 c n (bx0 c) (bG3 c) = s)) := by
 rcases bu4 hp with q | q | q
 ·have q' : c.Proto = [99, 104, 97, 108] := q
  simp only [q', decide_true, if_true, b02 h q, Option.bind_some]
 ·have q' : c.Proto = [109, 117, 116, 117, 97, 108] := q
  have n1 : ¬ ([109, 117, 116, 117, 97, 108] : Str) = [99, 104, 97, 108] := by decide
  simp only [q', n1, decide_true, decide_false, Bool.false_eq_true, if_false, if_true, cg6 h q, Option.bind_some]
 ·have q' : c.Proto = [112, 108, 97, 105, 110] := q
  have n1 : ¬ ([112, 108, 97, 105, 110] : Str) = [99, 104, 97, 108] := by decide
  have n2 : ¬ ([112, 108, 97, 105, 110] : Str) = [109, 117, 116, 117, 97, 108] := by decide
  simp only [q', n1, n2, decide_false, Bool.false_eq_true, if_false, bL9 h q, Option.bind_some]
theorem cC6 {p s : Str} (h : Tl {c with Peer := p}) (hp : ah7 c.Proto = true) (h0 : 0 ≤ c.Step) (h2 : c.Step ≤ 2) : aq6 c s {c with Peer := p} = some (if 0 ≤ bA3 c c.Step ∧ ¬ ((List.length p : Int) = 32) then (bF9 c, 28) else bM1 c s p) := by
 have hk : c.Key.length ≤ 1000000 := h.key
 have hu : (usr c).length ≤ 65535 := Nat.le_trans h.usr (by omega)
 have hs := cC5 h hp c.Step s
 have ht : bu2 {c with Peer := p} c.Step (bx0 {c with Peer := p}) (bG3 {c with Peer := p}) = cs7 c p := rfl
 rw [ht] at hs
 have hset : am4 {c with Peer := p, Step := IntKind.wrap .i64 (c.Step + 1)} = some (cC4 c p) := by
  rw [af5 (by omega) (by omega)]
  exact a35 (c := {c with Peer := p, Step := c.Step + 1}) hp hk
 have hcop : an0 c = some c := by unfold an0; rw [aH9 hk]; rfl
 have fin : ∀ t : Bool, t = !decide (cs7 c p = s) → (if t = true then (an0 c).bind fun x20 => some ({x20 with Phase := 4, Err := 28}, (28 : Int)) else (am4 {c with Peer := p, Step := IntKind.wrap .i64 (c.Step + 1)}).bind fun x21 => some (x21, 0)) = some (bM1 c s p) := by
  rintro t rfl
  unfold bM1
  rw [hset, hcop]
  by_cases q : cs7 c p = s
  ·simp [q]
  ·simp [q, bF9]
 unfold aq6
 rw [bg7 hk hu, Option.bind_some, hs]
 by_cases hc : 0 ≤ bA3 c c.Step
 ·by_cases hl : (List.length p : Int) = 32
  ·have n1 : ¬ (0 ≤ bA3 c c.Step ∧ ¬ ((List.length p : Int) = 32)) := fun h => h.2 hl
   rw [if_neg n1, decide_eq_true hc, if_pos rfl]
   rw [show decide ((List.length ({c with Peer := p} : aa3).Peer : Int) = 32) = true from decide_eq_true hl]
   exact fin _ rfl
  ·have n1 : 0 ≤ bA3 c c.Step ∧ ¬ ((List.length p : Int) = 32) := ⟨hc, hl⟩
   rw [if_pos n1, decide_eq_true hc, if_pos rfl]
   rw [show decide ((List.length ({c with Peer := p} : aa3).Peer : Int) = 32) = false from decide_eq_false hl, hcop]
   rfl
 ·have n1 : ¬ (0 ≤ bA3 c c.Step ∧ ¬ ((List.length p : Int) = 32)) := fun h => hc h.1
  rw [if_neg n1, decide_eq_false hc, if_neg (by simp)]
  exact fin _ rfl
theorem cut32 {s : Str} {n : Nat} (h : n + 32 ≤ s.length) : cut s (n : Int) ((n : Int) + 32) = some ((s.drop n).take 32) := by
 unfold cut
 rw [if_pos ⟨by omega, by omega, by omega⟩]
 have : ((n : Int) + 32).toNat = n + 32 := by omega
 rw [this, Int.toNat_natCast, List.drop_take]
 congr 2
 omega
theorem cC7 (h : (usr c).length ≤ 5000) (n : Int) : bA3 c n ≤ 5002 := by
 unfold bA3
 split
 ·omega
 ·split
  ·omega
  ·split <;> omega
theorem cC8 (hs : aN3 c.Proto c.Role c.Step = false) : kb c c.Step = decide (0 ≤ bA3 c c.Step) := by
 unfold kb; rw [hs]; simp
theorem bM3 (h : Tl c) (hr : ag5 c = true) (s : Str) (hsl : s.length ≤ 1000000) : a27 c s = some (aF4 c s) := by
 obtain ⟨_, _, hp, hro, hok, ho, h0, _⟩ := aL5 hr
 have hcop : an0 c = some c := by unfold an0; rw [aH9 h.key]; rfl
 unfold a27 aF4
 by_cases q : c.Phase = 2
 case neg => simp [q, hcop]
 obtain ⟨hm, h2, hu, he, hph, hs, hpe⟩ := bh0 hr q
 have hul : (usr c).length ≤ 65535 := Nat.le_trans h.usr (by omega)
 have hle := cC7 h.usr c.Step
 rw [if_pos q, decide_eq_true q, Bool.not_true, if_neg (by simp), bg7 h.key hul, Option.bind_some]
 have hself : aq6 c s c = aq6 c s {c with Peer := c.Peer} := rfl
 unfold bM0
 by_cases hc : 0 ≤ bA3 c c.Step
 ·rw [if_pos hc, decide_eq_true hc, Bool.true_and]
  obtain ⟨n, hn⟩ : ∃ n : Nat, bA3 c c.Step = (n : Int) := ⟨(bA3 c c.Step).toNat, by omega⟩
  rw [hn, Int.toNat_natCast, af5 (by omega) (by omega)]
  unfold b05
  by_cases hl : n + 32 ≤ s.length
  ·have hl' : (n : Int) + 32 ≤ (List.length s : Int) := by omega
   rw [if_pos hl, decide_eq_true hl', if_pos rfl, cut32 hl, Option.bind_some]
   have hpl : ((s.drop n).take 32).length = 32 := by simp; omega
   have ht : Tl {c with Peer := (s.drop n).take 32} := ⟨h.key, h.usr, h.sec, h.own, by rw [hpl]; omega⟩
   rw [cC6 ht hp h0 h2, if_neg (by rw [hpl]; simp)]
  ·have hl' : ¬ ((n : Int) + 32 ≤ (List.length s : Int)) := by omega
   rw [if_neg hl, decide_eq_false hl', if_neg (by simp), hself, cC6 h hp h0 h2]
   have hk := cC8 hs
   rw [decide_eq_true hc] at hk
   have hkn := ch0 hp hro h0 h2 hk
   rw [hkn] at hpe
   simp only [Bool.false_eq_true, if_false] at hpe
   rw [hpe, if_pos ⟨hc, by simp⟩]
 ·rw [if_neg hc, decide_eq_false hc, Bool.false_and, if_neg (by simp), hself, cC6 h hp h0 h2, if_neg (fun x => hc x.1)]
theorem bu7 (l : Str) (c : UInt8) : (c ∉ l ∧ Go.Lib.indexByte l c = -1) ∨ ∃ a b, l = a ++ c :: b ∧ c ∉ a ∧ Go.Lib.indexByte l c = (a.length : Int) := by
 induction l with
 | nil => exact .inl ⟨by simp, rfl⟩
 | cons x r ih =>
  by_cases hx : x = c
  ·subst hx
   exact .inr ⟨[], r, rfl, by simp, by simp [Go.Lib.indexByte]⟩
  ·have hx' : (x == c) = false := by simpa using hx
   rcases ih with ⟨h1, h2⟩ | ⟨a, b, h1, h2, h3⟩
   ·refine .inl ⟨by simp [h1, Ne.symm hx], ?_⟩
    simp [Go.Lib.indexByte, hx', h2]
   ·refine .inr ⟨x :: a, b, by rw [h1]; rfl, by simp [h2, Ne.symm hx], ?_⟩
    have : ¬ ((a.length : Int) = -1) := by omega
    simp [Go.Lib.indexByte, hx', h3, this]
def b65 : Str → Option (Str × Str)
 | [] => none
 | c :: r => if c = 32 then some ([], r) else match b65 r with | some x => some (c :: x.1, x.2) | none => none
theorem bM4 : ∀ {l : Str}, (32 : UInt8) ∉ l → b65 l = none
 | [], _ => rfl
 | c :: r, h => by
  simp only [List.mem_cons, not_or] at h
  rw [b65, if_neg (fun e => h.1 e.symm), bM4 h.2]
theorem b06 : ∀ {x b : Str}, (32 : UInt8) ∉ x → b65 (x ++ 32 :: b) = some (x, b)
 | [], b, _ => by rw [List.nil_append, b65, if_pos rfl]
 | c :: r, b, h => by
  simp only [List.mem_cons, not_or] at h
  rw [List.cons_append, b65, if_neg (fun e => h.1 e.symm), b06 h.2]
theorem cK7 {l : Str} (h : l.length ≤ 1000000) : strings_Cut l [32] = some (match b65 l with | some x => (x.1, x.2, true) | none => (l, [], false)) := by
 unfold strings_Cut stringslite_Cut
 rcases bu7 l 32 with ⟨h1, h2⟩ | ⟨x, y, rfl, h2, h3⟩
 ·have : stringslite_Index l [32] = some (-1) := by show some _ = _; rw [h2]
  rw [this, bM4 h1]; rfl
 ·have : stringslite_Index (x ++ 32 :: y) [32] = some (x.length : Int) := by show some _ = _; rw [h3]
  simp only [List.length_append, List.length_cons] at h
  have e1 : cut (x ++ 32 :: y) 0 (x.length : Int) = some x := by
   rw [aP3 (by simp)]; simp
  have e2 : cut (x ++ 32 :: y) (IntKind.wrap .i64 ((x.length : Int) + (List.length ([32] : Str) : Int))) (List.length (x ++ 32 :: y) : Int) = some y := by
   have hw : IntKind.wrap .i64 ((x.length : Int) + (List.length ([32] : Str) : Int)) = ((x.length + 1 : Nat) : Int) := by
    rw [af5 (by simp; omega) (by simp; omega)]; simp
   rw [hw, az0 (by simp)]
   rw [show (x ++ 32 :: y) = (x ++ [32]) ++ y by simp, List.drop_left' (by simp)]
  have h0 : (0 : Int) ≤ (x.length : Int) := by omega
  rw [this, b06 h2, Option.bind_some, decide_eq_true h0, if_pos rfl, e1, Option.bind_some, e2]; rfl
theorem bM5 : ∀ {l x y : Str}, b65 l = some (x, y) → l = x ++ 32 :: y
 | c :: r, x, y, h => by
  rw [b65] at h
  split at h
  ·rename_i q
   simp only [Option.some.injEq, Prod.mk.injEq] at h
   rw [← h.1, ← h.2, q]; rfl
  ·split at h
   ·rename_i z hz
    simp only [Option.some.injEq, Prod.mk.injEq] at h
    have := bM5 (x := z.1) (y := z.2) hz
    rw [← h.1, ← h.2, this]; rfl
   ·cases h
def bT4 (p : List aa1) (l : List (List aa1)) : Int := ixF (fun k => decide (pub k = p)) l 0
def cH7 (a : aa2) (s : Str) : aa2 × Int :=
 if (an6 s).2.2 = 0 then (if b52 (an6 s).1 = true then (if 0 ≤ bT4 (pub (an6 s).1) a.Keys then ({a with Keys := a.Keys.set (bT4 (pub (an6 s).1) a.Keys).toNat (an6 s).1}, 0) else if 64 ≤ (List.length a.Keys : Int) then (a, 22) else ({a with Keys := a.Keys ++ [(an6 s).1]}, 0)) else (a, 52)) else (a, (an6 s).2.2)
def ch1 (p : List aa1) (l : List (List aa1)) : List (List aa1) := l.filter fun k => !(p.all (aQ9 k))
def cH8 (a : aa2) (s : Str) : aa2 × Int :=
 if (an6 s).2.2 = 0 then (if (List.length (ch1 (an6 s).1 a.Keys) : Int) = (List.length a.Keys : Int) then (a, 52) else ({a with Keys := ch1 (an6 s).1 a.Keys}, 0)) else (a, (an6 s).2.2)
def cK8 : Str := [107, 101, 121]
def cK9 : Str := [100, 101, 108, 107, 101, 121]
def b66 (a : aa2) (line : Str) : aa2 × Int := match b65 line with
 | some x => if x.1 = cK8 then cH7 a x.2 else if x.1 = cK9 then cH8 a x.2 else (a, 54)
 | none => (a, 54)
theorem bu8 (p : List aa1) (l : List (List aa1)) : (bT4 p l = -1 ∧ ∀ k ∈ l, pub k ≠ p) ∨ ∃ i, ∃ h : i < l.length, bT4 p l = (i : Int) ∧ pub l[i] = p := by
 unfold bT4
 rcases aX0 (fun k => decide (pub k = p)) l 0 with ⟨h1, h2⟩ | ⟨x, k, y, h1, h2, h3, h4⟩
 ·exact .inl ⟨h2, fun k hk => by simpa using h1 k hk⟩
 ·refine .inr ⟨x.length, by rw [h1]; simp, by rw [h4]; simp, ?_⟩
  have hk : l[x.length]? = some k := by rw [h1]; simp
  have hi : x.length < l.length := by rw [h1]; simp
  rw [List.getElem?_eq_getElem hi] at hk
  rw [Option.some.inj hk]
  exact of_decide_eq_true h2
theorem ch2 {l : Str} {x : Str × Str} (h : b65 l = some x) : x.2.length ≤ l.length := by
 have := bM5 (x := x.1) (y := x.2) h
 rw [this]; simp; omega
theorem cs8 {l : List (List aa1)} {k : List aa1} (hl : l.length ≤ 1000000) (h : ∀ o ∈ l, o.length ≤ 1000000) (hk : k.length ≤ 1000000) : ae4 l k = some (bT4 (pub k) l) := by
 unfold ae4 bT4
 refine bq6 l _ _ (fun i hi => ?_) ?_
 ·simp only [ad0, dlt hi, if_true, aa7 hi, Option.bind_some, a81, bZ3 (h _ (List.getElem_mem hi)) hk]
  rw [ab0 (by omega)]
  cases decide (pub l[i] = pub k) <;> rfl
 ·simp [ad0]
theorem cL0 (h : Lim a) {s : Str} (hs : s.length ≤ 2000) : bb4 a s = some (cH7 a s) := by
 have h1 := h.keys
 have hk := bm2 hs
 unfold bb4 cH7
 rw [an9 h, Option.bind_some, bE5 (by omega), Option.bind_some]
 by_cases he : (an6 s).2.2 = 0
 case neg => rw [if_neg he, decide_eq_false he]; rfl
 rw [if_pos he, decide_eq_true he, Bool.not_true, if_neg (by simp), cw1 hk, Option.bind_some]
 cases b52 (an6 s).1 with
 | false => rfl
 | true =>
  rw [Bool.not_true, if_neg (by simp), if_pos rfl, cs8 (by omega) (fun k hk => (h.key k hk).le) hk.le, Option.bind_some]
  rcases bu8 (pub (an6 s).1) a.Keys with ⟨q, _⟩ | ⟨i, hi, q, _⟩
  ·simp only [q, show ¬ (0 : Int) ≤ -1 by omega, decide_false, Bool.false_eq_true, if_false]
   by_cases q64 : 64 ≤ (List.length a.Keys : Int)
   ·rw [decide_eq_true q64, if_pos rfl, if_pos q64]
   ·rw [decide_eq_false q64, if_neg (by simp), if_neg q64, aj0 (by simp; omega) (by simp; omega)]; rfl
  ·have h0 : (0 : Int) ≤ (i : Int) := by omega
   rw [q, decide_eq_true h0, if_pos rfl, if_pos h0, aa7 hi]; rfl
theorem ch3 {α : Type} {p : α → Bool} (Q : α → Prop) {l : List α} {body : Int × Int × List α → Option (Step (Int × Int × List α) (List α))} (hl : l.length ≤ 1000000)
  (hQ : ∀ x ∈ l, Q x) (hb : ∀ (i j : Nat) (s : List α) (hi : i < s.length) (hj : j < s.length), Q s[j] → body ((i : Int), (j : Int), s) = if !p s[j] then some (.cont (IntKind.wrap .i64 ((i : Int) + 1), IntKind.wrap .i64 ((j : Int) + 1), s.set i s[j])) else some (.cont ((i : Int), IntKind.wrap .i64 ((j : Int) + 1), s)))
  (he : ∀ (i : Nat) (s : List α), i ≤ s.length → body ((i : Int), (s.length : Int), s) = some (.done (s.take i))) {i0 : Nat} (h0 : i0 < l.length) (hp0 : p l[i0] = true) (hbef : ∀ a ∈ l.take i0, p a = false) :
  aa9 body ((i0 : Int), IntKind.wrap .i64 ((i0 : Int) + 1), l) = some (l.filter fun a => !p a) := by
 have hw0 : IntKind.wrap .i64 ((i0 : Int) + 1) = ((i0 + 1 : Nat) : Int) := by rw [af5 (by omega) (by omega)]; omega
 rw [hw0]
 have hf0 : (l.take (i0 + 1)).filter (fun a => !p a) = l.take i0 := by
  rw [List.take_succ_eq_append_getElem h0, List.filter_append, List.filter_eq_self.2 (fun a ha => by simp [hbef a ha])]
  simp [hp0]
 refine (aP2 (σ := Nat × Nat × List α) body (fun x => ((x.1 : Int), (x.2.1 : Int), x.2.2)) (fun _ => l.filter fun a => !p a) (fun x => l.length - x.2.1)
  (fun x => (∀ y ∈ x.2.2, Q y) ∧ x.1 < x.2.1 ∧ x.2.1 ≤ l.length ∧ x.2.2.length = l.length ∧ x.2.2.take x.1 = (l.take x.2.1).filter (fun a => !p a) ∧ x.2.2.drop x.2.1 = l.drop x.2.1) ?_ (s0 := (i0, i0 + 1, l)) ⟨hQ, by simp, by simp only; omega, rfl, by simp only; exact hf0.symm, rfl⟩).trans rfl
 rintro ⟨i, j, s⟩ ⟨h0, h1, h2, h3, h4, h5⟩
 simp only at h0 h1 h2 h3 h4 h5
 rcases Nat.lt_or_ge j l.length with hj | hj
 ·left
  have hjs : j < s.length := by omega
  have hwi : IntKind.wrap .i64 ((i : Int) + 1) = ((i + 1 : Nat) : Int) := by rw [af5 (by omega) (by omega)]; omega
  have hwj : IntKind.wrap .i64 ((j : Int) + 1) = ((j + 1 : Nat) : Int) := by rw [af5 (by omega) (by omega)]; omega
  have hsj : s[j] = l[j] := by
   rw [List.drop_eq_getElem_cons hjs, List.drop_eq_getElem_cons hj] at h5
   exact (List.cons.inj h5).1
  have h5' : s.drop (j + 1) = l.drop (j + 1) := by
   rw [List.drop_eq_getElem_cons hjs, List.drop_eq_getElem_cons hj] at h5
   exact (List.cons.inj h5).2
  simp only
  rw [hb i j s (by omega) hjs (h0 _ (List.getElem_mem hjs))]
  cases hp : p s[j] with
  | true =>
   refine ⟨(i, j + 1, s), ?_, by trivial, ⟨h0, by simp only; omega, by simp only; omega, h3, ?_, h5'⟩, by simp only; omega⟩
   ·simp only [Bool.not_true, Bool.false_eq_true, if_false, hwj]
   ·simp only
    rw [h4, List.take_succ_eq_append_getElem hj, List.filter_append]
    simp [← hsj, hp]
  | false =>
   refine ⟨(i + 1, j + 1, s.set i s[j]), ?_, by trivial, ⟨fun y hy => (List.mem_or_eq_of_mem_set hy).elim (h0 y) (fun e => e ▸ h0 _ (List.getElem_mem hjs)), by simp only; omega, by simp only; omega, by simp [h3], ?_, ?_⟩, by simp only; omega⟩
   ·simp only [Bool.not_false, if_true, hwi, hwj]
   ·simp only
    rw [List.take_succ_eq_append_getElem (by simp; omega), List.getElem_set_self, List.take_set_of_le (Nat.le_refl _), h4, List.take_succ_eq_append_getElem hj, List.filter_append]
    simp [← hsj, hp]
   ·simp only
    rw [List.drop_set_of_lt (by omega)]; exact h5'
 ·right
  have : j = s.length := by omega
  subst this
  simp only
  rw [he i s (by omega), h4, List.take_of_length_le hj]
theorem cC9 {l : List (List aa1)} {p : List aa1} (hl : l.length ≤ 1000000) (h : ∀ o ∈ l, o.length ≤ 1000000) (hp : p.length ≤ 1000000) : ad2 l p = some (ch1 p l) := by
 unfold ad2 ch1
 have hix : ae5 l p = some (be1 (fun k => p.all (aQ9 k)) l) := by
  unfold ae5
  refine aT5 hl ?_ ?_
  ·intro i hi
   simp only [ad1, dlt hi, if_true, aa7 hi, Option.bind_some, aw3, bg4 (h _ (List.getElem_mem hi)) hp]
  ·simp [ad1]
 rw [hix, Option.bind_some]
 rcases bd0 (fun k => p.all (aQ9 k)) l with ⟨h1, h2⟩ | ⟨i, hi, h1, h2, h3⟩
 ·rw [h1, List.filter_eq_self.2 (fun a ha => by simp only [h2 a ha]; rfl)]; rfl
 ·have : ¬ ((i : Int) = -1) := by omega
  rw [h1]
  simp only [this, decide_false, Bool.false_eq_true, if_false]
  refine ch3 (p := fun k => p.all (aQ9 k)) (fun k : List aa1 => k.length ≤ 1000000) hl h ?_ ?_ hi h2 h3
  ·intro i j s hi hj hq
   simp only [ab8, dlt hj, if_true, aa7 hj, aa7 hi, Option.bind_some, aw3, bg4 hq hp, Int.toNat_natCast]
  ·intro i s hi
   simp only [ab8, dge, Bool.false_eq_true, if_false, af0, aP3 hi, Option.bind_some, Option.map_some]
theorem ch4 (h : Lim a) {s : Str} (hs : s.length ≤ 2000) : aM5 a s = some (cH8 a s) := by
 have h1 := h.keys
 have hk := bm2 hs
 unfold aM5 cH8
 rw [an9 h, Option.bind_some, bE5 (by omega), Option.bind_some]
 by_cases he : (an6 s).2.2 = 0
 case neg => rw [if_neg he, decide_eq_false he]; rfl
 rw [if_pos he, decide_eq_true he, Bool.not_true, if_neg (by simp), cC9 (by omega) (fun k hk => (h.key k hk).le) hk.le, Option.bind_some]
 by_cases q : (List.length (ch1 (an6 s).1 a.Keys) : Int) = (List.length a.Keys : Int)
 ·rw [decide_eq_true q, if_pos rfl, if_pos q]; rfl
 ·rw [decide_eq_false q, if_neg (by simp), if_neg q]
theorem aR2 (h : Lim a) {l : Str} (hl : l.length ≤ 2000) : ag7 a l = some (b66 a l) := by
 unfold ag7 b66
 rw [cK7 (by omega), Option.bind_some]
 cases hc : b65 l with
 | none =>
  simp only [Bool.false_and, Bool.false_eq_true, if_false, an9 h, Option.bind_some]
 | some x =>
  have hx := ch2 hc
  simp only [Bool.true_and]
  by_cases q1 : x.1 = cK8
  ·have q1' := q1; unfold cK8 at q1'
   rw [decide_eq_true q1', if_pos rfl, if_pos q1, cL0 h (by omega)]; rfl
  ·have q1' := q1; unfold cK8 at q1'
   rw [decide_eq_false q1', if_neg (by simp), if_neg q1]
   by_cases q2 : x.1 = cK9
   ·have q2' := q2; unfold cK9 at q2'
    rw [decide_eq_true q2', if_pos rfl, if_pos q2, ch4 h (by omega)]; rfl
   ·have q2' := q2; unfold cK9 at q2'
    rw [decide_eq_false q2', if_neg (by simp), if_neg q2, an9 h]; rfl
theorem cD0 (v : Val a) {s : Str} (hs : s.length ≤ 2000) : Val (cH7 a s).1 := by
 have o := v.oka
 have hk := bm2 hs
 unfold cH7
 split
 ·split
  ·rename_i hB
   rcases bu8 (pub (an6 s).1) a.Keys with ⟨q, q2⟩ | ⟨i, hi, q, q2⟩
   ·rw [q, if_neg (by omega)]
    split
    ·exact v
    ·rename_i hn
     refine v.keysTo (by simp; omega) (cg9 o.keys q2 hB) (fun k hk' => ?_)
     rcases List.mem_append.1 hk' with hk' | hk'
     ·exact v.lim.key k hk'
     ·obtain rfl := List.mem_singleton.1 hk'; exact hk
   ·rw [q, if_pos (by omega), Int.toNat_natCast]
    refine v.keysTo (by simpa using o.nk) (cs6 o.keys hi q2 hB) (fun k hk' => ?_)
    rcases List.mem_or_eq_of_mem_set hk' with hk' | rfl
    ·exact v.lim.key k hk'
    ·exact hk
  ·exact v
 ·exact v
theorem cD1 (v : Val a) {s : Str} : Val (cH8 a s).1 := by
 have o := v.oka
 unfold cH8
 split
 ·split
  ·exact v
  ·exact v.keysTo (Nat.le_trans (List.length_filter_le _ _) o.nk) (bT0 o.keys _) (fun k hk => v.lim.key k (List.mem_filter.1 hk).1)
 ·exact v
theorem bG0 (v : Val a) {l : Str} (hl : l.length ≤ 2000) : Val (b66 a l).1 := by
 unfold b66
 cases hc : b65 l with
 | none => exact v
 | some x =>
  have hx := ch2 hc
  show Val (if x.1 = cK8 then cH7 a x.2 else if x.1 = cK9 then cH8 a x.2 else (a, 54)).1
  split
  ·exact cD0 v (by omega)
  ·split
   ·exact cD1 v
   ·exact v
def aA2 (sep : UInt8) : Str → Str → List Str
 | acc, [] => [acc]
 | acc, c :: r => if c = sep then acc :: aA2 sep [] r else aA2 sep (acc ++ [c]) r
theorem bT5 {sep : UInt8} {a : Str} (h : sep ∉ a) (acc : Str) : aA2 sep acc a = [acc ++ a] := by
 induction a generalizing acc with
 | nil => simp [aA2]
 | cons c r ih =>
  simp only [List.mem_cons, not_or] at h
  rw [aA2, if_neg (fun e => h.1 e.symm), ih h.2]
  simp
theorem b67 {sep : UInt8} {a b : Str} (h : sep ∉ a) (acc : Str) : aA2 sep acc (a ++ sep :: b) = (acc ++ a) :: aA2 sep [] b := by
 induction a generalizing acc with
 | nil => simp [aA2]
 | cons c r ih =>
  simp only [List.mem_cons, not_or] at h
  rw [List.cons_append, aA2, if_neg (fun e => h.1 e.symm), ih h.2]
  simp
theorem a38 {sep : UInt8} : ∀ (p acc : Str), ∀ x ∈ aA2 sep acc p, x.length ≤ acc.length + p.length
 | [], acc, x, h => by simp [aA2] at h; subst h; simp
 | c :: r, acc, x, h => by
  unfold aA2 at h
  split at h
  ·rcases List.mem_cons.1 h with rfl | h
   ·omega
   ·have := a38 r [] x h
    simp at this ⊢; omega
  ·have := a38 r (acc ++ [c]) x h
   simp at this ⊢; omega
theorem bh1 {sep : UInt8} : ∀ (p acc : Str), (aA2 sep acc p).length ≤ p.length + 1
 | [], acc => by simp [aA2]
 | c :: r, acc => by
  unfold aA2
  split
  ·have := bh1 (sep := sep) r []; simp; omega
  ·have := bh1 (sep := sep) r (acc ++ [c]); simp; omega
theorem bT6 {p : Str} {sep : UInt8} (h : p.length ≤ 1000000000) : aw8 p [sep] 0 (-1) = some (aA2 sep [] p) := by
 unfold aw8
 simp only [show decide ((-1 : Int) = 0) = false from rfl, show decide (([sep] : Str) = []) = false by simp, show decide ((-1 : Int) < 0) = true from rfl, if_true, Bool.false_eq_true, if_false]
 have hcnt : strings_Count p [sep] = some ((p.count sep : Nat) : Int) := rfl
 have hle : p.count sep ≤ p.length := List.count_le_length
 rw [hcnt, Option.bind_some, af5 (by omega) (by omega)]
 unfold aq5
 have hmin : min ((p.count sep : Int) + 1) (IntKind.wrap .i64 ((List.length p : Int) + 1)) = ((p.count sep + 1 : Nat) : Int) := by
  rw [af5 (by omega) (by omega)]; omega
 have hmk : mkC 16 ([] : Str) (((p.count sep + 1 : Nat) : Int)) (((p.count sep + 1 : Nat) : Int)) = some (List.replicate (p.count sep + 1) []) := by
  unfold mkC
  rw [if_pos ⟨by omega, by omega, by omega, by omega⟩, Int.toNat_natCast]
 have hlim : IntKind.wrap .i64 (((p.count sep + 1 : Nat) : Int) - 1) = ((p.count sep : Nat) : Int) := by rw [af5 (by omega) (by omega)]; omega
 rw [hmin, hmk, Option.bind_some]
 refine (af2 (τ := Str × Int × List Str) (p.count sep) (fun (s : Str × List Str) i => (s.1, i, s.2)) (fun s => aj4 p [sep] 0 ((p.count sep : Int) + 1) s.1 s.2.1 s.2.2)
  (fun i s => s.2.take i ++ aA2 sep [] s.1) (fun i s => i + s.1.count sep = p.count sep ∧ s.2.length = p.count sep + 1 ∧ s.1.length ≤ p.length) (s0 := (p, List.replicate (p.count sep + 1) [])) ⟨by simp, by simp, Nat.le_refl _⟩ ?_ ?_).trans ?_
 ·rintro ⟨s, a⟩ i hi ⟨h1, h2, h3⟩
  simp only at h1 h2 h3
  left
  rcases bu7 s sep with ⟨hn, _⟩ | ⟨x, y, rfl, hx, hix⟩
  ·have : s.count sep = 0 := List.count_eq_zero.2 hn
   omega
  ·have hidx : strings_Index (x ++ sep :: y) [sep] = some (x.length : Int) := by
    show some _ = _
    rw [hix]
   simp only [List.length_append, List.length_cons] at h3
   have hia : i < a.length := by omega
   have e1 : cut (x ++ sep :: y) 0 (IntKind.wrap .i64 ((x.length : Int) + 0)) = some x := by
    rw [af5 (by omega) (by omega), Int.add_zero, aP3 (by simp)]
    simp
   have e2 : cut (x ++ sep :: y) (IntKind.wrap .i64 ((x.length : Int) + (List.length ([sep] : Str) : Int))) (List.length (x ++ sep :: y) : Int) = some y := by
    have hw : IntKind.wrap .i64 ((x.length : Int) + (List.length ([sep] : Str) : Int)) = ((x.length + 1 : Nat) : Int) := by
     rw [af5 (by simp; omega) (by simp; omega)]; simp
    rw [hw, az0 (by simp)]
    rw [show (x ++ sep :: y) = (x ++ [sep]) ++ y by simp, List.drop_left' (by simp)]
   have hneg : ¬ ((x.length : Int) < 0) := by omega
   have hcond : (i : Int) < ((p.count sep : Nat) : Int) := by omega
   refine ⟨(y, a.set i x), ?_, ?_, ?_, by simp [h2], by simp; omega⟩
   ·simp only [aj4, hmin, hlim, hcond, decide_true, if_true, hidx, Option.bind_some, hneg, decide_false, Bool.false_eq_true, if_false, e1, e2, aa7 hia, Int.toNat_natCast]
    rw [cA8 hi (by unfold maxLen; omega)]
   ·simp only
    rw [b67 hx, List.take_succ_eq_append_getElem (by simp; omega), List.getElem_set_self, List.take_set_of_le (Nat.le_refl _)]
    simp
   ·simp only [List.count_append, List.count_cons, List.count_eq_zero.2 hx] at h1
    simp at h1 ⊢
    omega
 ·rintro ⟨s, a⟩ ⟨h1, h2, h3⟩
  simp only at h1 h2 h3
  have hc : s.count sep = 0 := by omega
  have hia : p.count sep < a.length := by omega
  have hcond : ¬ (((p.count sep : Nat) : Int) < ((p.count sep : Nat) : Int)) := by omega
  have e1 : cut (List.set a (p.count sep) s) 0 (IntKind.wrap .i64 (((p.count sep : Nat) : Int) + 1)) = some (List.take (p.count sep) a ++ [s]) := by
   rw [af5 (by omega) (by omega)]
   have := aP3 (l := List.set a (p.count sep) s) (b := p.count sep + 1) (by simp; omega)
   rw [show ((p.count sep + 1 : Nat) : Int) = ((p.count sep : Nat) : Int) + 1 by omega] at this
   rw [this, List.take_succ_eq_append_getElem (by simp; omega), List.getElem_set_self, List.take_set_of_le (Nat.le_refl _)]
  simp only [aj4, aq4, hmin, hlim, hcond, decide_false, Bool.false_eq_true, if_false, aa7 hia, Option.bind_some, Int.toNat_natCast, e1, Option.map_some]
  rw [bT5 (List.count_eq_zero.1 hc)]
  rfl
 ·simp
theorem cs9 {p : Str} {sep : UInt8} (h : p.length ≤ 1000000000) : aH4 p [sep] = some (aA2 sep [] p) := by
 unfold aH4
 rw [bT6 h]; rfl
def bh2 (a0 : aa2) : List Str → aa2 → aa2 × Int
 | [], b => (b, 0)
 | l :: r, b => if l = [] then bh2 a0 r b else if (b66 b l).2 = 0 then bh2 a0 r (b66 b l).1 else (a0, (b66 b l).2)
def aG9 (s : Str) : List Str := aA2 10 [] s
theorem bG1 {a0 : aa2} (v0 : Val a0) : ∀ {l : List Str} {b : aa2}, Val b → (∀ x ∈ l, x.length ≤ 2000) → Val (bh2 a0 l b).1
 | [], b, v, _ => v
 | x :: r, b, v, h => by
  unfold bh2
  split
  ·exact bG1 v0 v fun y hy => h y (by simp [hy])
  ·split
   ·exact bG1 v0 (bG0 v (h x (by simp))) fun y hy => h y (by simp [hy])
   ·exact v0
theorem bT7 (v : Val a) {s : Str} (hs : s.length ≤ 2000) : aD4 a s = some ((bh2 a (aG9 s) a).1, if (bh2 a (aG9 s) a).2 = 0 then (List.length s : Int) else 0, (bh2 a (aG9 s) a).2) := by
 have hm : ∀ x ∈ aG9 s, x.length ≤ 2000 := fun x hx => by
  have := a38 (sep := 10) s [] x hx
  simp at this; omega
 have hn : (aG9 s).length ≤ 2001 := by
  have := bh1 (sep := 10) s []
  unfold aG9; omega
 unfold aD4
 rw [an9 v.lim, Option.bind_some, cs9 (by omega), Option.bind_some]
 show aa9 (fun z => aj2 a s (aG9 s) z.1 z.2) (0, a) = _
 refine (af2 (aG9 s).length (fun (b : aa2) i => (i, b)) (fun z => aj2 a s (aG9 s) z.1 z.2) (fun i b => ((bh2 a ((aG9 s).drop i) b).1, if (bh2 a ((aG9 s).drop i) b).2 = 0 then (List.length s : Int) else 0, (bh2 a ((aG9 s).drop i) b).2)) (fun _ b => Val b) (s0 := a) v ?_ ?_).trans rfl
 ·intro b i hi vb
  have hl := hm _ (List.getElem_mem hi)
  rw [List.drop_eq_getElem_cons hi]
  simp only [aj2, dlt hi, if_true, aa7 hi, Option.bind_some, bh2]
  by_cases q : (aG9 s)[i] = []
  ·left
   refine ⟨b, ?_, by simp [q], vb⟩
   simp only [q, decide_true, if_true]
   rw [ab0 (by omega)]
  ·simp only [q, decide_false, Bool.false_eq_true, if_false, aR2 vb.lim hl, Option.bind_some]
   by_cases e : (b66 b (aG9 s)[i]).2 = 0
   ·left
    refine ⟨(b66 b (aG9 s)[i]).1, ?_, by simp [e], bG0 vb hl⟩
    simp only [e, decide_true, Bool.not_true, Bool.false_eq_true, if_false]
    rw [ab0 (by omega)]
   ·right
    simp only [e, decide_false, Bool.not_false, if_true, if_false, an9 v.lim, Option.bind_some]
 ·intro b vb
  simp [aj2, bh2]
def bM6 (a : aa2) (id : Int) : aa2 := if 0 ≤ aM0 a id then {a with Convs := a.Convs.eraseIdx (aM0 a id).toNat} else a
theorem ct0 (v : Val a) {id : Int} (w : -9223372036854775808 ≤ id ∧ id ≤ 9223372036854775807) (m : Int) : aC1 a id m = some (bM6 a id) := by
 have hb := v.base
 unfold aC1 bM6
 rw [an9 v.lim, Option.bind_some, bt5 v w, Option.bind_some]
 rcases aL2 v id with q | ⟨i, hi, q, _⟩
 ·rw [q]; rfl
 ·have h0 : (0 : Int) ≤ (i : Int) := by omega
  have hd : ag4 a.Convs (i : Int) (IntKind.wrap .i64 ((i : Int) + 1)) = some (a.Convs.eraseIdx i) := by
   have e1 : ((i : Int) + 1).toNat = i + 1 := by omega
   unfold ag4 delL
   rw [af5 (by omega) (by omega), if_pos ⟨by omega, by omega, by omega⟩, e1, Int.toNat_natCast, List.eraseIdx_eq_take_drop_succ]
  rw [q, decide_eq_true h0, if_pos rfl, if_pos h0, hd, Option.bind_some, Int.toNat_natCast]
theorem ch5 (v : Val a) (id : Int) : Val (bM6 a id) := by
 unfold bM6
 split
 ·exact v.close _
 ·exact v
def woS (m b : Int) : Int := if 0 ≤ m ∧ Int.tmod (Int.tdiv m b) 2 = 1 then m - b else m
theorem a39 {m b : Int} (hb : b = 16 ∨ b = 64) (w : -9223372036854775808 ≤ m ∧ m ≤ 9223372036854775807) : aq3 m b = some (woS m b) := by
 unfold aq3 woS
 by_cases h : 0 ≤ m
 ·have hd : 0 ≤ Int.tdiv m b ∧ Int.tdiv m b ≤ m := by
   rcases hb with rfl | rfl <;> rw [Int.tdiv_eq_ediv_of_nonneg h] <;> omega
  have hq : cz8 .i64 m b = some (Int.tdiv m b) := by
   unfold cz8
   rw [if_neg (by omega), af5 (by omega) (by omega)]
  rw [decide_eq_true h, if_pos rfl, hq, Option.bind_some, Option.bind_some]
  by_cases q : Int.tmod (Int.tdiv m b) 2 = 1
  ·rw [decide_eq_true q, if_pos rfl, if_pos ⟨h, q⟩, af5 (by omega) (by omega)]
  ·rw [decide_eq_false q, if_neg (by simp), if_neg (fun z => q z.2)]
 ·rw [decide_eq_false h, if_neg (by simp), if_neg (fun z => h z.1)]; rfl
def plS (m : Int) : Int := woS (woS m 16) 64
def ct1 (m : Int) : Bool := decide (plS m < 0) || decide (3 < plS m)
theorem cL1 : ∀ m : Fin 84, ct1 (m.val : Int) = (decide (3 < Int.tmod (m.val : Int) 16) || decide (1 < Int.tmod (Int.tdiv (m.val : Int) 16) 4)) ∧ (ct1 (m.val : Int) = false → decide (woS (m.val : Int) 64 = 0) = decide (Int.tmod (m.val : Int) 64 = 0) ∧ decide (plS (m.val : Int) = 3) = decide (Int.tmod (m.val : Int) 16 = 3)) := by decide
theorem ch6 {m b : Int} (hb : b = 16 ∨ b = 64) : m - b ≤ woS m b ∧ woS m b ≤ m := by
 unfold woS
 split <;> omega
theorem cL2 (m : Int) : ct1 m = ((decide (m < 0)) || ((decide (83 < m)) || ((decide (3 < (Int.tmod m 16))) || (decide (1 < (Int.tmod (Int.tdiv m 16) 4)))))) := by
 by_cases h0 : m < 0
 ·have h1 : woS m 16 = m := by unfold woS; rw [if_neg (by omega)]
  have h2 : plS m = m := by unfold plS; rw [h1]; unfold woS; rw [if_neg (by omega)]
  unfold ct1; rw [h2]; simp [h0]
 by_cases h1 : 83 < m
 ·have a1 := ch6 (m := m) (b := 16) (.inl rfl)
  have a2 := ch6 (m := woS m 16) (b := 64) (.inr rfl)
  have : 3 < plS m := by unfold plS; omega
  unfold ct1; simp [this, h1]
 ·have hm := cL1 ⟨m.toNat, by omega⟩
  have e : ((m.toNat : Nat) : Int) = m := by omega
  simp only [e] at hm
  rw [hm.1]; simp [h0, h1]
theorem ch7 {m : Int} (h : ct1 m = false) : decide (woS m 64 = 0) = decide (Int.tmod m 64 = 0) ∧ decide (plS m = 3) = decide (Int.tmod m 16 = 3) := by
 have hb := cL2 m
 rw [h] at hb
 have hb' := hb.symm
 simp only [Bool.or_eq_false_iff, decide_eq_false_iff_not] at hb'
 have hm := cL1 ⟨m.toNat, by omega⟩
 have e : ((m.toNat : Nat) : Int) = m := by omega
 simp only [e] at hm
 exact hm.2 h
def cL3 (a : aa2) (user : Str) (id m : Int) : Bool := if id = 3 then decide (Int.tmod m 64 = 0) else decide (user = a.Owner) && !decide (Int.tmod m 16 = 3)
def b68 (a : aa2) (user : Str) (id m : Int) : Int :=
 if ah8 a id = true then (if ct1 m = true then 12 else if id = 1 then (if m = 0 then 0 else 10) else if cL3 a user id m = true then (if id = 4 ∧ (32 ≤ (List.length a.Convs : Int) ∨ 1048560 ≤ a.Next) then 22 else 0) else 11) else 8
def b69 (a : aa2) (user : Str) (id m : Int) : aa2 × Int × Int :=
 if b68 a user id m = 0 then (if id = 4 then (cC3 a, 16 + a.Next, 0) else (a, id, 0)) else (a, 0, b68 a user id m)
theorem ct2 (v : Val a) {id m : Int} (w : -9223372036854775808 ≤ id ∧ id ≤ 9223372036854775807) (wm : -9223372036854775808 ≤ m ∧ m ≤ 9223372036854775807) (user : Str) : aS9 a user id m = some (b68 a user id m) := by
 have a1 := ch6 (m := m) (b := 16) (.inl rfl)
 have hw1 : aq3 (woS m 16) 64 = some (plS m) := by
  by_cases h : m < 0
  ·have h1 : woS m 16 = m := by unfold woS; rw [if_neg (by omega)]
   unfold plS; rw [h1]; exact a39 (.inr rfl) wm
  ·exact a39 (.inr rfl) (by omega)
 unfold aS9 b68
 rw [a39 (.inl rfl) wm, Option.bind_some, hw1, Option.bind_some, aR1 v w, Option.bind_some]
 cases ah8 a id with
 | false => rfl
 | true =>
  simp only [Bool.not_true, Bool.false_eq_true, if_false, if_true]
  rw [show (decide (plS m < 0) || decide (3 < plS m)) = ct1 m from rfl]
  cases hb : ct1 m with
  | true => rfl
  | false =>
   have hg := ch7 hb
   simp only [Bool.false_eq_true, if_false]
   by_cases h1 : id = 1
   ·subst h1
    by_cases z : m = 0
    ·simp [z]
    ·simp [z]
   ·simp only [h1, decide_false, Bool.false_and, Bool.false_eq_true, if_false]
    unfold cL3
    by_cases h3 : id = 3
    ·subst h3
     simp only [decide_true, if_true, a39 (.inr rfl) wm, Option.bind_some, hg.1]
     by_cases z : Int.tmod m 64 = 0
     ·simp [z]
     ·simp [z]
    ·simp only [h3, decide_false, Bool.false_eq_true, if_false, Option.bind_some, Bool.not_false, Bool.true_and, hg.2]
     by_cases z : user = a.Owner
     ·by_cases z3 : Int.tmod m 16 = 3
      ·simp [z, z3]
      ·by_cases h4 : id = 4
       ·subst h4
        by_cases f1 : 32 ≤ (List.length a.Convs : Int)
        ·simp [z, z3, f1]
        ·by_cases f2 : 1048560 ≤ a.Next
         ·simp [z, z3, f1, f2]
         ·simp [z, z3, f1, f2]
       ·simp [z, z3, h4]
     ·simp [z]
theorem ch8 (v : Val a) {id m : Int} (w : -9223372036854775808 ≤ id ∧ id ≤ 9223372036854775807) (wm : -9223372036854775808 ≤ m ∧ m ≤ 9223372036854775807) (user : Str) : ar5 a user id m = some (b69 a user id m) := by
 have hb := v.base
 unfold ar5 b69
 rw [an9 v.lim, Option.bind_some, ct2 v w wm, Option.bind_some]
 by_cases q : b68 a user id m = 0
 ·rw [decide_eq_true q, if_pos q, Bool.not_true, if_neg (by simp)]
  by_cases h4 : id = 4
  ·rw [decide_eq_true h4, if_pos h4, Bool.not_true, if_neg (by simp), aj0 (by simp; omega) (by simp; omega), Option.bind_some, af5 (by omega) (by omega), af5 (by omega) (by omega)]; rfl
  ·rw [decide_eq_false h4, if_neg h4]; rfl
 ·rw [decide_eq_false q, if_neg q]; rfl
theorem ct3 (v : Val a) (user : Str) (id m : Int) : Val (b69 a user id m).1 := by
 unfold b69
 split
 ·rename_i q
  split
  ·rename_i h4
   subst h4
   unfold b68 at q
   have n1 : ¬ (4 : Int) = 1 := by omega
   rw [if_neg n1] at q
   refine v.opn ?_ ?_
   ·apply Classical.byContradiction
    intro z
    have : (4 : Int) = 4 ∧ (32 ≤ (List.length a.Convs : Int) ∨ 1048560 ≤ a.Next) := ⟨rfl, .inl (by omega)⟩
    rw [if_pos this] at q
    split at q
    ·split at q
     ·omega
     ·split at q <;> omega
    ·omega
   ·apply Classical.byContradiction
    intro z
    have : (4 : Int) = 4 ∧ (32 ≤ (List.length a.Convs : Int) ∨ 1048560 ≤ a.Next) := ⟨rfl, .inr (by omega)⟩
    rw [if_pos this] at q
    split at q
    ·split at q
     ·omega
     ·split at q <;> omega
    ·omega
  ·exact v
 ·exact v
variable {c : aa3} {a : aa2} {id : Int}
def cAt (a : aa2) (id : Int) : aa3 := a.Convs.getD (aM0 a id).toNat cg3
def aL8 (a : aa2) (id : Int) (c : aa3) : aa2 := {a with Convs := a.Convs.set (aM0 a id).toNat c}
theorem bj8 {i : Nat} (h : i < a.Convs.length) (q : aM0 a id = (i : Int)) : cAt a id = a.Convs[i] := by
 unfold cAt
 rw [q, Int.toNat_natCast, List.getD_eq_getElem?_getD, List.getElem?_eq_getElem h]; rfl
def ct4 (a : aa2) (id : Int) (cnt : Int) : aa2 × Str × Int :=
 if ap0 (cAt a id) = true then (a, [], 53) else if (a90 (cAt a id)).2.2 = 0 then (if cnt < (List.length (a90 (cAt a id)).2.1 : Int) then (a, [], 3) else (aL8 a id (a90 (cAt a id)).1, (a90 (cAt a id)).2.1, 0)) else (a, [], (a90 (cAt a id)).2.2)
def bM7 (a : aa2) (id off cnt : Int) : aa2 × Str × Int :=
 if ah8 a id = true then (if id = 1 then (a, [], 10) else if off < 0 ∨ cnt < 0 then (a, [], 1) else if 0 ≤ aM0 a id then ct4 a id (min cnt 65536) else (a, cr0 (bw9 a id) off (min cnt 65536), 0)) else (a, [], 8)
theorem cD2 (v : Val a) {i : Nat} (hi : i < a.Convs.length) (q : aM0 a id = (i : Int)) (cnt : Int) : a19 a (i : Int) cnt = some (ct4 a id cnt) := by
 have hv := v.convAt hi
 have hk := (v.lim.conv _ (List.getElem_mem hi)).key
 unfold a19 ct4 aL8
 rw [bj8 hi q, q, Int.toNat_natCast, an9 v.lim, Option.bind_some, aa7 hi, Option.bind_some, bF3, Option.bind_some]
 cases hf : ap0 a.Convs[i] with
 | true => rfl
 | false =>
  have hr : ag5 a.Convs[i] = true := by
   rcases hv.2.2 with h | h
   ·rw [hf] at h; cases h
   ·exact h
  obtain ⟨_, _, hp, _, _, _, h0, h3⟩ := aL5 hr
  have hm := bF2 (a.Convs[i]).Proto
  simp only [Bool.false_eq_true, if_false, Option.bind_some, bS9 (b03 hk hr) hp h0 (by omega)]
  by_cases e : (a90 a.Convs[i]).2.2 = 0
  ·simp only [e, decide_true, Bool.not_true, Bool.false_eq_true, if_false, if_true]
   by_cases l : cnt < (List.length (a90 a.Convs[i]).2.1 : Int)
   ·simp only [l, decide_true, if_true]
   ·simp only [l, decide_false, Bool.false_eq_true, if_false]
  ·simp only [e, decide_false, Bool.not_false, if_true, if_false]
theorem bT8 (v : Val a) (w : -9223372036854775808 ≤ id ∧ id ≤ 9223372036854775807) (off cnt : Int) : ai2 a id off cnt = some (bM7 a id off cnt) := by
 rcases aL2 v id with q | ⟨i, hi, q, q2⟩
 ·rw [cr1 v w q]
  unfold cB5 bM7
  rw [q]
  simp only [show ¬ (0 : Int) ≤ -1 by omega, if_false]
 ·have h0 : (0 : Int) ≤ (i : Int) := by omega
  have he : ah8 a id = true := by unfold ah8; rw [q]; simp
  have n1 : ¬ id = 1 := by omega
  unfold ai2 bM7
  rw [an9 v.lim, Option.bind_some, aR1 v w, Option.bind_some, he, if_pos rfl, decide_eq_false n1, if_neg n1]
  by_cases h2 : off < 0 ∨ cnt < 0
  ·have : (decide (off < 0) || decide (cnt < 0)) = true := by simpa using h2
   simp [h2, this]
  ·have h2' : (decide (off < 0) || decide (cnt < 0)) = false := by
    rw [Bool.or_eq_false_iff, decide_eq_false_iff_not, decide_eq_false_iff_not]; omega
   simp only [h2, h2', Bool.not_true, Bool.false_eq_true, if_false, bt5 v w, Option.bind_some]
   rw [q]
   simp only [h0, decide_true, if_true, cD2 v hi q, Option.bind_some]
theorem ct5 (v : Val a) (id off cnt : Int) : Val (bM7 a id off cnt).1 := by
 unfold bM7
 split
 ·split
  ·exact v
  ·split
   ·exact v
   ·split
    ·rename_i hc
     unfold ct4
     rcases aL2 v id with q | ⟨i, hi, q, _⟩
     ·omega
     ·rw [bj8 hi q]
      have hv := v.convAt hi
      have hk := (v.lim.conv _ (List.getElem_mem hi)).key
      cases hf : ap0 a.Convs[i] with
      | true => exact v
      | false =>
       have hr : ag5 a.Convs[i] = true := by
        rcases hv.2.2 with h | h
        ·rw [hf] at h; cases h
        ·exact h
       simp only [Bool.false_eq_true, if_false]
       split
       ·split
        ·exact v
        ·unfold aL8
         rw [q, Int.toNat_natCast]
         exact v.put hi (bM2 _).1 (.inr (bT2 hr)) (by rw [(bM2 _).2]; exact hk)
       ·exact v
    ·exact v
 ·exact v
def bd9 : Str := [112, 114, 111, 116, 111]
def ct6 : Str := [114, 111, 108, 101]
def bx1 (l : List aa1) : Int := if aL1 ct6 l = aT9 then 1 else if aL1 ct6 l = aT8 then 2 else 0
def ch9 (l : List aa1) : List aa1 := (l.filter fun x => !decide (x.Name = bd9)).filter fun x => !decide (x.Name = ct6)
def a04 (a : aa2) (id : Int) (l : List aa1) : aa3 × Int := a62 (ak4 bd9 l).1 (bx1 l) (be2 (ch9 l) a.Keys).1 (bS8 a.Seed (Go.Lib.itoa a.Count))
def bM8 (a : aa2) (id : Int) (l : List aa1) : aa2 × Int :=
 if (ak4 bd9 l).2 = true then (if bx1 l = 0 then (a, 1) else if (be2 (ch9 l) a.Keys).2 = true then (if 9007199254740991 ≤ a.Count then (a, 22) else if (a04 a id l).2 = 0 then ({aL8 a id {(a04 a id l).1 with Id := (cAt a id).Id} with Count := a.Count + 1}, 0) else (a, (a04 a id l).2)) else (a, 52)) else (a, 53)
def bu9 : Str := [115, 116, 97, 114, 116]
def bA8 (a : aa2) (id : Int) (s : Str) : aa2 × Int :=
 if (bu9 ++ [32]).isPrefixOf s = true then (if (an6 (s.drop 6)).2.2 = 0 then bM8 a id (an6 (s.drop 6)).1 else (a, (an6 (s.drop 6)).2.2)) else (a, 53)
def bM9 (a : aa2) (id : Int) (s : Str) : aa2 × Int :=
 if (aF4 (cAt a id) s).2 = 0 ∨ (aF4 (cAt a id) s).2 = 28 then (aL8 a id (aF4 (cAt a id) s).1, (aF4 (cAt a id) s).2) else (a, (aF4 (cAt a id) s).2)
def ci0 (s : Str) (x : aa2 × Int) : aa2 × Int × Int := (x.1, if x.2 = 0 then (List.length s : Int) else 0, x.2)
def bv0 (a : aa2) (id : Int) (s : Str) : aa2 × Int × Int :=
 if ah8 a id = true then (if id = 1 then (a, 0, 10) else if id = 3 ∨ id = 4 then (a, 0, 11) else if id = 2 then ci0 s (bh2 a (aG9 s) a) else if ap0 (cAt a id) = true then ci0 s (bA8 a id s) else ci0 s (bM9 a id s)) else (a, 0, 8)
theorem cD3 {l : List aa1} (h : l.length ≤ 1000000) : (ch9 l).length ≤ 1000000 :=
 Nat.le_trans (List.length_filter_le _ _) (Nat.le_trans (List.length_filter_le _ _) h)
theorem cD4 {l : List aa1} (h : l.length ≤ 1000000) : a25 l = some (bx1 l, !decide (bx1 l = 0)) := by
 unfold a25 bx1 aL1 ct6 aT9 aT8
 rw [bg3 h, Option.bind_some]
 by_cases q1 : (ak4 [114, 111, 108, 101] l).1 = [99, 108, 105, 101, 110, 116]
 ·simp [q1]
 ·by_cases q2 : (ak4 [114, 111, 108, 101] l).1 = [115, 101, 114, 118, 101, 114]
  ·simp [q1, q2]
  ·simp [q1, q2]
theorem ci1 (v : Val a) {i : Nat} (hi : i < a.Convs.length) (q : aM0 a id = (i : Int)) {s : Str} (hs : s.length ≤ 2000) : aE6 a (i : Int) s = some (ci0 s (bA8 a id s)) := by
 have hb := v.base
 have hk := bm2 (s := s.drop 6) (by rw [List.length_drop]; omega)
 have hl := hk.le
 have hl1 : ((an6 (s.drop 6)).1.filter fun x => !decide (x.Name = [112, 114, 111, 116, 111])).length ≤ 1000000 := Nat.le_trans (List.length_filter_le _ _) hl
 unfold aE6 bA8
 rw [an9 v.lim, Option.bind_some]
 unfold strings_CutPrefix stringslite_CutPrefix
 rw [aZ6, Option.bind_some, show ([115, 116, 97, 114, 116, 32] : Str) = bu9 ++ [32] from rfl]
 by_cases hp : (bu9 ++ [32]).isPrefixOf s = true
 case neg =>
  rw [Bool.not_eq_true] at hp
  rw [hp]; rfl
 have hpl : 6 ≤ s.length := by
  have := (List.isPrefixOf_iff_prefix.1 hp).length_le
  simpa [bu9] using this
 have hcut : cut s (List.length (bu9 ++ [32]) : Int) (List.length s : Int) = some (s.drop 6) := az0 (a := 6) (by omega)
 rw [if_pos hp, hp, hcut]
 simp only [Bool.not_true, Bool.false_eq_true, if_false, Option.bind_some, bE5 (show (s.drop 6).length ≤ 1000000 by rw [List.length_drop]; omega)]
 by_cases he : (an6 (s.drop 6)).2.2 = 0
 case neg => simp only [he, decide_false, Bool.not_false, if_true, if_false, ci0]
 simp only [he, decide_true, Bool.not_true, Bool.false_eq_true, if_false, if_true, bg3 hl, Option.bind_some, cD4 hl, bA2 hl, bA2 hl1]
 generalize hP : (an6 (s.drop 6)).1 = l at hk hl hl1 ⊢
 have hpat : ((l.filter fun x => !decide (x.Name = [112, 114, 111, 116, 111])).filter fun x => !decide (x.Name = [114, 111, 108, 101])) = ch9 l := rfl
 rw [hpat, cw3 v.lim (cD3 hl), Option.bind_some]
 unfold bM8
 rw [show ak4 [112, 114, 111, 116, 111] l = ak4 bd9 l from rfl]
 cases hf : (ak4 bd9 l).2 with
 | false => rfl
 | true =>
  simp only [Bool.not_true, Bool.false_eq_true, if_false, if_true, Bool.not_not]
  by_cases hr : bx1 l = 0
  ·simp only [hr, decide_true, if_true, ci0]; rfl
  ·simp only [hr, decide_false, Bool.false_eq_true, if_false]
   cases hkk : (be2 (ch9 l) a.Keys).2 with
   | false => rfl
   | true =>
    have hsh : Sh (be2 (ch9 l) a.Keys).1 := v.lim.key _ (bF4 hkk)
    simp only [Bool.not_true, Bool.false_eq_true, if_false, if_true]
    by_cases hc : 9007199254740991 ≤ a.Count
    ·simp only [hc, decide_true, if_true, ci0]; rfl
    ·have hit : (Go.Lib.itoa a.Count).length ≤ 1000000 := Nat.le_trans (Go.Lib.itoa_length_le _ (by omega) (by omega)) (by omega)
     simp only [hc, decide_false, Bool.false_eq_true, if_false, bs7 (show -9223372036854775808 ≤ a.Count by omega) (show a.Count ≤ 9223372036854775807 by omega), Option.bind_some, cw9 (show a.Seed.length ≤ 100000000000 by omega) (show (Go.Lib.itoa a.Count).length ≤ 100000000000 by omega), cs3 hsh]
     rw [show a62 (ak4 bd9 l).1 (bx1 l) (be2 (ch9 l) a.Keys).1 (bS8 a.Seed (Go.Lib.itoa a.Count)) = a04 a id l from rfl]
     by_cases hz : (a04 a id l).2 = 0
     ·have hw : IntKind.wrap .i64 (a.Count + 1) = a.Count + 1 := af5 (by omega) (by omega)
      simp only [hz, decide_true, Bool.not_true, Bool.false_eq_true, if_false, if_true, aa7 hi, Option.bind_some, hw, aL8, bj8 hi q, q, Int.toNat_natCast, ci0]
     ·simp only [hz, decide_false, Bool.not_false, if_true, if_false, ci0]
theorem b70 (c : aa3) (s : Str) : (aF4 c s).2 = 0 ∨ (aF4 c s).2 = 28 ∨ (aF4 c s).2 = 53 := by
 unfold aF4
 split
 ·split
  ·exact .inr (.inl rfl)
  ·unfold bM1
   split
   ·exact .inl rfl
   ·exact .inr (.inl rfl)
 ·exact .inr (.inr rfl)
theorem ci2 (v : Val a) {i : Nat} (hi : i < a.Convs.length) (hf : ap0 a.Convs[i] = false) : ag5 a.Convs[i] = true ∧ Tl a.Convs[i] := by
 have hk := (v.lim.conv _ (List.getElem_mem hi)).key
 have hr : ag5 a.Convs[i] = true := by
  rcases (v.convAt hi).2.2 with h | h
  ·rw [hf] at h; cases h
  ·exact h
 exact ⟨hr, b03 hk hr⟩
theorem ct7 (v : Val a) {i : Nat} (hi : i < a.Convs.length) (q : aM0 a id = (i : Int)) (hf : ap0 a.Convs[i] = false) {s : Str} (hs : s.length ≤ 2000) : aC0 a (i : Int) s = some (ci0 s (bM9 a id s)) := by
 obtain ⟨hr, ht⟩ := ci2 v hi hf
 unfold aC0 bM9
 rw [an9 v.lim, Option.bind_some, aa7 hi, Option.bind_some, bM3 ht hr s (by omega), Option.bind_some, bj8 hi q]
 unfold aD6 ci0 aL8
 rw [q, Int.toNat_natCast, Option.bind_some]
 rcases b70 a.Convs[i] s with e | e | e <;> simp [e]
theorem bv1 (v : Val a) (he : ah8 a id = true) (h : ¬ (1 ≤ id ∧ id ≤ 4)) : ∃ i, ∃ hi : i < a.Convs.length, aM0 a id = (i : Int) := by
 rcases aL2 v id with q | ⟨i, hi, q, _⟩
 ·unfold ah8 at he
  rw [q] at he
  simp only [Bool.or_eq_true, Bool.and_eq_true, decide_eq_true_eq] at he
  omega
 ·exact ⟨i, hi, q⟩
theorem ct8 (v : Val a) (w : -9223372036854775808 ≤ id ∧ id ≤ 9223372036854775807) {s : Str} (hs : s.length ≤ 2000) : an1 a id s = some (bv0 a id s) := by
 unfold an1 bv0
 rw [bt5 v w, Option.bind_some, aR1 v w, Option.bind_some]
 cases he : ah8 a id with
 | false => simp only [Bool.not_false, if_true, an9 v.lim, Option.bind_some, Bool.false_eq_true, if_false]
 | true =>
  simp only [Bool.not_true, Bool.false_eq_true, if_false, if_true]
  by_cases h1 : id = 1
  ·simp only [h1, decide_true, if_true, an9 v.lim, Option.bind_some]
  by_cases h34 : id = 3 ∨ id = 4
  ·have e : (decide (id = 3) || decide (id = 4)) = true := by simpa using h34
   simp only [h1, h34, e, decide_false, Bool.false_eq_true, if_false, if_true, an9 v.lim, Option.bind_some]
  have e : (decide (id = 3) || decide (id = 4)) = false := by
   rw [Bool.or_eq_false_iff, decide_eq_false_iff_not, decide_eq_false_iff_not]; omega
  by_cases h2 : id = 2
  ·simp only [h1, h34, e, decide_false, Bool.false_eq_true, if_false]
   rw [decide_eq_true h2, if_pos rfl, if_pos h2, bT7 v hs]; rfl
  ·obtain ⟨i, hi, q⟩ := bv1 v he (by omega)
   simp only [h1, h34, h2, e, decide_false, Bool.false_eq_true, if_false]
   rw [q, aa7 hi, Option.bind_some, bF3, Option.bind_some, bj8 hi q]
   cases hf : ap0 a.Convs[i] with
   | true => rw [if_pos rfl, if_pos rfl, ci1 (id := id) v hi q hs]; rfl
   | false => rw [if_neg (by simp), if_neg (by simp), ct7 (id := id) v hi q hf hs]; rfl
theorem ci3 (v : Val a) {i : Nat} (hi : i < a.Convs.length) (q : aM0 a id = (i : Int)) (s : Str) : Val (bA8 a id s).1 := by
 have hb := v.base
 unfold bA8
 split
 ·split
  ·unfold bM8
   generalize (an6 (s.drop 6)).1 = l
   split
   ·split
    ·exact v
    ·split
     ·rename_i hkk
      split
      ·exact v
      ·split
       ·rename_i hz
        have hcv := v.conv (List.getElem_mem hi)
        have hsh : Sh (be2 (ch9 l) a.Keys).1 := v.lim.key _ (bF4 hkk)
        have hz' := hz
        unfold a04 at hz'
        obtain ⟨r1, r2⟩ := bT3 (id := (a.Convs[i]).Id) hz' (by omega) (by omega)
        have hp : Val {a with Convs := a.Convs.set i {(a04 a id l).1 with Id := (a.Convs[i]).Id}} := v.put hi rfl (.inr r1) (by
         show Sh (a04 a id l).1.Key
         unfold a04
         rw [r2]; exact hsh)
        have := hp.count (by show a.Count < 9007199254740991; omega)
        unfold aL8
        rw [q, bj8 hi q, Int.toNat_natCast]
        exact this
       ·exact v
     ·exact v
   ·exact v
  ·exact v
 ·exact v
theorem ci4 (v : Val a) {i : Nat} (hi : i < a.Convs.length) (q : aM0 a id = (i : Int)) (hf : ap0 a.Convs[i] = false) (s : Str) : Val (bM9 a id s).1 := by
 obtain ⟨hr, ht⟩ := ci2 v hi hf
 have hk := (v.lim.conv _ (List.getElem_mem hi)).key
 unfold bM9 aL8
 rw [q, bj8 hi q, Int.toNat_natCast]
 split
 ·exact v.put hi (bA7 s).1 (.inr (bT1 hr s)) (by rw [(bA7 s).2]; exact hk)
 ·exact v
theorem ci5 (v : Val a) (id : Int) {s : Str} (hs : s.length ≤ 2000) : Val (bv0 a id s).1 := by
 unfold bv0
 cases he : ah8 a id with
 | false => exact v
 | true =>
  simp only [if_true]
  by_cases h1 : id = 1
  ·rw [if_pos h1]; exact v
  rw [if_neg h1]
  by_cases h34 : id = 3 ∨ id = 4
  ·rw [if_pos h34]; exact v
  rw [if_neg h34]
  by_cases h2 : id = 2
  ·rw [if_pos h2]
   exact bG1 v v fun x hx => by
    have := a38 (sep := 10) s [] x hx
    simp at this; omega
  ·rw [if_neg h2]
   obtain ⟨i, hi, q⟩ := bv1 v he (by omega)
   rw [bj8 hi q]
   cases hf : ap0 a.Convs[i] with
   | true => exact ci3 v hi q s
   | false => exact ci4 v hi q hf s
variable {a : aa2}
theorem ci6 {p : Str} {r : Int} {k : List aa1} {n : Str} (h1 : ah7 p = true) (h2 : r = 1 ∨ r = 2) (h3 : n.length = 32) (h4 : a87 k = 0) (h5 : bg6 k = true) : a62 p r k n = (bw7 (bu1 p r k n), 0) := by
 unfold a62
 rw [if_neg (by rw [h1]; simp), if_pos ⟨h2, by omega⟩, if_pos h4, if_pos h5]
theorem ct9 {id : Int} {l k : List aa1} {p : Str} {r : Int} (h1 : ak4 bd9 l = (p, true)) (h2 : bx1 l = r) (hr : r = 1 ∨ r = 2) (h3 : be2 (ch9 l) a.Keys = (k, true)) (hc : a.Count < 9007199254740991) (hp : ah7 p = true) (h4 : a87 k = 0) (h5 : bg6 k = true) :
  bM8 a id l = ({aL8 a id {bw7 (bu1 p r k (bS8 a.Seed (Go.Lib.itoa a.Count))) with Id := (cAt a id).Id} with Count := a.Count + 1}, 0) := by
 have hb : a04 a id l = (bw7 (bu1 p r k (bS8 a.Seed (Go.Lib.itoa a.Count))), 0) := by
  unfold a04
  rw [h1, h2, h3]
  exact ci6 hp hr (bF7 _ _) h4 h5
 unfold bM8
 rw [h1, if_pos rfl, h2, if_neg (by omega), h3, if_pos rfl, if_neg (by omega), hb, if_pos rfl]
theorem bT9 {id : Int} {s : Str} {l k : List aa1} {p : Str} {r : Int} (e0 : ah8 a id = true) (e1 : 17 ≤ id) (e2 : ap0 (cAt a id) = true) (e3 : (bu9 ++ [32]).isPrefixOf s = true) (e4 : an6 (s.drop 6) = (l, 0, 0)) (h1 : ak4 bd9 l = (p, true)) (h2 : bx1 l = r) (hr : r = 1 ∨ r = 2) (h3 : be2 (ch9 l) a.Keys = (k, true)) (hc : a.Count < 9007199254740991) (hp : ah7 p = true) (h4 : a87 k = 0) (h5 : bg6 k = true) :
  bv0 a id s = ({aL8 a id {bw7 (bu1 p r k (bS8 a.Seed (Go.Lib.itoa a.Count))) with Id := (cAt a id).Id} with Count := a.Count + 1}, (List.length s : Int), 0) := by
 unfold bv0
 rw [e0, if_pos rfl, if_neg (by omega), if_neg (by omega), if_neg (by omega), e2, if_pos rfl]
 unfold bA8
 rw [if_pos e3, e4, if_pos rfl, ct9 h1 h2 hr h3 hc hp h4 h5]
 rfl
theorem cD5 {o s : Str} {b : aa2} (h : ak0 o s = some (b, 0)) (hs : s.length ≤ 2000) : Val b ∧ b = ⟨o, s, [], 1, [], 0⟩ := by
 unfold ak0 at h
 by_cases q : decide (o = []) || decide (32 < (List.length o : Int))
 ·rw [if_pos q] at h; cases h
 ·rw [if_neg q] at h
  by_cases q2 : decide (1024 < (List.length s : Int))
  ·rw [if_pos q2] at h; cases h
  ·rw [if_neg q2] at h
   have hb : b = ⟨o, s, [], 1, [], 0⟩ := by
    have := Option.some.inj h
    exact (Prod.mk.inj this).1.symm
   subst hb
   simp only [Bool.or_eq_true, decide_eq_true_eq, not_or] at q q2
   refine ⟨⟨⟨by simp only; omega, hs, by simp, by simp, by simp, by simp⟩, aL6.2 ⟨?_, by simp, by simp, ⟨by simp, by simp⟩, ⟨by simp, by simp⟩⟩⟩, rfl⟩
   unfold bw8
   simp only [Bool.not_eq_true', Bool.or_eq_false_iff, decide_eq_false_iff_not]
   exact ⟨q.1, q.2, by omega, by omega, by omega, by omega, by omega⟩
def k1 : List aa1 := [⟨[117, 115, 101, 114], [97, 110, 110], false⟩, ⟨[33, 115, 101, 99, 114, 101, 116], [97], false⟩, ⟨[100, 111, 109], [120], false⟩]
def sN : Str := bS8 [115] (Go.Lib.itoa 0)
def a0 : aa2 := ⟨[97, 100, 109], [115], [], 1, [], 0⟩
def a1 : aa2 := ⟨[97, 100, 109], [115], [k1], 1, [], 0⟩
def a2 : aa2 := ⟨[97, 100, 109], [115], [k1], 2, [⟨1, [], 0, 0, 0, [], [], [], [], 0⟩], 0⟩
def a3 (n : Str) : aa2 := ⟨[97, 100, 109], [115], [k1], 2, [⟨1, [112, 108, 97, 105, 110], 1, 1, 0, k1, n, [], [], 0⟩], 1⟩
def a4 (n : Str) : aa2 := ⟨[97, 100, 109], [115], [k1], 2, [⟨1, [112, 108, 97, 105, 110], 1, 2, 1, k1, n, [], [], 0⟩], 1⟩
def a5 (n : Str) : aa2 := ⟨[97, 100, 109], [115], [], 2, [⟨1, [112, 108, 97, 105, 110], 1, 2, 1, k1, n, [], [], 0⟩], 1⟩
def a6 : aa2 := ⟨[97, 100, 109], [115], [], 2, [], 1⟩
def cu0 : Str := [107, 101, 121, 32, 117, 115, 101, 114, 61, 97, 110, 110, 32, 33, 115, 101, 99, 114, 101, 116, 61, 97, 32, 100, 111, 109, 61, 120]
def cD6 : Str := [107, 101, 121, 32, 117, 115, 101, 114, 61, 97, 110, 110]
def lnNo : Str := [107, 101, 121, 115]
def bh3 : Str := [115, 116, 97, 114, 116, 32, 112, 114, 111, 116, 111, 61, 112, 108, 97, 105, 110, 32, 114, 111, 108, 101, 61, 99, 108, 105, 101, 110, 116, 32, 117, 115, 101, 114, 61, 97, 110, 110]
def cu1 : Str := [100, 101, 108, 107, 101, 121, 32, 117, 115, 101, 114, 61, 97, 110, 110]
theorem al1 : b66 a0 cu0 = (a1, 0) := by kernel_rfl
theorem al2 : b66 a1 cD6 = (a1, 52) := by kernel_rfl
theorem al3 : b66 a1 lnNo = (a1, 54) := by kernel_rfl
theorem al4 : bM7 a1 2 0 100 = (a1, [107, 101, 121, 32, 117, 115, 101, 114, 61, 97, 110, 110, 32, 100, 111, 109, 61, 120, 10], 0) := by kernel_rfl
theorem al5 : b69 a1 [97, 100, 109] 4 2 = (a2, 17, 0) := by kernel_rfl
theorem al6 : b69 a2 [98, 111, 98] 4 2 = (a2, 0, 11) := by kernel_rfl
theorem al7 : bM7 a2 17 0 100 = (a2, [], 53) := by kernel_rfl
def lS : List aa1 := [⟨[112, 114, 111, 116, 111], [112, 108, 97, 105, 110], false⟩, ⟨[114, 111, 108, 101], [99, 108, 105, 101, 110, 116], false⟩, ⟨[117, 115, 101, 114], [97, 110, 110], false⟩]
theorem al8n (n : Str) : (({aL8 a2 17 {bw7 (bu1 [112, 108, 97, 105, 110] 1 k1 n) with Id := (cAt a2 17).Id} with Count := a2.Count + 1} : aa2), (List.length bh3 : Int), (0 : Int)) = (a3 n, 38, 0) := by kernel_rfl
theorem al8 : bv0 a2 17 bh3 = (a3 sN, 38, 0) := by
 have h := bT9 (a := a2) (id := 17) (s := bh3) (l := lS) (k := k1) (p := [112, 108, 97, 105, 110]) (r := 1) (by kernel_rfl) (by omega) (by kernel_rfl) (by kernel_rfl) (by kernel_rfl) (by kernel_rfl) (by kernel_rfl) (.inl rfl) (by kernel_rfl) (by decide) (by kernel_rfl) (by kernel_rfl) (by kernel_rfl)
 rw [h]
 exact al8n _
theorem al9 (n : Str) : bM7 (a3 n) 17 0 100 = (a4 n, [3, 0, 97, 110, 110, 1, 0, 97], 0) := by kernel_rfl
theorem al10 (n : Str) : b66 (a4 n) cu1 = (a5 n, 0) := by kernel_rfl
theorem al11 (n : Str) : bM6 (a5 n) 17 = a6 := by kernel_rfl
theorem cx1 : ak0 [97, 100, 109] [115] = some (a0, 0) := by kernel_rfl
theorem aI7 : ae9 = some true := by
 have w17 : (-9223372036854775808 : Int) ≤ 17 ∧ (17 : Int) ≤ 9223372036854775807 := by omega
 have w2 : (-9223372036854775808 : Int) ≤ 2 ∧ (2 : Int) ≤ 9223372036854775807 := by omega
 have w4 : (-9223372036854775808 : Int) ≤ 4 ∧ (4 : Int) ≤ 9223372036854775807 := by omega
 have v0 : Val a0 := (cD5 cx1 (by decide)).1
 have v1 : Val a1 := by have := bG0 v0 (l := cu0) (by decide); rwa [al1] at this
 have v2 : Val a2 := by have := ct3 v1 [97, 100, 109] 4 2; rwa [al5] at this
 have v3 : Val (a3 sN) := by have := ci5 v2 17 (s := bh3) (by decide); rwa [al8] at this
 have v4 : Val (a4 sN) := by have := ct5 v3 17 0 100; rwa [al9] at this
 have v5 : Val (a5 sN) := by have := bG0 v4 (l := cu1) (by decide); rwa [al10] at this
 have v6 : Val a6 := by have := ch5 v5 17; rwa [al11] at this
 have c1 := aR2 v0.lim (l := cu0) (by decide)
 have c2 := aR2 v1.lim (l := cD6) (by decide)
 have c3 := aR2 v1.lim (l := lnNo) (by decide)
 have c4 := bT8 v1 w2 0 100
 have c5 := ch8 v1 w4 w2 [97, 100, 109]
 have c6 := ch8 v2 w4 w2 [98, 111, 98]
 have c7 := bT8 v2 w17 0 100
 have c8 := ct8 v2 w17 (s := bh3) (by decide)
 have c9 := bT8 v3 w17 0 100
 have c10 := aR2 v4.lim (l := cu1) (by decide)
 have c11 := ct0 v5 w17 0
 have c12 := bZ6 v6.lim
 rw [v6.ok] at c12
 rw [al1] at c1
 rw [al2] at c2
 rw [al3] at c3
 rw [al4] at c4
 rw [al5] at c5
 rw [al6] at c6
 rw [al7] at c7
 rw [al8] at c8
 rw [al9] at c9
 rw [al10] at c10
 rw [al11] at c11
 unfold cu0 at c1
 unfold cD6 at c2
 unfold lnNo at c3
 unfold bh3 at c8
 unfold cu1 at c10
 have n1 : (a5 sN).Keys = [] := rfl
 have n2 : a6.Convs = [] := rfl
 have n3 : (a3 sN).Count = 1 := rfl
 unfold ae9
 simp [cx1, c1, c2, c3, c4, c5, c6, c7, c8, c9, c10, c11, c12, n1, n2, n3]
end Go.Proofs.YtiliognepodhnaaGreatDoor
