import Derived.Test.YtchaaedlfibdoaaGreatDoorVmRun
open Bool (not_eq_true' or_eq_true)
open List (all_eq_true mem_range)
open Nat (le_of_lt le_refl lt_of_lt_of_le)
open Option (getD_some isSome_iff_exists map_some)
namespace Go.Vm
open Go.RowKit (Below)
def a99 [Mode] (P : Program) (N : Nat) (ops : Array Oper) (af5 : List VOper) : Prop :=
 ops.size = af5.length ∧ ∀ (i : Nat) (o : Oper) (vo : VOper), ops[i]? = some o → af5[i]? = some vo → bJ5 P ops o vo ∧ ∀ d, vo.dst = some d → d < N
theorem bv7 {get get' : Nat → Option HV} {vo : VOper} (h : ∀ s ∈ vo.tmps, get s = get' s) : gOk get vo.guard = gOk get' vo.guard := by
 unfold VOper.tmps at h
 cases hg : vo.guard with
 | none => rfl
 | some p =>
  obtain ⟨t, want⟩ := p
  rw [hg] at h
  simp only [gOk]
  rw [h t (by simp)]
theorem EvOK.congr [Mode] {P : Program} {vo : VOper} {id0 : Nat} {get get' : Nat → Option HV} {row row' : ad1} {h : HV} {upd : Upd} (hg : ∀ s ∈ vo.tmps, get s = get' s) (hr : ∀ id, id ∈ vo.reads get ∨ id ∈ upd.map (·.1) → row id = row' id)
  (hnB : af6 vo.op = false) (he : EvOK P vo id0 get row h upd) : EvOK P vo id0 get' row' h upd := by
 unfold EvOK at he ⊢
 unfold VOper.reads at hr
 rw [← bv7 hg]
 cases hgk : gOk get vo.guard with
 | none => rw [hgk] at he; exact he
 | some b =>
  rw [hgk] at he hr
  cases b with
  | false => exact he
  | true => exact OpEv.congr (fun s hs => hg s (by simp [VOper.tmps, hs])) hr hnB he
theorem bv8 [Mode] {P : Program} {kk : Option (List Nat)} {x k : VA} {id0 : Nat} {get : Nat → Option HV} {row : ad1} {h : HV} {upd : Upd} (he : OpEv P (.mapGet kk x k) id0 get row h upd) : aa5 (.mapGet kk x k) id0 get row = some (h, upd) := by
 rcases he with he | ⟨sh, es, tk, len, he, _⟩ | ⟨x, he, _⟩ | ⟨sh, x, v, he, _⟩ | ⟨sh, n, x, y, he, _⟩ | ⟨sh, x, lo, hi, he, _⟩ | ⟨_, _, _, h0, qs, he, _, _, _, h5⟩
 ·exact he
 ·obtain ⟨_, p, hp⟩ := aR0 (show aa5 (.mapGet kk x k) id0 get row = some _ from he)
  cases hp
 ·cases he
 ·cases he
 ·cases he
 ·cases he
 ·obtain ⟨_, p, rfl⟩ := aR0 he
  rcases h5 with ⟨cs, h5, _⟩ | ⟨a, b, c, h5, _⟩ <;> cases h5
theorem cb2 [Mode] {P : Program} {kk : Option (List Nat)} {x k : VA} {id0 : Nat} {get : Nat → Option HV} {row : ad1} {h : HV} {upd : Upd} (he : OpEv P (.mapEnt kk x k) id0 get row h upd) : aa5 (.mapEnt kk x k) id0 get row = some (h, upd) := by
 rcases he with he | ⟨sh, es, tk, len, he, _⟩ | ⟨x, he, _⟩ | ⟨sh, x, v, he, _⟩ | ⟨sh, n, x, y, he, _⟩ | ⟨sh, x, lo, hi, he, _⟩ | ⟨_, _, _, h0, qs, he, _, _, _, h5⟩
 ·exact he
 ·obtain ⟨p, hp⟩ := bl7 (show aa5 (.mapEnt kk x k) id0 get row = some _ from he)
  cases hp
 ·cases he
 ·cases he
 ·cases he
 ·cases he
 ·obtain ⟨p, rfl⟩ := bl7 he
  rcases h5 with ⟨cs, h5, _⟩ | ⟨a, b, c, h5, _⟩ <;> cases h5
theorem EvOK.quiet [Mode] {P : Program} {vo : VOper} {kk : Option (List Nat)} {x k : VA} {id0 : Nat} {get : Nat → Option HV} {row : ad1} {h : HV} {upd : Upd} (hop : vo.op = .mapGet kk x k) (he : EvOK P vo id0 get row h upd) : upd = [] := by
 unfold EvOK at he
 split at he
 ·rw [hop] at he
  exact (aR0 (bv8 he)).1
 ·exact he.2
 ·exact he.elim
theorem EvOK.lookAt [Mode] {P : Program} {vo : VOper} {kk : Option (List Nat)} {x k : VA} {id0 : Nat} {get get' : Nat → Option HV} {row row' : ad1} {h : HV} {upd : Upd} (hop : vo.op = .mapGet kk x k) (hg : ∀ s ∈ vo.tmps, get s = get' s)
  (hr : ∀ id ∈ vo.reads get, RowEqv kk (row id) (row' id)) (he : EvOK P vo id0 get row h upd) : EvOK P vo id0 get' row' h upd := by
 unfold EvOK at he ⊢
 unfold VOper.reads at hr
 rw [← bv7 hg]
 cases hgk : gOk get vo.guard with
 | none => rw [hgk] at he; exact he
 | some b =>
  rw [hgk] at he hr
  cases b with
  | false => exact he
  | true =>
   simp only at he hr ⊢
   rw [hop] at he hr ⊢
   have h1 := bv8 he
   have h2 := bP6 h1 (fun id hid => hr id hid)
   have h3 : aa5 (.mapGet kk x k) id0 get row' = aa5 (.mapGet kk x k) id0 get' row' := aG5 fun s hs => hg s (by simp [VOper.tmps, hop, hs])
   rw [h3] at h2
   exact .inl h2
theorem EvOK.ent [Mode] {P : Program} {vo : VOper} {kk : Option (List Nat)} {x k : VA} {id0 : Nat} {get : Nat → Option HV} {row : ad1} {h : HV} {upd : Upd} (hop : vo.op = .mapEnt kk x k) (he : EvOK P vo id0 get row h upd) {id : Nat} {r : Option Row} (hl : look upd id = some r) : RowEqv kk (row id) r := by
 unfold EvOK at he
 split at he
 ·rw [hop] at he
  exact bP7 (cb2 he) hl
 ·rw [he.2] at hl; cases hl
 ·exact he.elim
theorem cb3 {kk : Option (List Nat)} {hp : List (Nat × Option Row)} {evs : List (HV × Upd)} {D : Nat → Bool} {n i id : Nat} (hi : i ≤ n)
  (hord : ∀ j, j < n → ((evs[j]?).bind fun e => look e.2 id).isSome = true → (D j = true ↔ j < i) ∨ RowEqv kk (ar6 hp evs (fun _ => true) j id) (ar6 hp evs (fun _ => true) (j + 1) id))
  (hseg : ∀ j k, j < k → k < n → ((evs[j]?).bind fun e => look e.2 id).isSome = true → ((evs[k]?).bind fun e => look e.2 id).isSome = true → D k = true → D j = true) :
  RowEqv kk (ar6 hp evs (fun _ => true) i id) (ar6 hp evs D n id) := by
 have cut : ∀ m, m ≤ n → ∃ c, c ≤ m ∧ ∀ j, j < m → ((evs[j]?).bind fun e => look e.2 id).isSome = true → (D j = true ↔ j < c) := by
  intro m
  induction m with
  | zero => exact fun _ => ⟨0, le_refl _, fun j hj => by omega⟩
  | succ m ih =>
   intro hm
   obtain ⟨c, hc, h1⟩ := ih (by omega)
   by_cases hf : ((evs[m]?).bind fun e => look e.2 id).isSome = true
   ·cases hD : D m with
    | true =>
     refine ⟨m + 1, le_refl _, fun j hj hs => ⟨fun _ => hj, fun _ => ?_⟩⟩
     by_cases hjm : j = m
     ·subst hjm; exact hD
     ·exact hseg j m (by omega) (by omega) hs hf hD
    | false =>
     refine ⟨c, by omega, fun j hj hs => ?_⟩
     by_cases hjm : j = m
     ·subst hjm; rw [hD]; simp; omega
     ·exact h1 j (by omega) hs
   ·refine ⟨c, by omega, fun j hj hs => ?_⟩
    by_cases hjm : j = m
    ·subst hjm; exact absurd hs hf
    ·exact h1 j (by omega) hs
 obtain ⟨c, hc, h1⟩ := cut n (le_refl _)
 have e1 : ar6 hp evs D n id = ar6 hp evs (fun _ => true) c id := by
  simp only [ar6]
  rw [← aG6 c hc, af1 (D' := fun j => decide (j < c)) (n := n)]
  intro j hj hs
  have := h1 j hj hs
  cases hD : D j with
  | true => simp [this.1 hD]
  | false =>
   have : ¬ j < c := fun h => by have := this.2 h; rw [hD] at this; cases this
   simp [this]
 rw [e1]
 have walk : ∀ b a, a ≤ b → b ≤ n → (∀ j, a ≤ j → j < b → ((evs[j]?).bind fun e => look e.2 id).isSome = true → RowEqv kk (ar6 hp evs (fun _ => true) j id) (ar6 hp evs (fun _ => true) (j + 1) id)) →
   RowEqv kk (ar6 hp evs (fun _ => true) a id) (ar6 hp evs (fun _ => true) b id) := by
  intro b
  induction b with
  | zero =>
   intro a ha _ _
   have e : a = 0 := by omega
   subst e
   exact .refl _ _
  | succ b ih =>
   intro a ha hb hj
   by_cases hab : a = b + 1
   ·subst hab; exact .refl _ _
   ·refine (ih a (by omega) (by omega) fun j q1 q2 => hj j q1 (by omega)).trans ?_
    by_cases hs : ((evs[b]?).bind fun e => look e.2 id).isSome = true
    ·exact hj b (by omega) (by omega) hs
    ·refine .inl ?_
     simp only [ar6, lastIn, if_true]
     have : ((evs[b]?).bind fun e => look e.2 id) = none := by
      cases hx : ((evs[b]?).bind fun e => look e.2 id) with
      | none => rfl
      | some _ => rw [hx] at hs; exact absurd rfl hs
     rw [this]
 by_cases hci : c ≤ i
 ·refine (walk i c hci hi fun j q1 q2 hs => ?_).symm
  rcases hord j (by omega) hs with h | h
  ·have := (h1 j (by omega) hs).1 (h.2 q2)
   omega
  ·exact h
 ·refine walk c i (by omega) hc fun j q1 q2 hs => ?_
  rcases hord j (by omega) hs with h | h
  ·have := h.1 ((h1 j (by omega) hs).2 q2)
   omega
  ·exact h
section
variable [Mode] {P : Program} {w0 : Base} {I0 : Prot} {N : Nat} {ops : Array Oper} {af5 : List VOper} {Q : Exit → Act → World → Prop} {base : Nat}
theorem bQ1 (hP : w0.P = P) (hops : a99 P N ops af5) : ∀ {i : Nat} {rest : List VOper} {tm tm' : List (Nat × HV)} {hp hp' : List (Nat × Option Row)} {evs : List (HV × Upd)} {log : List (List Nat × List Nat)},
  Runs P base i rest tm hp evs tm' hp' log → (∀ k, rest[k]? = af5[i + k]?) → i + rest.length = af5.length → ∀ {a : Act} {w : World} {I : Prot} {ρ : Nat → Option Loc}, RepA w0 I0 (look tm) (ae3 hp) a w I ρ → (N ≤ a.tmps.size ∧ N ≤ 1000000) →
  (∀ k, base + 4 * i ≤ k → ρ k = none) →
  (∀ a' w' I' ρ', RepA w0 I0 (look tm') (ae3 hp') a' w' I' ρ' → a'.tmps.size = a.tmps.size → (∀ k, base + 4 * af5.length ≤ k → ρ' k = none) → Q .normal a' w') → wpOps P ops Q (List.range' i rest.length) a w := by
 intro i rest tm tm' hp hp' evs log hr
 induction hr with
 | nil i tm hp =>
  intro hk hl a w I ρ hrep hN hfree hQ
  exact hQ a w I ρ hrep rfl fun k hk => hfree k (by simp at hl; omega)
 | @cons i vo rest tm tm' hp hp' h upd evs log hev r ih =>
  intro hk hl a w I ρ hrep hN hfree hQ
  have hvo : af5[i]? = some vo := by have := hk 0; simpa using this.symm
  have hi : i < ops.size := by rw [hops.1]; simp at hl; omega
  have ho : ops[i]? = some ops[i] := Array.getElem?_eq_getElem hi
  obtain ⟨hm, hd⟩ := hops.2 i _ vo ho hvo
  rw [List.length_cons, List.range'_succ, wpOps_cons]
  refine bm0 hP ho hm hrep hev (fun k h1 _ => hfree k h1) (fun d hd' => ⟨lt_of_lt_of_le (hd d hd') hN.1, lt_of_lt_of_le (hd d hd') hN.2⟩) fun a' w' I' ρ' hrep' hsz hdom => ?_
  rw [← bv6, ← am6] at hrep'
  refine ih (fun k => by have := hk (k + 1); rw [show i + 1 + k = i + (k + 1) by omega, ← this]; simp) (by simp at hl; omega) hrep' (by omega) (fun k hk' => ?_) (fun a2 w2 I2 ρ2 h1 h2 h3 => hQ a2 w2 I2 ρ2 h1 (by omega) h3)
  by_cases hk2 : base + 4 * i ≤ k
  ·exact hdom k (hfree k hk2) (by omega)
  ·omega
omit [Mode] in
theorem a06 {α : Type} {u : List (Nat × α)} {k : Nat} {x : α} (h : look u k = some x) : k ∈ u.map (·.1) := by
 induction u with
 | nil => simp [look] at h
 | cons p u ihu =>
  simp only [look] at h
  split at h
  ·rename_i hk; simp [hk]
  ·simp only [List.map_cons, List.mem_cons]; exact .inr (ihu h)
def undone (D : Nat → Bool) : Nat → Nat
 | 0 => 0
 | n + 1 => (if D n then 0 else 1) + undone D n
omit [Mode] in
theorem aG7 {D : Nat → Bool} : ∀ {n : Nat}, undone D n = 0 → ∀ j, j < n → D j = true
 | n + 1, h, j, hj => by
  simp only [undone] at h
  by_cases hjn : j = n
  ·subst hjn
   cases hd : D j with
   | true => rfl
   | false => simp [hd] at h
  ·exact aG7 (n := n) (by omega) j (by omega)
omit [Mode] in
theorem aI8 {D D' : Nat → Bool} : ∀ {n : Nat}, (∀ j, j < n → D j = D' j) → undone D n = undone D' n
 | 0, _ => rfl
 | n + 1, h => by simp only [undone]; rw [h n (by omega), aI8 fun j hj => h j (by omega)]
omit [Mode] in
theorem ax9 {D : Nat → Bool} {i : Nat} (hD : D i = false) : ∀ {n : Nat}, i < n → undone (fun j => D j || decide (j = i)) n + 1 = undone D n
 | 0, h => by omega
 | n + 1, h => by
  simp only [undone]
  by_cases hi : i = n
  ·subst hi
   have : undone (fun j => D j || decide (j = i)) i = undone D i := aI8 fun j hj => by
    have : ¬ j = i := by omega
    simp [this]
   rw [this]; simp [hD]; omega
  ·have hni : ¬ n = i := fun e => hi e.symm
   have := ax9 hD (n := n) (by omega)
   simp only [hni, decide_false, Bool.or_false]
   omega
theorem bZ8 (hP : w0.P = P) (hnB : ∀ (i : Nat) (vo : VOper), af5[i]? = some vo → af6 vo.op = false) (hops : a99 P N ops af5) (hb : bZ7 ops af5 = true) (ht : bZ5 af5 = true) {tm tm' : List (Nat × HV)} {hp hp' : List (Nat × Option Row)} {evs : List (HV × Upd)} {log : List (List Nat × List Nat)}
  (hr : Runs P base 0 af5 tm hp evs tm' hp' log) (hl : bZ6 af5 log = true)
  (hQ : ∀ a' w' I' ρ', RepA w0 I0 (look tm') (ae3 hp') a' w' I' ρ' → (N ≤ a'.tmps.size ∧ N ≤ 1000000) → (∀ k, base + 4 * af5.length ≤ k → ρ' k = none) → ∀ n0, a'.tmps.size = n0 → Q .normal a' w') :
  ∀ (fuel : Nat) (listed : Array Bool) (a : Act) (w : World) (I : Prot) (ρ : Nat → Option Loc), listed.size = ops.size →
   RepA w0 I0 (aD0 tm af5 evs (fun j => listed.getD j false) af5.length) (ar6 hp evs (fun j => listed.getD j false) af5.length) a w I ρ → (N ≤ a.tmps.size ∧ N ≤ 1000000) →
   (∀ i, i < af5.length → listed.getD i false = false → ∀ k, base + 4 * i ≤ k → k < base + 4 * i + 4 → ρ k = none) → (∀ k, base + 4 * af5.length ≤ k → ρ k = none) →
   (∀ i o, ops[i]? = some o → listed.getD i false = true → ∀ e ∈ o.after, Region.binds .any e = true → listed.getD e.on false = true) →
   undone (fun j => listed.getD j false) af5.length ≤ fuel → wpAny P .any ops Q fuel listed a w := by
 obtain ⟨hat, hlt, hlr, hel⟩ := hr.at
 have hn := hops.1
 have htl : ct7 af5 = true := by unfold bZ7 at hb; rw [bA] at hb; exact hb.1
 replace hb := (show _ ∧ _ by unfold bZ7 at hb; rw [bA] at hb; exact hb).2
 have hbef : ∀ (i : Nat) (o : Oper) (vo : VOper), ops[i]? = some o → af5[i]? = some vo → (∀ e ∈ o.after, Region.binds .any e = true → e.on < i) ∧ ∀ j, vo.bef.contains j = true → j < i ∧ ∃ e ∈ o.after, Region.binds .any e = true ∧ (e.on = j ∨ ∃ x, af5[e.on]? = some x ∧ x.bef.contains j = true) := by
  intro i o vo ho hvo
  have hi : i < ops.size := by
   have := (gA.1 ho).1; exact this
  have h1 := (all_eq_true.1 hb) i (mem_range.2 hi)
  rw [ho, hvo] at h1
  simp only [bA, all_eq_true, or_eq_true, not_eq_true', dT, List.any_eq_true, beq_iff_eq] at h1
  refine ⟨fun e he hbi => ?_, fun j hj => ?_⟩
  ·rcases h1.1 e (by simpa using he) with h | h
   ·rw [hbi] at h; cases h
   ·exact h
  ·have hj' : j ∈ vo.bef := by simpa using hj
   obtain ⟨h2, e, he, h3, h4⟩ := h1.2 j hj'
   refine ⟨h2, e, by simpa using he, h3, ?_⟩
   rcases h4 with h4 | h4
   ·exact .inl h4
   ·cases hx : af5[e.on]? with
    | none => rw [hx] at h4; simp at h4
    | some x => rw [hx] at h4; exact .inr ⟨x, rfl, by simpa using h4⟩
 have htm : ∀ (i j : Nat) (a b : VOper) (d : Nat), af5[i]? = some a → af5[j]? = some b → i ≠ j → b.dst = some d → (d ∈ a.tmps → aB1 af5 i j = true) ∧ a.dst ≠ some d := by
  intro i j a b d ha hb' hij hd
  have hi := (gS.1 ha).1
  have hj := (gS.1 hb').1
  have h1 := (all_eq_true.1 ((all_eq_true.1 ht) i (mem_range.2 hi))) j (mem_range.2 hj)
  rw [ha, hb'] at h1
  simp only [or_eq_true, beq_iff_eq, hij, false_or, hd, bA, not_eq_true', bne_iff_ne, ne_eq] at h1
  refine ⟨fun hmem => ?_, h1.2⟩
  rcases h1.1 with h | h
  ·have : a.tmps.contains d = true := by simpa using hmem
   rw [this] at h; cases h
  ·exact h
 have hrw : ∀ (i j : Nat) (a b : List Nat × List Nat) (id : Nat), log[i]? = some a → log[j]? = some b → i ≠ j → id ∈ b.2 → (id ∈ a.1 ∨ id ∈ a.2) → a05 af5 i j = true := by
  intro i j a b id ha hb' hij hid hor
  have hi := (gS.1 ha).1
  have hj := (gS.1 hb').1
  have h1 := (all_eq_true.1 ((all_eq_true.1 hl) i (mem_range.2 hi))) j (mem_range.2 hj)
  rw [ha, hb'] at h1
  simp only [or_eq_true, beq_iff_eq, hij, false_or, all_eq_true, not_eq_true'] at h1
  rcases h1 with h | h
  ·have := h id hid
   have h2 : (a.1.contains id || a.2.contains id) = true := by
    rcases hor with h | h
    ·simp [h]
    ·simp [h]
   rw [h2] at this; cases this
  ·exact h
 have htol : ∀ (i j : Nat) (a b : VOper), af5[i]? = some a → af5[j]? = some b → a05 af5 i j = true → aB1 af5 i j = true ∨ bX0 a.op b.op = true := by
  intro i j a b ha hb' hor
  have one : ∀ (i : Nat) (a : VOper), af5[i]? = some a → ∀ j, a.tol.contains j = true → ∃ x, af5[j]? = some x ∧ bX0 a.op x.op = true := by
   intro i a ha j hj
   have hi := (gS.1 ha).1
   have h1 := (all_eq_true.1 htl) i (mem_range.2 hi)
   rw [ha] at h1
   have h2 := (all_eq_true.1 h1) j (by simpa using hj)
   simp only [bA] at h2
   cases hx : af5[j]? with
   | none => rw [hx] at h2; cases h2.2
   | some x => rw [hx] at h2; exact ⟨x, rfl, h2.2⟩
  have sym : ∀ x y : VOp, bX0 x y = bX0 y x := by
   intro x y
   cases x <;> cases y <;> first | rfl | (simp only [bX0]; rw [decide_eq_decide]; exact eq_comm)
  unfold a05 at hor
  unfold aB1
  simp only [ha, hb', map_some, getD_some, VOper.bs, List.contains_eq_mem, List.mem_append, dT, or_eq_true] at hor ⊢
  rcases hor with (h | h) | (h | h)
  ·exact .inl (.inl h)
  ·obtain ⟨x, h1, h2⟩ := one i a ha j (by simpa using h)
   rw [hb'] at h1; cases h1
   exact .inr h2
  ·exact .inl (.inr h)
  ·obtain ⟨x, h1, h2⟩ := one j b hb' i (by simpa using h)
   rw [ha] at h1; cases h1
   exact .inr (by rw [sym]; exact h2)
 have hboth : ∀ (i j id : Nat), i ≠ j → i < af5.length → j < af5.length → ((evs[i]?).bind fun e => look e.2 id).isSome = true → ((evs[j]?).bind fun e => look e.2 id).isSome = true → aB1 af5 i j = true := by
  intro i j id hij hi hj h1 h2
  have hvi : af5[i]? = some af5[i] := gE hi
  have hvj : af5[j]? = some af5[j] := gE hj
  obtain ⟨ei, li, hevi, hlogi, hevi2, hli⟩ := hat i _ hvi
  obtain ⟨ej, lj, hevj, hlogj, hevj2, hlj⟩ := hat j _ hvj
  rw [hevi] at h1
  rw [hevj] at h2
  simp only [oB] at h1 h2
  have m1 : id ∈ li.2 := by rw [hli]; obtain ⟨x, hx⟩ := isSome_iff_exists.1 h1; exact a06 hx
  have m2 : id ∈ lj.2 := by rw [hlj]; obtain ⟨x, hx⟩ := isSome_iff_exists.1 h2; exact a06 hx
  rcases htol i j _ _ hvi hvj (hrw i j _ _ id hlogi hlogj hij m2 (.inr m1)) with h | h
  ·exact h
  ·exfalso
   cases ha : (af5[i]).op <;> rw [ha] at h <;> simp only [bX0] at h <;> try (cases h; done)
   ·have := EvOK.quiet ha hevi2
    rw [this] at h1; cases h1
   ·cases hb2 : (af5[j]).op <;> rw [hb2] at h <;> simp only at h <;> try (cases h; done)
    have := EvOK.quiet hb2 hevj2
    rw [this] at h2; cases h2
 intro fuel
 induction fuel with
 | zero =>
  intro listed a w I ρ hsz hrep hN hfree hfree2 hcl hun
  have hall := aG7 (Nat.le_zero.1 hun)
  have hready : Region.ready .any ops listed = [] := by
   apply List.eq_nil_iff_forall_not_mem.2
   intro i hi
   obtain ⟨h1, o, ho, _⟩ := mem_ready.1 hi
   have hlt' := (gA.1 ho).1
   have h2 := hall i (by omega)
   have hls : i < listed.size := by omega
   simp [hls] at h1 h2
   rw [h1] at h2; cases h2
  refine ⟨hready, hQ a w I ρ ?_ hN hfree2 _ rfl⟩
  rw [hlt, hlr]
  have e1 : aD0 tm af5 evs (fun j => listed.getD j false) af5.length = aD0 tm af5 evs (fun _ => true) af5.length := by
   funext s; simp only [aD0]; rw [af1 (D' := fun _ => true) fun j hj _ => hall j hj]
  have e2 : ar6 hp evs (fun j => listed.getD j false) af5.length = ar6 hp evs (fun _ => true) af5.length := by
   funext s; simp only [ar6]; rw [af1 (D' := fun _ => true) fun j hj _ => hall j hj]
  rw [← e1, ← e2]; exact hrep
 | succ fuel ih =>
  intro listed a w I ρ hsz hrep hN hfree hfree2 hcl hun
  have hclb : ∀ (i : Nat) (vo : VOper), af5[i]? = some vo → listed.getD i false = true → ∀ j, vo.bef.contains j = true → listed.getD j false = true := by
   intro i
   induction i using Nat.strongRecOn with
   | _ i ihi =>
    intro vo hvo hd j hj
    have hi : i < ops.size := by rw [hn]; exact (gS.1 hvo).1
    have ho : ops[i]? = some ops[i] := Array.getElem?_eq_getElem hi
    obtain ⟨hlt1, hb2⟩ := hbef i _ vo ho hvo
    obtain ⟨_, e, he, hbi, hor⟩ := hb2 j hj
    have hde := hcl i _ ho hd e he hbi
    rcases hor with rfl | ⟨x, hx, hxj⟩
    ·exact hde
    ·exact ihi e.on (hlt1 e he hbi) x hx hde j hxj
  have hclr : ∀ (i : Nat) (o : Oper) (vo : VOper), ops[i]? = some o → af5[i]? = some vo → (∀ e ∈ o.after, Region.binds .any e = true → listed.getD e.on false = true) → ∀ j, vo.bef.contains j = true → listed.getD j false = true := by
   intro i o vo ho hvo hpre j hj
   obtain ⟨hlt1, hb2⟩ := hbef i o vo ho hvo
   obtain ⟨_, e, he, hbi, hor⟩ := hb2 j hj
   have hde := hpre e he hbi
   rcases hor with rfl | ⟨x, hx, hxj⟩
   ·exact hde
   ·exact hclb e.on x hx hde j hxj
  refine ⟨fun hnil => ?_, fun i hi => ?_⟩
  ·
   have hall : ∀ j, j < af5.length → listed.getD j false = true := by
    intro j
    induction j using Nat.strongRecOn with
    | _ j ihj =>
     intro hj
     cases hd : listed.getD j false with
     | true => rfl
     | false =>
      have hjo : j < ops.size := by omega
      have ho : ops[j]? = some ops[j] := Array.getElem?_eq_getElem hjo
      have hvo : af5[j]? = some af5[j] := gE hj
      have : j ∈ Region.ready .any ops listed := mem_ready.2 ⟨by
       have hls : j < listed.size := by omega
       simp [hls] at hd ⊢
       exact hd, _, ho, fun e he hbi => ihj e.on ((hbef j _ _ ho hvo).1 e he hbi) (by have := (hbef j _ _ ho hvo).1 e he hbi; omega)⟩
      rw [hnil] at this; cases this
   refine hQ a w I ρ ?_ hN hfree2 _ rfl
   rw [hlt, hlr]
   have e1 : aD0 tm af5 evs (fun j => listed.getD j false) af5.length = aD0 tm af5 evs (fun _ => true) af5.length := by
    funext s; simp only [aD0]; rw [af1 (D' := fun _ => true) fun j hj _ => hall j hj]
   have e2 : ar6 hp evs (fun j => listed.getD j false) af5.length = ar6 hp evs (fun _ => true) af5.length := by
    funext s; simp only [ar6]; rw [af1 (D' := fun _ => true) fun j hj _ => hall j hj]
   rw [← e1, ← e2]; exact hrep
  ·
   obtain ⟨hiu, o, ho, hpre⟩ := mem_ready.1 hi
   have hio := (gA.1 ho).1
   have hiv : i < af5.length := by omega
   have hvo : af5[i]? = some af5[i] := gE hiv
   have hDi : listed.getD i false = false := by
    have hls : i < listed.size := by omega
    simp [hls] at hiu ⊢; exact hiu
   obtain ⟨hm, hd⟩ := hops.2 i o _ ho hvo
   obtain ⟨e, l, hev1, hlog1, hevi, hli⟩ := hat i _ hvo
   have hord : ∀ j, j ≠ i → j < af5.length → aB1 af5 i j = true → (listed.getD j false = true ↔ j < i) := by
    intro j hji hj hor
    have hjv : af5[j]? = some af5[j] := gE hj
    simp only [aB1, hvo, hjv, map_some, getD_some, or_eq_true] at hor
    rcases hor with hor | hor
    ·have h1 := hclr i o _ ho hvo hpre j hor
     have h2 := ((hbef i o _ ho hvo).2 j hor).1
     exact ⟨fun _ => h2, fun _ => h1⟩
    ·have hjo : ops[j]? = some ops[j] := Array.getElem?_eq_getElem (by omega)
     have h2 := ((hbef j _ _ hjo hjv).2 i hor).1
     refine ⟨fun h1 => ?_, fun h1 => by omega⟩
     have := hclb j _ hjv h1 i hor
     rw [hDi] at this; cases this
   have hgetEq : ∀ s ∈ VOper.tmps af5[i], aD0 tm af5 evs (fun _ => true) i s = aD0 tm af5 evs (fun j => listed.getD j false) af5.length s := by
    intro s hs
    simp only [aD0]
    rw [← aG6 i (le_of_lt hiv)]
    rw [af1 (D' := fun j => listed.getD j false) (n := af5.length)]
    intro j hj hsome
    by_cases hji : j = i
    ·subst hji
     simp [hDi]
    ·have hjv : af5[j]? = some af5[j] := gE hj
     rw [hjv] at hsome
     simp only [oB] at hsome
     split at hsome
     ·rename_i hdj
      have hor := (htm i j _ _ s hvo hjv (Ne.symm hji) hdj).1 hs
      have := hord j hji hj hor
      cases hdone : listed.getD j false with
      | true => simp [this.1 hdone]
      | false =>
       have : ¬ j < i := fun h => by have := this.2 h; rw [hdone] at this; cases this
       simp [this]
     ·simp at hsome
   have hchg : ∀ id j, (id ∈ l.1 ∨ id ∈ l.2) → j < af5.length → j ≠ i → ((evs[j]?).bind fun e => look e.2 id).isSome = true →
     aB1 af5 i j = true ∨ bX0 (af5[i]).op (af5.getD j default).op = true := by
    intro id j hid hj hji hsome
    obtain ⟨ej, lj, hevj, hlogj, _, hlj⟩ := hat j _ (gE hj)
    rw [hevj] at hsome
    simp only [oB] at hsome
    have hmem : id ∈ lj.2 := by
     rw [hlj]
     obtain ⟨x, hx⟩ := isSome_iff_exists.1 hsome
     exact a06 hx
    have hor := hrw i j _ _ id hlog1 hlogj (Ne.symm hji) hmem hid
    have e1 : af5.getD j default = af5[j] := by simp [List.getD, gE hj]
    rw [e1]
    exact htol i j _ _ hvo (gE hj) hor
   have hrowEq' : ∀ id, (id ∈ l.1 ∨ id ∈ l.2) → (∀ j, j < af5.length → j ≠ i → ((evs[j]?).bind fun e => look e.2 id).isSome = true → aB1 af5 i j = true) →
     ar6 hp evs (fun _ => true) i id = ar6 hp evs (fun j => listed.getD j false) af5.length id := by
    intro id hid hall
    simp only [ar6]
    rw [← aG6 i (le_of_lt hiv)]
    rw [af1 (D' := fun j => listed.getD j false) (n := af5.length)]
    intro j hj hsome
    by_cases hji : j = i
    ·subst hji
     simp [hDi]
    ·have := hord j hji hj (hall j hj hji hsome)
     cases hdone : listed.getD j false with
     | true => simp [this.1 hdone]
     | false =>
      have : ¬ j < i := fun h => by have := this.2 h; rw [hdone] at this; cases this
      simp [this]
   have hev2 : EvOK P af5[i] (base + 4 * i) (aD0 tm af5 evs (fun j => listed.getD j false) af5.length) (ar6 hp evs (fun j => listed.getD j false) af5.length) e.1 e.2 := by
    by_cases hlook : ∃ kk x k, (af5[i]).op = .mapGet kk x k
    ·obtain ⟨kk, x, k, hop⟩ := hlook
     refine EvOK.lookAt hop hgetEq (fun id hid => ?_) hevi
     have hl1 : id ∈ l.1 := by rw [hli]; exact hid
     refine cb3 (le_of_lt hiv) (fun j hj hs => ?_) (fun j m hjm hm hs1 hs2 hD => ?_)
     ·have hji : j ≠ i := by
       rintro rfl
       rw [hev1] at hs
       simp only [oB, EvOK.quiet hop hevi, look] at hs
       cases hs
      rcases hchg id j (.inl hl1) hj hji hs with h | h
      ·exact .inl (hord j hji hj h)
      ·right
       obtain ⟨ej, lj, hevj, hlogj, hevj2, hlj⟩ := hat j _ (gE hj)
       have e1 : af5.getD j default = af5[j] := by simp [List.getD, gE hj]
       rw [hop, e1] at h
       cases h1 : (af5[j]).op <;> rw [h1] at h <;> simp only [bX0] at h <;> try (cases h; done)
       have hkk := of_decide_eq_true h
       subst hkk
       rw [hevj] at hs
       simp only [oB] at hs
       obtain ⟨r, hr⟩ := isSome_iff_exists.1 hs
       have := EvOK.ent h1 hevj2 hr
       have e2 : ar6 hp evs (fun _ => true) (j + 1) id = r := by
        simp only [ar6, lastIn, if_true, hevj, oB, hr]
       rw [e2]; exact this
     ·have hjv : af5[j]? = some af5[j] := gE (by omega)
      have hmv : af5[m]? = some af5[m] := gE hm
      have hor := hboth j m id (by omega) (by omega) hm hs1 hs2
      simp only [aB1, hjv, hmv, map_some, getD_some, or_eq_true] at hor
      rcases hor with hor | hor
      ·have := ((hbef j _ _ (Array.getElem?_eq_getElem (show j < ops.size by omega)) hjv).2 m hor).1
       omega
      ·exact hclb m _ hmv hD j hor
    ·refine EvOK.congr hgetEq (fun id hid => hrowEq' id (by rw [hli]; exact hid) fun j hj hji hsome => ?_) (hnB i _ hvo) hevi
     rcases hchg id j (by rw [hli]; exact hid) hj hji hsome with h | h
     ·exact h
     ·exfalso
      obtain ⟨ej, lj, hevj, hlogj, hevj2, hlj⟩ := hat j _ (gE hj)
      have e1 : af5.getD j default = af5[j] := by simp [List.getD, gE hj]
      rw [e1] at h
      have hq : ∃ kk x k, (af5[j]).op = .mapGet kk x k := by
       cases h1 : (af5[i]).op <;> rw [h1] at h <;> simp only [bX0] at h <;> try (cases h; done)
       ·exact absurd ⟨_, _, _, h1⟩ hlook
       ·cases h2 : (af5[j]).op <;> rw [h2] at h <;> simp only at h <;> try (cases h; done)
        exact ⟨_, _, _, rfl⟩
      obtain ⟨kk, x, k, hopj⟩ := hq
      have := EvOK.quiet hopj hevj2
      rw [hevj] at hsome
      simp only [oB, this, look] at hsome
      cases hsome
   refine bm0 hP ho hm hrep hev2 (fun k h1 h2 => hfree i hiv hDi k h1 h2) (fun d hd' => ⟨lt_of_lt_of_le (hd d hd') hN.1, lt_of_lt_of_le (hd d hd') hN.2⟩) fun a' w' I' ρ' hrep' hsz' hdom => ?_
   have hset : ∀ j, (listed.setIfInBounds i true).getD j false = (listed.getD j false || decide (j = i)) := by
    intro j
    by_cases hji : j = i
    ·subst hji
     have hls : j < listed.size := by omega
     simp [hls]
    ·rw [getD_set_ne false (Ne.symm hji)]; simp [hji]
   have hfun : (fun j => (listed.setIfInBounds i true).getD j false) = (fun j => listed.getD j false || decide (j = i)) := funext hset
   refine ih (listed.setIfInBounds i true) a' w' I' ρ' (by simpa using hsz) ?_ (by omega) (fun j hj hdj k h1 h2 => ?_) (fun k hk => hdom k (hfree2 k hk) (by omega)) (fun j oj hoj hdj e' he' hbi => ?_) ?_
   ·
    rw [hfun]
    have g1 : aW1 (aD0 tm af5 evs (fun j => listed.getD j false) af5.length) (af5[i]).dst e.1 = aD0 tm af5 evs (fun j => listed.getD j false || decide (j = i)) af5.length := by
     funext s
     simp only [aD0, aW1]
     by_cases hds : (af5[i]).dst = some s
     ·rw [aq3 hDi hiv]
      ·simp [hvo, hev1, hds]
      ·intro j hj1 hj2 hdj
       have hjv : af5[j]? = some af5[j] := gE hj2
       have := (htm j i _ _ s hjv hvo (by omega) hds).2
       simp [hjv, this]
     ·rw [aA3 (by simp [hvo, hds])]
      simp [hds]
    have g2 : ae8 (ar6 hp evs (fun j => listed.getD j false) af5.length) e.2 = ar6 hp evs (fun j => listed.getD j false || decide (j = i)) af5.length := by
     funext id
     simp only [ar6, ae8]
     cases hlk : look e.2 id with
     | none =>
      rw [aA3 (by simp [hev1, hlk])]
     | some x =>
      rw [aq3 hDi hiv]
      ·simp [hev1, hlk]
      ·intro j hj1 hj2 hdj
       obtain ⟨ej, lj, hevj, hlogj, _, hlj⟩ := hat j _ (gE hj2)
       simp only [hevj, oB]
       cases hlkj : look ej.2 id with
       | none => rfl
       | some y =>
        exfalso
        have m1 : id ∈ l.2 := by rw [hli]; exact a06 hlk
        have m2 : id ∈ lj.2 := by rw [hlj]; exact a06 hlkj
        have hor := hboth i j id (by omega) hiv hj2 (by rw [hev1]; simp [hlk]) (by rw [hevj]; simp [hlkj])
        have := (hord j (by omega) hj2 hor).1 hdj
        omega
    rw [← g1, ← g2]; exact hrep'
   ·rw [hset] at hdj
    simp only [Bool.or_eq_false_iff, decide_eq_false_iff_not] at hdj
    exact hdom k (hfree j hj hdj.1 k h1 h2) (by omega)
   ·rw [hset] at hdj
    simp only [or_eq_true, dT] at hdj
    refine getD_set_true ?_
    rcases hdj with hdj | rfl
    ·exact hcl j oj hoj hdj e' he' hbi
    ·rw [ho] at hoj
     simp only [oI] at hoj; subst hoj
     exact hpre e' he' hbi
   ·rw [hfun]
    have := ax9 (D := fun j => listed.getD j false) hDi hiv
    omega
end
end Go.Vm
