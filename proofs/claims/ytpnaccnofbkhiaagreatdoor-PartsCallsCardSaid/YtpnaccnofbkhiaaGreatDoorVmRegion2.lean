import Derived.Test.YtpnaccnofbkhiaaGreatDoorVmRun
namespace Go.Vm
set_option autoImplicit false
open Go.RowKit (Below)
def aX0 [Mode] (P : Program) (N : Nat) (ops : Array Oper) (ag8 : List VOper) : Prop :=
 ops.size = ag8.length ∧ ∀ (i : Nat) (o : Oper) (vo : VOper), ops[i]? = some o → ag8[i]? = some vo → bw6 P ops o vo ∧ ∀ d, vo.dst = some d → d < N
theorem bL6 {get get' : Nat → Option HV} {vo : VOper} (h : ∀ s ∈ vo.tmps, get s = get' s) : gOk get vo.guard = gOk get' vo.guard := by
 unfold VOper.tmps at h
 cases hg : vo.guard with
 | none => rfl
 | some p =>
  obtain ⟨t, want⟩ := p
  rw [hg] at h
  simp only [gOk]
  rw [h t (by simp)]
theorem EvOK.congr [Mode] {P : Program} {vo : VOper} {id0 : Nat} {get get' : Nat → Option HV} {row row' : ac5} {h : HV} {upd : Upd} (hg : ∀ s ∈ vo.tmps, get s = get' s) (hr : ∀ id, id ∈ vo.reads get ∨ id ∈ upd.map (·.1) → row id = row' id)
  (hnB : ae9 vo.op = false) (he : EvOK P vo id0 get row h upd) : EvOK P vo id0 get' row' h upd := by
 unfold EvOK at he ⊢
 unfold VOper.reads at hr
 rw [← bL6 hg]
 cases hgk : gOk get vo.guard with
 | none => rw [hgk] at he; exact he
 | some b =>
  rw [hgk] at he hr
  cases b with
  | false => exact he
  | true => exact OpEv.congr (fun s hs => hg s (by simp [VOper.tmps, hs])) hr hnB he
section
variable [Mode] {P : Program} {w0 : Base} {I0 : Prot} {N : Nat} {ops : Array Oper} {ag8 : List VOper} {Q : Exit → Act → World → Prop} {base : Nat}
theorem bC6 (hP : w0.P = P) (hops : aX0 P N ops ag8) : ∀ {i : Nat} {rest : List VOper} {tm tm' : List (Nat × HV)} {hp hp' : List (Nat × Option Row)} {evs : List (HV × Upd)} {log : List (List Nat × List Nat)},
  Runs P base i rest tm hp evs tm' hp' log → (∀ k, rest[k]? = ag8[i + k]?) → i + rest.length = ag8.length → ∀ {a : Act} {w : World} {I : Prot} {ρ : Nat → Option Loc}, RepA w0 I0 (look tm) (ae0 hp) a w I ρ → (N ≤ a.tmps.size ∧ N ≤ 1000000) →
  (∀ k, base + 4 * i ≤ k → ρ k = none) →
  (∀ a' w' I' ρ', RepA w0 I0 (look tm') (ae0 hp') a' w' I' ρ' → a'.tmps.size = a.tmps.size → (∀ k, base + 4 * ag8.length ≤ k → ρ' k = none) → Q .normal a' w') → wpOps P ops Q (List.range' i rest.length) a w := by
 intro i rest tm tm' hp hp' evs log hr
 induction hr with
 | nil i tm hp =>
  intro hk hl a w I ρ hrep hN hfree hQ
  exact hQ a w I ρ hrep rfl fun k hk => hfree k (by simp at hl; omega)
 | @cons i vo rest tm tm' hp hp' h upd evs log hev r ih =>
  intro hk hl a w I ρ hrep hN hfree hQ
  have hvo : ag8[i]? = some vo := by have := hk 0; simpa using this.symm
  have hi : i < ops.size := by rw [hops.1]; simp at hl; omega
  have ho : ops[i]? = some ops[i] := Array.getElem?_eq_getElem hi
  obtain ⟨hm, hd⟩ := hops.2 i _ vo ho hvo
  rw [List.length_cons, List.range'_succ, wpOps_cons]
  refine a93 hP ho hm hrep hev (fun k h1 _ => hfree k h1) (fun d hd' => ⟨Nat.lt_of_lt_of_le (hd d hd') hN.1, Nat.lt_of_lt_of_le (hd d hd') hN.2⟩) fun a' w' I' ρ' hrep' hsz hdom => ?_
  rw [← bi4, ← aq7] at hrep'
  refine ih (fun k => by have := hk (k + 1); rw [show i + 1 + k = i + (k + 1) by omega, ← this]; simp) (by simp at hl; omega) hrep' (by omega) (fun k hk' => ?_) (fun a2 w2 I2 ρ2 h1 h2 h3 => hQ a2 w2 I2 ρ2 h1 (by omega) h3)
  by_cases hk2 : base + 4 * i ≤ k
  ·exact hdom k (hfree k hk2) (by omega)
  ·omega
omit [Mode] in
theorem be0 {α : Type} {u : List (Nat × α)} {k : Nat} {x : α} (h : look u k = some x) : k ∈ u.map (·.1) := by
 induction u with
 | nil => simp [look] at h
 | cons p u ihu =>
  simp only [look] at h
  split at h
  ·rename_i hk; simp [hk]
  ·simp only [List.map_cons, List.mem_cons]; exact .inr (ihu h)
def undone (D : Nat → Bool) : Nat → Nat
 | 0 => 0
 | n + 1 => (if D n then 0 else 1) + undone D n
omit [Mode] in
theorem az2 {D : Nat → Bool} : ∀ {n : Nat}, undone D n = 0 → ∀ j, j < n → D j = true
 | n + 1, h, j, hj => by
  simp only [undone] at h
  by_cases hjn : j = n
  ·subst hjn
   cases hd : D j with
   | true => rfl
   | false => simp [hd] at h
  ·exact az2 (n := n) (by omega) j (by omega)
omit [Mode] in
theorem aB0 {D D' : Nat → Bool} : ∀ {n : Nat}, (∀ j, j < n → D j = D' j) → undone D n = undone D' n
 | 0, _ => rfl
 | n + 1, h => by simp only [undone]; rw [h n (by omega), aB0 fun j hj => h j (by omega)]
omit [Mode] in
theorem ar6 {D : Nat → Bool} {i : Nat} (hD : D i = false) : ∀ {n : Nat}, i < n → undone (fun j => D j || decide (j = i)) n + 1 = undone D n
 | 0, h => by omega
 | n + 1, h => by
  simp only [undone]
  by_cases hi : i = n
  ·subst hi
   have : undone (fun j => D j || decide (j = i)) i = undone D i := aB0 fun j hj => by
    have : ¬ j = i := by omega
    simp [this]
   rw [this]; simp [hD]; omega
  ·have hni : ¬ n = i := fun e => hi e.symm
   have := ar6 hD (n := n) (by omega)
   simp only [hni, decide_false, Bool.or_false]
   omega
theorem bL7 (hP : w0.P = P) (hnB : ∀ (i : Nat) (vo : VOper), ag8[i]? = some vo → ae9 vo.op = false) (hops : aX0 P N ops ag8) (hb : b81 ops ag8 = true) (ht : bL4 ag8 = true) {tm tm' : List (Nat × HV)} {hp hp' : List (Nat × Option Row)} {evs : List (HV × Upd)} {log : List (List Nat × List Nat)}
  (hr : Runs P base 0 ag8 tm hp evs tm' hp' log) (hl : bL5 ag8 log = true)
  (hQ : ∀ a' w' I' ρ', RepA w0 I0 (look tm') (ae0 hp') a' w' I' ρ' → (N ≤ a'.tmps.size ∧ N ≤ 1000000) → (∀ k, base + 4 * ag8.length ≤ k → ρ' k = none) → ∀ n0, a'.tmps.size = n0 → Q .normal a' w') :
  ∀ (fuel : Nat) (listed : Array Bool) (a : Act) (w : World) (I : Prot) (ρ : Nat → Option Loc), listed.size = ops.size →
   RepA w0 I0 (aw5 tm ag8 evs (fun j => listed.getD j false) ag8.length) (az1 hp evs (fun j => listed.getD j false) ag8.length) a w I ρ → (N ≤ a.tmps.size ∧ N ≤ 1000000) →
   (∀ i, i < ag8.length → listed.getD i false = false → ∀ k, base + 4 * i ≤ k → k < base + 4 * i + 4 → ρ k = none) → (∀ k, base + 4 * ag8.length ≤ k → ρ k = none) →
   (∀ i o, ops[i]? = some o → listed.getD i false = true → ∀ e ∈ o.after, Region.binds .any e = true → listed.getD e.on false = true) →
   undone (fun j => listed.getD j false) ag8.length ≤ fuel → wpAny P .any ops Q fuel listed a w := by
 obtain ⟨hat, hlt, hlr, hel⟩ := hr.at
 have hn := hops.1
 have hbef : ∀ (i : Nat) (o : Oper) (vo : VOper), ops[i]? = some o → ag8[i]? = some vo → (∀ e ∈ o.after, Region.binds .any e = true → e.on < i) ∧ ∀ j, vo.bef.contains j = true → j < i ∧ ∃ e ∈ o.after, Region.binds .any e = true ∧ (e.on = j ∨ ∃ x, ag8[e.on]? = some x ∧ x.bef.contains j = true) := by
  intro i o vo ho hvo
  have hi : i < ops.size := by
   have := (Array.getElem?_eq_some_iff.1 ho).1; exact this
  have h1 := (List.all_eq_true.1 hb) i (List.mem_range.2 hi)
  rw [ho, hvo] at h1
  simp only [Bool.and_eq_true, List.all_eq_true, Bool.or_eq_true, Bool.not_eq_true', decide_eq_true_eq, List.any_eq_true, beq_iff_eq] at h1
  refine ⟨fun e he hbi => ?_, fun j hj => ?_⟩
  ·rcases h1.1 e (by simpa using he) with h | h
   ·rw [hbi] at h; cases h
   ·exact h
  ·have hj' : j ∈ vo.bef := by simpa using hj
   obtain ⟨h2, e, he, h3, h4⟩ := h1.2 j hj'
   refine ⟨h2, e, by simpa using he, h3, ?_⟩
   rcases h4 with h4 | h4
   ·exact .inl h4
   ·cases hx : ag8[e.on]? with
    | none => rw [hx] at h4; simp at h4
    | some x => rw [hx] at h4; exact .inr ⟨x, rfl, by simpa using h4⟩
 have htm : ∀ (i j : Nat) (a b : VOper) (d : Nat), ag8[i]? = some a → ag8[j]? = some b → i ≠ j → b.dst = some d → (d ∈ a.tmps → aF1 ag8 i j = true) ∧ a.dst ≠ some d := by
  intro i j a b d ha hb' hij hd
  have hi := (List.getElem?_eq_some_iff.1 ha).1
  have hj := (List.getElem?_eq_some_iff.1 hb').1
  have h1 := (List.all_eq_true.1 ((List.all_eq_true.1 ht) i (List.mem_range.2 hi))) j (List.mem_range.2 hj)
  rw [ha, hb'] at h1
  simp only [Bool.or_eq_true, beq_iff_eq, hij, false_or, hd, Bool.and_eq_true, Bool.not_eq_true', bne_iff_ne, ne_eq] at h1
  refine ⟨fun hmem => ?_, h1.2⟩
  rcases h1.1 with h | h
  ·have : a.tmps.contains d = true := by simpa using hmem
   rw [this] at h; cases h
  ·exact h
 have hrw : ∀ (i j : Nat) (a b : List Nat × List Nat) (id : Nat), log[i]? = some a → log[j]? = some b → i ≠ j → id ∈ b.2 → (id ∈ a.1 ∨ id ∈ a.2) → aF1 ag8 i j = true := by
  intro i j a b id ha hb' hij hid hor
  have hi := (List.getElem?_eq_some_iff.1 ha).1
  have hj := (List.getElem?_eq_some_iff.1 hb').1
  have h1 := (List.all_eq_true.1 ((List.all_eq_true.1 hl) i (List.mem_range.2 hi))) j (List.mem_range.2 hj)
  rw [ha, hb'] at h1
  simp only [Bool.or_eq_true, beq_iff_eq, hij, false_or, List.all_eq_true, Bool.not_eq_true'] at h1
  rcases h1 with h | h
  ·have := h id hid
   have h2 : (a.1.contains id || a.2.contains id) = true := by
    rcases hor with h | h
    ·simp [h]
    ·simp [h]
   rw [h2] at this; cases this
  ·exact h
 intro fuel
 induction fuel with
 | zero =>
  intro listed a w I ρ hsz hrep hN hfree hfree2 hcl hun
  have hall := az2 (Nat.le_zero.1 hun)
  have hready : Region.ready .any ops listed = [] := by
   apply List.eq_nil_iff_forall_not_mem.2
   intro i hi
   obtain ⟨h1, o, ho, _⟩ := mem_ready.1 hi
   have hlt' := (Array.getElem?_eq_some_iff.1 ho).1
   have h2 := hall i (by omega)
   have hls : i < listed.size := by omega
   simp [hls] at h1 h2
   rw [h1] at h2; cases h2
  refine ⟨hready, hQ a w I ρ ?_ hN hfree2 _ rfl⟩
  rw [hlt, hlr]
  have e1 : aw5 tm ag8 evs (fun j => listed.getD j false) ag8.length = aw5 tm ag8 evs (fun _ => true) ag8.length := by
   funext s; simp only [aw5]; rw [ad9 (D' := fun _ => true) fun j hj _ => hall j hj]
  have e2 : az1 hp evs (fun j => listed.getD j false) ag8.length = az1 hp evs (fun _ => true) ag8.length := by
   funext s; simp only [az1]; rw [ad9 (D' := fun _ => true) fun j hj _ => hall j hj]
  rw [← e1, ← e2]; exact hrep
 | succ fuel ih =>
  intro listed a w I ρ hsz hrep hN hfree hfree2 hcl hun
  have hclb : ∀ (i : Nat) (vo : VOper), ag8[i]? = some vo → listed.getD i false = true → ∀ j, vo.bef.contains j = true → listed.getD j false = true := by
   intro i
   induction i using Nat.strongRecOn with
   | _ i ihi =>
    intro vo hvo hd j hj
    have hi : i < ops.size := by rw [hn]; exact (List.getElem?_eq_some_iff.1 hvo).1
    have ho : ops[i]? = some ops[i] := Array.getElem?_eq_getElem hi
    obtain ⟨hlt1, hb2⟩ := hbef i _ vo ho hvo
    obtain ⟨_, e, he, hbi, hor⟩ := hb2 j hj
    have hde := hcl i _ ho hd e he hbi
    rcases hor with rfl | ⟨x, hx, hxj⟩
    ·exact hde
    ·exact ihi e.on (hlt1 e he hbi) x hx hde j hxj
  have hclr : ∀ (i : Nat) (o : Oper) (vo : VOper), ops[i]? = some o → ag8[i]? = some vo → (∀ e ∈ o.after, Region.binds .any e = true → listed.getD e.on false = true) → ∀ j, vo.bef.contains j = true → listed.getD j false = true := by
   intro i o vo ho hvo hpre j hj
   obtain ⟨hlt1, hb2⟩ := hbef i o vo ho hvo
   obtain ⟨_, e, he, hbi, hor⟩ := hb2 j hj
   have hde := hpre e he hbi
   rcases hor with rfl | ⟨x, hx, hxj⟩
   ·exact hde
   ·exact hclb e.on x hx hde j hxj
  refine ⟨fun hnil => ?_, fun i hi => ?_⟩
  ·
   have hall : ∀ j, j < ag8.length → listed.getD j false = true := by
    intro j
    induction j using Nat.strongRecOn with
    | _ j ihj =>
     intro hj
     cases hd : listed.getD j false with
     | true => rfl
     | false =>
      have hjo : j < ops.size := by omega
      have ho : ops[j]? = some ops[j] := Array.getElem?_eq_getElem hjo
      have hvo : ag8[j]? = some ag8[j] := List.getElem?_eq_getElem hj
      have : j ∈ Region.ready .any ops listed := mem_ready.2 ⟨by
       have hls : j < listed.size := by omega
       simp [hls] at hd ⊢
       exact hd, _, ho, fun e he hbi => ihj e.on ((hbef j _ _ ho hvo).1 e he hbi) (by have := (hbef j _ _ ho hvo).1 e he hbi; omega)⟩
      rw [hnil] at this; cases this
   refine hQ a w I ρ ?_ hN hfree2 _ rfl
   rw [hlt, hlr]
   have e1 : aw5 tm ag8 evs (fun j => listed.getD j false) ag8.length = aw5 tm ag8 evs (fun _ => true) ag8.length := by
    funext s; simp only [aw5]; rw [ad9 (D' := fun _ => true) fun j hj _ => hall j hj]
   have e2 : az1 hp evs (fun j => listed.getD j false) ag8.length = az1 hp evs (fun _ => true) ag8.length := by
    funext s; simp only [az1]; rw [ad9 (D' := fun _ => true) fun j hj _ => hall j hj]
   rw [← e1, ← e2]; exact hrep
  ·
   obtain ⟨hiu, o, ho, hpre⟩ := mem_ready.1 hi
   have hio := (Array.getElem?_eq_some_iff.1 ho).1
   have hiv : i < ag8.length := by omega
   have hvo : ag8[i]? = some ag8[i] := List.getElem?_eq_getElem hiv
   have hDi : listed.getD i false = false := by
    have hls : i < listed.size := by omega
    simp [hls] at hiu ⊢; exact hiu
   obtain ⟨hm, hd⟩ := hops.2 i o _ ho hvo
   obtain ⟨e, l, hev1, hlog1, hevi, hli⟩ := hat i _ hvo
   have hord : ∀ j, j ≠ i → j < ag8.length → aF1 ag8 i j = true → (listed.getD j false = true ↔ j < i) := by
    intro j hji hj hor
    have hjv : ag8[j]? = some ag8[j] := List.getElem?_eq_getElem hj
    simp only [aF1, hvo, hjv, Option.map_some, Option.getD_some, Bool.or_eq_true] at hor
    rcases hor with hor | hor
    ·have h1 := hclr i o _ ho hvo hpre j hor
     have h2 := ((hbef i o _ ho hvo).2 j hor).1
     exact ⟨fun _ => h2, fun _ => h1⟩
    ·have hjo : ops[j]? = some ops[j] := Array.getElem?_eq_getElem (by omega)
     have h2 := ((hbef j _ _ hjo hjv).2 i hor).1
     refine ⟨fun h1 => ?_, fun h1 => by omega⟩
     have := hclb j _ hjv h1 i hor
     rw [hDi] at this; cases this
   have hgetEq : ∀ s ∈ VOper.tmps ag8[i], aw5 tm ag8 evs (fun _ => true) i s = aw5 tm ag8 evs (fun j => listed.getD j false) ag8.length s := by
    intro s hs
    simp only [aw5]
    rw [← aD2 i (Nat.le_of_lt hiv)]
    rw [ad9 (D' := fun j => listed.getD j false) (n := ag8.length)]
    intro j hj hsome
    by_cases hji : j = i
    ·subst hji
     simp [hDi]
    ·have hjv : ag8[j]? = some ag8[j] := List.getElem?_eq_getElem hj
     rw [hjv] at hsome
     simp only [Option.bind_some] at hsome
     split at hsome
     ·rename_i hdj
      have hor := (htm i j _ _ s hvo hjv (Ne.symm hji) hdj).1 hs
      have := hord j hji hj hor
      cases hdone : listed.getD j false with
      | true => simp [this.1 hdone]
      | false =>
       have : ¬ j < i := fun h => by have := this.2 h; rw [hdone] at this; cases this
       simp [this]
     ·simp at hsome
   have hrowEq : ∀ id, (id ∈ l.1 ∨ id ∈ l.2) → az1 hp evs (fun _ => true) i id = az1 hp evs (fun j => listed.getD j false) ag8.length id := by
    intro id hid
    simp only [az1]
    rw [← aD2 i (Nat.le_of_lt hiv)]
    rw [ad9 (D' := fun j => listed.getD j false) (n := ag8.length)]
    intro j hj hsome
    by_cases hji : j = i
    ·subst hji
     simp [hDi]
    ·obtain ⟨ej, lj, hevj, hlogj, _, hlj⟩ := hat j _ (List.getElem?_eq_getElem hj)
     rw [hevj] at hsome
     simp only [Option.bind_some] at hsome
     have hmem : id ∈ lj.2 := by
      rw [hlj]
      obtain ⟨x, hx⟩ := Option.isSome_iff_exists.1 hsome
      exact be0 hx
     have hor := hrw i j _ _ id hlog1 hlogj (Ne.symm hji) hmem hid
     have := hord j hji hj hor
     cases hdone : listed.getD j false with
     | true => simp [this.1 hdone]
     | false =>
      have : ¬ j < i := fun h => by have := this.2 h; rw [hdone] at this; cases this
      simp [this]
   have hev2 : EvOK P ag8[i] (base + 4 * i) (aw5 tm ag8 evs (fun j => listed.getD j false) ag8.length) (az1 hp evs (fun j => listed.getD j false) ag8.length) e.1 e.2 :=
    EvOK.congr hgetEq (fun id hid => hrowEq id (by rw [hli]; exact hid)) (hnB i _ hvo) hevi
   refine a93 hP ho hm hrep hev2 (fun k h1 h2 => hfree i hiv hDi k h1 h2) (fun d hd' => ⟨Nat.lt_of_lt_of_le (hd d hd') hN.1, Nat.lt_of_lt_of_le (hd d hd') hN.2⟩) fun a' w' I' ρ' hrep' hsz' hdom => ?_
   have hset : ∀ j, (listed.setIfInBounds i true).getD j false = (listed.getD j false || decide (j = i)) := by
    intro j
    by_cases hji : j = i
    ·subst hji
     have hls : j < listed.size := by omega
     simp [hls]
    ·rw [getD_set_ne false (Ne.symm hji)]; simp [hji]
   have hfun : (fun j => (listed.setIfInBounds i true).getD j false) = (fun j => listed.getD j false || decide (j = i)) := funext hset
   refine ih (listed.setIfInBounds i true) a' w' I' ρ' (by simpa using hsz) ?_ (by omega) (fun j hj hdj k h1 h2 => ?_) (fun k hk => hdom k (hfree2 k hk) (by omega)) (fun j oj hoj hdj e' he' hbi => ?_) ?_
   ·
    rw [hfun]
    have g1 : aL8 (aw5 tm ag8 evs (fun j => listed.getD j false) ag8.length) (ag8[i]).dst e.1 = aw5 tm ag8 evs (fun j => listed.getD j false || decide (j = i)) ag8.length := by
     funext s
     simp only [aw5, aL8]
     by_cases hds : (ag8[i]).dst = some s
     ·rw [am0 hDi hiv]
      ·simp [hvo, hev1, hds]
      ·intro j hj1 hj2 hdj
       have hjv : ag8[j]? = some ag8[j] := List.getElem?_eq_getElem hj2
       have := (htm j i _ _ s hjv hvo (by omega) hds).2
       simp [hjv, this]
     ·rw [at5 (by simp [hvo, hds])]
      simp [hds]
    have g2 : ae4 (az1 hp evs (fun j => listed.getD j false) ag8.length) e.2 = az1 hp evs (fun j => listed.getD j false || decide (j = i)) ag8.length := by
     funext id
     simp only [az1, ae4]
     cases hlk : look e.2 id with
     | none =>
      rw [at5 (by simp [hev1, hlk])]
     | some x =>
      rw [am0 hDi hiv]
      ·simp [hev1, hlk]
      ·intro j hj1 hj2 hdj
       obtain ⟨ej, lj, hevj, hlogj, _, hlj⟩ := hat j _ (List.getElem?_eq_getElem hj2)
       simp only [hevj, Option.bind_some]
       cases hlkj : look ej.2 id with
       | none => rfl
       | some y =>
        exfalso
        have m1 : id ∈ l.2 := by rw [hli]; exact be0 hlk
        have m2 : id ∈ lj.2 := by rw [hlj]; exact be0 hlkj
        have hor := hrw i j _ _ id hlog1 hlogj (by omega) m2 (.inr m1)
        have := (hord j (by omega) hj2 hor).1 hdj
        omega
    rw [← g1, ← g2]; exact hrep'
   ·rw [hset] at hdj
    simp only [Bool.or_eq_false_iff, decide_eq_false_iff_not] at hdj
    exact hdom k (hfree j hj hdj.1 k h1 h2) (by omega)
   ·rw [hset] at hdj
    simp only [Bool.or_eq_true, decide_eq_true_eq] at hdj
    refine getD_set_true ?_
    rcases hdj with hdj | rfl
    ·exact hcl j oj hoj hdj e' he' hbi
    ·rw [ho] at hoj
     simp only [Option.some.injEq] at hoj; subst hoj
     exact hpre e' he' hbi
   ·rw [hfun]
    have := ar6 (D := fun j => listed.getD j false) hDi hiv
    omega
end
end Go.Vm
