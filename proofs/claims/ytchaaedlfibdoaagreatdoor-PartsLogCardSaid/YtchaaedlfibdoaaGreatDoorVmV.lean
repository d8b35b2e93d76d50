import Derived.Test.YtchaaedlfibdoaaGreatDoorVmU
namespace Go.Vm
set_option linter.unusedVariables false
open Go.RowKit (Below)
section
variable {P : Program} {N : Nat} {w0 : Base} {I0 : Prot}
def Sok [Mode] (P : Program) (N : Nat) (w0 : Base) (I0 : Prot) (c : Code) (Q : VExit → VSt → Prop) (st : VSt) : Prop :=
 ∀ (a : Act) (w : World), bv9 N w0 I0 st a w → c.wp P (QRep N w0 I0 Q) a w
theorem QRep.mono [Mode] {Q Q' : VExit → VSt → Prop} (hq : ∀ e st, Q e st → ∃ st1, Sub st1 st ∧ Q' e st1) {e : Exit} {a : Act} {w : World} (h : QRep N w0 I0 Q e a w) : QRep N w0 I0 Q' e a w := by
 cases e with
 | normal => obtain ⟨st, hr, h⟩ := h; obtain ⟨s1, h1, h2⟩ := hq _ _ h; exact ⟨s1, h1 N w0 I0 a w hr, h2⟩
 | exit i => obtain ⟨st, hr, h⟩ := h; obtain ⟨s1, h1, h2⟩ := hq _ _ h; exact ⟨s1, h1 N w0 I0 a w hr, h2⟩
 | ret => obtain ⟨st, hr, h⟩ := h; obtain ⟨s1, h1, h2⟩ := hq _ _ h; exact ⟨s1, h1 N w0 I0 a w hr, h2⟩
 | _ => exact h
theorem Sok.mono [Mode] {c : Code} {Q Q' : VExit → VSt → Prop} {st : VSt} (h : Sok P N w0 I0 c Q st) (hq : ∀ e st, Q e st → ∃ st1, Sub st1 st ∧ Q' e st1) : Sok P N w0 I0 c Q' st :=
 fun a w hr => wp_mono (h a w hr) fun e a' w' h => h.mono hq
theorem Sok.sub [Mode] {c : Code} {Q : VExit → VSt → Prop} {st st' : VSt} (h : Sok P N w0 I0 c Q st') (hs : Sub st' st) : Sok P N w0 I0 c Q st := fun a w hr => h a w (hs N w0 I0 a w hr)
theorem Sok.skip [Mode] {Q : VExit → VSt → Prop} {st : VSt} (h : Q .normal st) : Sok P N w0 I0 .skip Q st := fun a w hr => wp_skip ⟨st, hr, h⟩
theorem Sok.exit [Mode] {Q : VExit → VSt → Prop} {st : VSt} {i : Nat} (h : Q (.exit i) st) : Sok P N w0 I0 (.exit i) Q st := fun a w hr => wp_exit ⟨st, hr, h⟩
theorem Sok.ret [Mode] {Q : VExit → VSt → Prop} {st : VSt} (h : Q .ret st) : Sok P N w0 I0 .ret Q st := fun a w hr => wp_ret ⟨st, hr, h⟩
theorem Sok.seq [Mode] {x y : Code} {Q Q1 : VExit → VSt → Prop} {st : VSt} (h : Sok P N w0 I0 x Q1 st) (hn : ∀ st', Q1 .normal st' → Sok P N w0 I0 y Q st') (he : ∀ i st', Q1 (.exit i) st' → Q (.exit i) st') (hr : ∀ st', Q1 .ret st' → Q .ret st') : Sok P N w0 I0 (.seq x y) Q st := by
 intro a w hrep
 refine wp_seq (wp_mono (h a w hrep) fun e a' w' hq => ?_)
 cases e with
 | normal => obtain ⟨st', hr', hw'⟩ := hq; exact hn st' hw' a' w' hr'
 | exit id => obtain ⟨st', hr', hw'⟩ := hq; exact ⟨st', hr', he _ _ hw'⟩
 | ret => obtain ⟨st', hr', hw'⟩ := hq; exact ⟨st', hr', hr _ hw'⟩
 | _ => exact hq
theorem Sok.cond [Mode] {o : Operand} {vo : VA} {x y : Code} {Q : VExit → VSt → Prop} {st : VSt} {t : Bool} (h0 : opdOf o = some vo) (ht : vo.get (look st.tm) = some (.pv (.bool t))) (h1 : t = true → Sok P N w0 I0 x Q st) (h2 : t = false → Sok P N w0 I0 y Q st) : Sok P N w0 I0 (.cond o x y) Q st := by
 intro a w hr
 have hv : a.eval o = .bool t := by
  obtain ⟨_, I, ρ, hrep, _⟩ := hr
  exact (hrep.eval o vo _ h0 ht).bool_inv
 cases t with
 | true => exact wp_cond_true hv (h1 rfl a w hr)
 | false => exact wp_cond_false hv (h2 rfl a w hr)
theorem Sok.block [Mode] {id : Nat} {x : Code} {Q Q1 : VExit → VSt → Prop} {st : VSt} (h : Sok P N w0 I0 x Q1 st) (hn : ∀ st', Q1 .normal st' → Q .normal st') (he : ∀ i st', Q1 (.exit i) st' → if i = id then Q .normal st' else Q (.exit i) st') (hr : ∀ st', Q1 .ret st' → Q .ret st') :
  Sok P N w0 I0 (.block id x) Q st := by
 intro a w hrep
 refine wp_block (wp_mono (h a w hrep) fun e a' w' hq => ?_)
 cases e with
 | normal => obtain ⟨st', hr', hw'⟩ := hq; exact ⟨st', hr', hn _ hw'⟩
 | exit j =>
  obtain ⟨st', hr', hw'⟩ := hq
  have hw' := he _ _ hw'
  simp only [Exit.inBlock]
  split
  ·rename_i hj
   rw [iP hj] at hw'
   exact ⟨st', hr', hw'⟩
  ·rename_i hj
   rw [iN hj] at hw'
   exact ⟨st', hr', hw'⟩
 | ret => obtain ⟨st', hr', hw'⟩ := hq; exact ⟨st', hr', hr _ hw'⟩
 | _ => exact hq
theorem Sok.loop [Mode] {c1 : Code} {Q : VExit → VSt → Prop} {st : VSt} (I : Nat → VSt → Prop) (hI : ∃ n s1, Sub s1 st ∧ I n s1) {Q1 : Nat → VExit → VSt → Prop} (hround : ∀ n st', I n st' → Sok P N w0 I0 c1 (Q1 n) st')
  (hn : ∀ n st', Q1 n .normal st' → ∃ m s1, m < n ∧ Sub s1 st' ∧ I m s1) (he : ∀ n i st', Q1 n (.exit i) st' → Q (.exit i) st') (hr : ∀ n st', Q1 n .ret st' → Q .ret st') : Sok P N w0 I0 (.loop c1) Q st := by
 intro a w hrep
 obtain ⟨n, s1, hsub, hI⟩ := hI
 have key : ∀ (n : Nat) (st : VSt) (a : Act) (w : World), I n st → bv9 N w0 I0 st a w → ∀ (b : Frame) (k : List Item) (cs : List Frame),
   ∃ e a' w', QRep N w0 I0 Q e a' w' ∧ Arrives P (lone (b.at a (.code c1 :: .inLoop c1 :: k)) cs w) b k cs e a' w' := by
  intro n
  induction n using Nat.strongRecOn with
  | _ n ihn =>
   intro st a w hI hrep b k cs
   obtain ⟨e, a1, w1, hq, harr⟩ := hround n st hI a w hrep b (.inLoop c1 :: k) cs
   cases e with
   | normal =>
    obtain ⟨st', hr', hq⟩ := hq
    obtain ⟨m, s2, hm, hs2, hI'⟩ := hn _ _ hq
    obtain ⟨e2, a2, w2, hq2, harr2⟩ := ihn m hm _ a1 w1 hI' (hs2 N w0 I0 a1 w1 hr') b k cs
    exact ⟨e2, a2, w2, hq2, .of_steps (Steps.trans harr (.one step_inLoop)) harr2⟩
   | exit id => obtain ⟨st', hr', hq⟩ := hq; exact ⟨.exit id, a1, w1, ⟨st', hr', he _ _ _ hq⟩, .pass (x := .inLoop c1) rfl (fun _ _ => .inl (by simp)) harr⟩
   | goto l => exact ⟨.goto l, a1, w1, hq, .pass (x := .inLoop c1) rfl (fun _ _ => .inl (by simp)) harr⟩
   | ret => obtain ⟨st', hr', hq⟩ := hq; exact ⟨.ret, a1, w1, ⟨st', hr', hr _ _ hq⟩, .pass (x := .inLoop c1) rfl (fun _ _ => .inl (by simp)) harr⟩
   | panic ch => exact ⟨.panic ch, a1, w1, hq, .pass (x := .inLoop c1) rfl (fun _ _ => .inl (by simp)) harr⟩
   | outgrown => exact ⟨.outgrown, a1, w1, hq, .pass (x := .inLoop c1) rfl (fun _ _ => .inl (by simp)) harr⟩
 intro b k cs
 obtain ⟨e, a', w', hq, harr⟩ := key n _ a w hI (hsub N w0 I0 a w hrep) b k cs
 exact ⟨e, a', w', hq, .of_steps (.one step_loop) harr⟩
theorem cc9 [Mode] {tm tm' : TmL} {hp : HpL} {nx : Nat} (h : look tm = look tm') : Sub ⟨tm', hp, nx⟩ ⟨tm, hp, nx⟩ := by
 intro N w0 I0 a w hr
 unfold bv9 at hr ⊢
 simp only at hr ⊢
 rw [← h]; exact hr
theorem bR6 [Mode] {d : Bool} {base : Nat} : ∀ {ops : List VOper} {i : Nat} {tm : TmL} {hp : HpL} {log : List aK5} {K K' : Nat → TmL → HpL → List aK5 → Prop}, af5 P d base i ops tm hp log K → (∀ i tm hp log, K i tm hp log → K' i tm hp log) → af5 P d base i ops tm hp log K' := by
 intro ops
 induction ops with
 | nil => intro i tm hp log K K' h hk; exact hk _ _ _ _ h
 | cons vo rest ih =>
  intro i tm hp log K K' h hk
  unfold af5 at h ⊢
  split
  ·rename_i hg
   rw [hg] at h
   simp only at h
   exact h.mono' fun v u hh => ih hh hk
  ·rename_i t want hg
   rw [hg] at h
   simp only at h
   split
   ·rename_i b hb
    rw [hb] at h
    simp only at h
    split
    ·rename_i hbw
     rw [iP hbw] at h
     exact h.mono' fun v u hh => ih hh hk
    ·rename_i hbw
     rw [iN hbw] at h
     exact ih h hk
   ·rename_i hb
    rw [hb] at h
    exact ih h hk
   ·rename_i h1 h2
    split at h
    ·rename_i b hb; exact (h1 b hb).elim
    ·rename_i hb; exact (h2 hb).elim
    ·exact h
theorem bm8 [Mode] {τ : Type} {Q0 : τ → Prop} {t : Tr P τ} {st : VSt} {K : VSt → Tr P τ → Obl} (hs : t.Sat Q0) (h : (ckWh P t st K).Ok) : ∃ st' t', Sub st' st ∧ t'.Sat Q0 ∧ (K st' t').Ok := by
 unfold ckWh at h
 split at h
 ·rename_i s1 s2 hsub t
  obtain ⟨he, h⟩ := h
  have he : st = s1 := he
  subst he
  exact ⟨s2, t, hsub, hs, h⟩
 ·exact hs.elim
 ·exact h.elim
theorem bw8 [Mode] {τ : Type} {Q0 : τ → Prop} {t : Tr P τ} {st : VSt} {K : VSt → Tr P τ → Obl} (hs : t.Sat Q0) (h : (ckW P t st K).Ok) : ∃ st' t', Sub st' st ∧ t'.Sat Q0 ∧ (K st' t').Ok := by
 unfold ckW at h
 split at h
 ·rename_i s1 s2 hsub t
  obtain ⟨he, h⟩ := h
  have he : st = s1 := he
  subst he
  exact ⟨s2, t, hsub, hs, h⟩
 ·rename_i tg c a b
  split at h
  ·cases hc : c with
   | true => exact bm8 (hs.1 hc) (h.1 hc)
   | false => exact bm8 (hs.2 hc) (h.2 hc)
  ·exact ⟨_, _, Sub.refl _, hs, h⟩
 ·exact ⟨_, _, Sub.refl _, hs, h⟩
theorem aq4 [Mode] {tag : Nat} {τ : Type} {Q0 : τ → Prop} {t : Tr P τ} {st : VSt} {K : VSt → Tr P τ → Obl} (hs : t.Sat Q0) (h : (aN6 P tag t st K).Ok) : ∃ st' t', Sub st' st ∧ t'.Sat Q0 ∧ (K st' t').Ok := by
 unfold aN6 at h
 split at h
 ·rename_i tg ks t
  split at h
  ·obtain ⟨s1, t1, h1, h2, h3⟩ := bw8 (show t.Sat Q0 from hs) h
   exact ⟨s1, t1, h1.trans (aT3 ks st), h2, h3⟩
  ·exact ⟨_, _, Sub.refl _, hs, h⟩
 ·exact hs.elim
 ·exact ⟨_, _, Sub.refl _, hs, h⟩
theorem be8 [Mode] {σ : Type} {F : σ → VSt} {st : VSt} {t : Tr P σ} {Q0 : σ → Prop} (hs : t.Sat Q0) (h : (co5 P F st t).Ok) : ∃ x, Q0 x ∧ Sub (F x) st := by
 obtain ⟨s1, t1, h1, h2, h3⟩ := bw8 hs h
 split at h3
 ·rename_i x
  have h3 : s1 = F x := h3
  exact ⟨x, h2, by rw [← h3]; exact h1⟩
 ·exact h3.elim
theorem a81 [Mode] {σ τ : Type} {F : σ → VSt} {st : VSt} {t : Tr P (Step σ τ)} {C : σ → Prop} {D : τ → Prop} (hs : t.Sat (Step.el C D)) (h : (b15 P F st t).Ok) : ∃ x, C x ∧ Sub (F x) st := by
 obtain ⟨s1, t1, h1, h2, h3⟩ := aq4 hs h
 split at h3
 ·rename_i x
  have h3 : s1 = F x := h3
  exact ⟨x, h2, by rw [← h3]; exact h1⟩
 ·exact h3.elim
theorem Step.out_sat [Mode] {σ τ : Type} {k : σ → Tr P τ} {Q0 : τ → Prop} {t : Tr P (Step σ τ)} (hs : t.Sat (Step.el (fun s => (k s).Sat Q0) Q0)) : (t.bnd (Step.out k)).Sat Q0 := by
 refine Tr.Sat.bnd (hs.mono fun v hv => ?_)
 cases v with
 | cont s => exact hv
 | done v => exact hv
theorem bR7 [Mode] (hP : w0.P = P) (hmix : P.follows .mixedOrders = true) {id : Nat} {ops : Array Oper} {draw : Bool} {r : List VOper} (hr : bE9 P N ops draw = some r) {Q : VExit → VSt → Prop} {st : VSt}
  (h : af5 P draw st.nx 0 r st.tm st.hp [] fun i tm hp log => (draw = true → bE5 log = true) ∧ Q .normal ⟨tm, hp, st.nx + 4 * i⟩) : Sok P N w0 I0 (.region id ops draw) Q st := by
 intro a w hrep
 unfold bE9 at hr
 split at hr
 ·rename_i r' h1
  obtain ⟨s1, s2⟩ := a73 h1
  have hops : a99 P N ops r' := ⟨by simpa using s1, fun i o vo ho hvo => s2 i o vo (by simpa using ho) hvo⟩
  cases draw with
  | false =>
   simp only [oI] at hr
   subst hr
   exact a74 hmix hops hP (fun h => by cases h) h hrep
  | true =>
   simp only at hr
   split at hr
   ·rename_i hc
    simp only [oI] at hr
    subst hr
    simp only [bA] at hc
    exact a74 hmix hops hP (fun _ => hc) h hrep
   ·cases hr
 ·cases hr
def EndQ [Mode] (d : Bool) (base : Nat) (Q : VSt → Prop) (i : Nat) (tm : TmL) (hp : HpL) (log : List aK5) : Prop := (d = true → bE5 log = true) ∧ ∃ s1, Sub s1 ⟨tm, hp, base + 4 * i⟩ ∧ Q s1
theorem EndQ.look [Mode] {d : Bool} {base : Nat} {Q : VSt → Prop} (i : Nat) (tm tm' : TmL) (hp : HpL) (log : List aK5) (hl : look tm = look tm') (h : EndQ d base Q i tm' hp log) : EndQ d base Q i tm hp log := by
 obtain ⟨h1, s1, h2, h3⟩ := h
 exact ⟨h1, s1, h2.trans (cc9 hl), h3⟩
theorem be9 [Mode] {d : Bool} {base rid : Nat} {τ : Type} {K : VSt → Tr P τ → Obl} {Q0 : τ → Prop} {Q : VSt → Prop} (hK : ∀ st t', t'.Sat Q0 → (K st t').Ok → ∃ s1, Sub s1 st ∧ Q s1) :
  ∀ {ops : List VOper} {i : Nat} {tm : TmL} {hp : HpL} {log : List aK5} {t : Tr P τ}, t.Sat Q0 → (cc7 P d base rid i ops tm hp log t K).Ok → af5 P d base i ops tm hp log (EndQ d base Q) := by
 intro ops
 induction ops with
 | nil =>
  intro i tm hp log t hs h
  obtain ⟨h1, h2⟩ := bK7 h
  exact ⟨h1, hK _ _ hs h2⟩
 | cons vo rest ih => intro i tm hp log t hs h; exact aJ1 EndQ.look hs h fun tm hp log t' hs' h' => ih hs' h'
theorem bw9 [Mode] {d : Bool} {base rid : Nat} {τ : Type} {K : VSt → Tr P τ → Obl} {Q0 : τ → Prop} {Q : VSt → Prop} (hK : ∀ st t', t'.Sat Q0 → (K st t').Ok → Q st) :
  ∀ {ops : List VOper} {i : Nat} {tm : TmL} {hp : HpL} {log : List aK5} {t : Tr P τ}, t.Sat Q0 → (bm7 P d base rid i ops tm hp log t K).Ok → af5 P d base i ops tm hp log (EndQ d base Q) := by
 intro ops
 induction ops with
 | nil =>
  intro i tm hp log t hs h
  obtain ⟨h1, h2⟩ := bK7 h
  obtain ⟨s1, t1, q1, q2, q3⟩ := aq4 hs h2
  exact ⟨h1, s1, q1, hK _ _ q2 q3⟩
 | cons vo rest ih =>
  intro i tm hp log t hs h
  unfold bm7 at h
  split at h
  ·rename_i σ tg ks F t1 k
   split at h
   ·obtain ⟨h1, h2⟩ := h
    refine be9 (Q0 := fun x => (k x).Sat Q0) (Q := Q) (fun st t' hs' h' => ?_) (show t1.Sat _ from hs) h1
    obtain ⟨x, hx, hsub⟩ := be8 hs' h'
    exact ⟨_, hsub.trans (aT3 ks st), hK _ _ hx (h2 x)⟩
   ·exact aJ1 EndQ.look hs h fun tm hp log t' hs' h' => ih hs' h'
  ·rename_i σ tg ks F bd t2
   split at h
   ·obtain ⟨h1, h2⟩ := h
    refine be9 (Q0 := fun x => x = bd.val) (Q := Q) (fun st t' hs' h' => ?_) (BD.sat bd) h1
    obtain ⟨x, hx, hsub⟩ := be8 hs' h'
    subst hx
    exact ⟨_, hsub.trans (aT3 ks st), hK _ t2 (show t2.Sat Q0 from hs) h2⟩
   ·exact aJ1 EndQ.look hs h fun tm hp log t' hs' h' => ih hs' h'
  ·exact aJ1 EndQ.look hs h fun tm hp log t' hs' h' => ih hs' h'
theorem bK8 [Mode] (hP : w0.P = P) (hmix : P.follows .mixedOrders = true) : ∀ (c : Code) {τ : Type} {st : VSt} {t : Tr P τ} {κ : VExit → VSt → Tr P τ → Obl} {Q0 : τ → Prop} {Q : VExit → VSt → Prop}, t.Sat Q0 → (ck P N c st t κ).Ok →
  (∀ e st' t', t'.Sat Q0 → (κ e st' t').Ok → Q e st') → Sok P N w0 I0 c Q st := by
 intro c
 induction c with
 | skip =>
  intro τ st t κ Q0 Q hs h hκ
  obtain ⟨s1, t1, hsub, hs1, h⟩ := aq4 hs h
  exact (Sok.skip (hκ _ _ _ hs1 h)).sub hsub
 | exit i =>
  intro τ st t κ Q0 Q hs h hκ
  obtain ⟨s1, t1, hsub, hs1, h⟩ := aq4 hs h
  exact (Sok.exit (hκ _ _ _ hs1 h)).sub hsub
 | ret => intro τ st t κ Q0 Q hs h hκ; exact .ret (hκ _ _ _ hs h)
 | region id ops draw =>
  intro τ st t κ Q0 Q hs h hκ
  unfold ck at h
  have hs1 := hs
  split at h
  ·rename_i r hr
   have := bw9 (Q := Q .normal) (fun st' t' hs' h' => hκ _ _ _ hs' h') hs1 h
   have hreg : Sok P N w0 I0 (.region id ops draw) (fun e st => ∃ s1, Sub s1 st ∧ (∀ i, e ≠ .exit i) ∧ e ≠ .ret ∧ Q .normal s1) st := bR7 hP hmix hr (bR6 this fun i tm hp log ⟨q1, s2, q2, q3⟩ => ⟨q1, s2, q2, (fun i hh => VExit.noConfusion hh), (fun hh => VExit.noConfusion hh), q3⟩)
   refine hreg.mono fun e st ⟨s2, h1, h2, h3, h4⟩ => ⟨s2, h1, ?_⟩
   cases e with
   | normal => exact h4
   | exit i => exact (h2 i rfl).elim
   | ret => exact (h3 rfl).elim
  ·exact h.elim
 | seq a b iha ihb =>
  intro τ st t κ Q0 Q hs h hκ
  unfold ck at h
  have hs1 := hs
  split at h
  ·rename_i σ St t2 k
   obtain ⟨h1, h2⟩ := h
   refine Sok.seq (Q1 := fun e st' => match e with | .normal => ∃ x, (k x).Sat Q0 ∧ Sub (St x) st' | e => Q e st') ?_ ?_ (fun i st' h => h) (fun st' h => h)
   ·refine iha (Q0 := Step.el (fun s => (k s).Sat Q0) Q0) (show t2.Sat _ from hs1) h1 fun e st' t' hs' h' => ?_
    cases e with
    | normal =>
     obtain ⟨x, hx, he⟩ := a81 hs' h'
     exact ⟨x, hx, he⟩
    | exit i => exact hκ _ _ _ (Step.out_sat hs') h'
    | ret => exact hκ _ _ _ (Step.out_sat hs') h'
   ·rintro st' ⟨x, hx, hsub2⟩
    exact (ihb hx (h2 x) hκ).sub hsub2
  ·refine Sok.seq (Q1 := fun e st' => match e with | .normal => Sok P N w0 I0 b Q st' | e => Q e st') ?_ (fun st' h => h) (fun i st' h => h) (fun st' h => h)
   refine iha hs1 h fun e st' t' hs' h' => ?_
   cases e with
   | normal => exact ihb hs' h' hκ
   | exit i => exact hκ _ _ _ hs' h'
   | ret => exact hκ _ _ _ hs' h'
 | cond x a b iha ihb =>
  intro τ st t κ Q0 Q hs h hκ
  unfold ck at h
  have hs1 := hs
  split at h
  ·rename_i v hv
   split at h
   ·rename_i c ta tb
    obtain ⟨h0, h1, h2⟩ := h
    exact Sok.cond hv h0 (fun hc => iha (hs1.1 hc) (h1 hc) hκ) (fun hc => ihb (hs1.2 hc) (h2 hc) hκ)
   ·rename_i c v' hc t
    obtain ⟨h0, h1⟩ := h
    subst hc
    refine Sok.cond hv h0 (fun hc => ?_) (fun hc => ?_)
    ·subst hc; exact iha (show t.Sat Q0 from hs1) h1 hκ
    ·subst hc; exact ihb (show t.Sat Q0 from hs1) h1 hκ
   ·exact hs1.elim
   ·exact h.elim
  ·exact h.elim
 | block id c ih =>
  intro τ st t κ Q0 Q hs h hκ
  unfold ck at h
  refine Sok.block (Q1 := fun e st' => match e with | .exit i => if i = id then Q .normal st' else Q (.exit i) st' | e => Q e st') ?_ (fun st' h => h) (fun i st' h => h) (fun st' h => h)
  refine ih hs h fun e st' t' hs' h' => ?_
  cases e with
  | normal => exact hκ _ _ _ hs' h'
  | ret => exact hκ _ _ _ hs' h'
  | exit i =>
   simp only at h' ⊢
   split at h'
   ·rename_i hb
    rw [iP (cc8 hb)]
    exact hκ _ _ _ hs' h'
   ·rename_i hb
    rw [iN (fun hi => by subst hi; rw [Nat.beq_refl] at hb; cases hb)]
    exact hκ _ _ _ hs' h'
 | loop c ih =>
  intro τ st t κ Q0 Q hs h hκ
  unfold ck at h
  obtain ⟨s1, t1, hsub, hs1, h⟩ := aq4 hs h
  refine Sok.sub ?_ hsub
  split at h
  ·rename_i σ s0 St body
   obtain ⟨h0, h1⟩ := h
   obtain ⟨I, hI0, hI⟩ := hs1
   have h0 : s1 = St s1 s0 := h0
   refine Sok.loop (fun n st' => ∃ s, I n s ∧ st' = St s1 s) ?_ (Q1 := fun n e st' => match e with | .normal => ∃ m s2, m < n ∧ Sub s2 st' ∧ ∃ s, I m s ∧ s2 = St s1 s | e => Q e st') ?_ (fun n st' h => h) (fun n i st' h => h) (fun n st' h => h)
   ·obtain ⟨n, hn⟩ := hI0
    exact ⟨n, _, by rw [← h0]; exact Sub.refl _, s0, hn, rfl⟩
   ·rintro n st' ⟨s, hs', rfl⟩
    have hb := hI n s hs'
    refine ih hb (h1 s) fun e st2 t2 hs2 h2 => ?_
    have out : (t2.bnd (Step.out fun s' => .loop s' St body)).Sat Q0 := by
     refine Step.out_sat (hs2.mono fun v hv => ?_)
     cases v with
     | cont s' =>
      obtain ⟨m, _, hm⟩ := hv
      exact ⟨I, ⟨m, hm⟩, hI⟩
     | done v => exact hv
    cases e with
    | normal =>
     obtain ⟨x, ⟨m, hm, hx⟩, he⟩ := a81 hs2 h2
     exact ⟨m, _, hm, he, x, hx, rfl⟩
    | exit i => exact hκ _ _ _ out h2
    | ret => exact hκ _ _ _ out h2
  ·exact h.elim
 | _ => intro τ st t κ Q0 Q hs h hκ; exact h.elim
end
end Go.Vm
