import Derived.Test.YtchaaedlfibdoaaGreatDoorVmX
namespace Go.Vm
inductive Obl : Type 1 where
 | tt
 | bad
 | and (a b : Obl)
 | eq {α : Type} (a b : α)
 | allT {σ : Type} (f : σ → Obl)
 | allP {p : Prop} (f : p → Obl)
def Obl.Ok : Obl → Prop
 | .tt => True
 | .bad => False
 | .and a b => a.Ok ∧ b.Ok
 | .eq a b => a = b
 | .allT f => ∀ x, (f x).Ok
 | .allP f => ∀ h, (f h).Ok
def Obl.R : Obl → Obl
 | .tt => .tt
 | .bad => .tt
 | .and a b => .and a.R b.R
 | .eq _ b => .eq b b
 | .allT f => .allT fun x => (f x).R
 | .allP f => .allP fun h => (f h).R
theorem Obl.ok : ∀ (o : Obl), o = o.R → o.Ok
 | .tt, _ => trivial
 | .bad, h => by cases h
 | .and a b, h => by
  simp only [Obl.R, Obl.and.injEq] at h
  exact ⟨Obl.ok a h.1, Obl.ok b h.2⟩
 | .eq a b, h => by
  simp only [Obl.R, Obl.eq.injEq, heq_eq_eq, true_and] at h
  exact h.1
 | .allT f, h => fun x => by
  simp only [Obl.R, Obl.allT.injEq, heq_eq_eq, true_and] at h
  exact Obl.ok (f x) (congrFun h x)
 | .allP f, h => fun x => by
  simp only [Obl.R, Obl.allP.injEq, heq_eq_eq, true_and] at h
  exact Obl.ok (f x) (congrFun h x)
inductive BD [Mode] (σ : Type) : Type where
 | leaf (x : σ)
 | node (tag g : Nat) (c : Bool) (a b : BD σ)
 | op (tag : Nat) (m : XM) (obs : List Prop) (pf : Holds obs) (t : BD σ)
 | rw (tag : Nat) (h h' : HV) (pf : h = h') (t : BD σ)
 | wk (st st2 : VSt) (h : Sub st2 st) (t : BD σ)
def BD.val [Mode] {σ : Type} : BD σ → σ
 | .leaf x => x
 | .node _ _ c a b => cond c a.val b.val
 | .op _ _ _ _ t => t.val
 | .rw _ _ _ _ t => t.val
 | .wk _ _ _ t => t.val
inductive Tr [Mode] (P : Program) : Type → Type 1 where
 | ret {τ : Type} (v : τ) : Tr P τ
 | ite {τ : Type} (c : Bool) (a : c = true → Tr P τ) (b : c = false → Tr P τ) : Tr P τ
 | ct {τ : Type} (c v : Bool) (h : c = v) (t : Tr P τ) : Tr P τ
 | spl {τ : Type} (tag g : Nat) (c : Bool) (a : c = true → Tr P τ) (b : c = false → Tr P τ) : Tr P τ
 | cs {τ : Type} (tag : Nat) (c : Bool) (a : c = true → Tr P τ) (b : c = false → Tr P τ) : Tr P τ
 | kg {τ : Type} (tag g : Nat) (c v : Bool) (h : c = v) (t : Tr P τ) : Tr P τ
 | bi {σ τ : Type} (tag : Nat) (o : Option σ) (m : σ → XM) (obs : σ → List Prop) (pf : ∀ x, o = some x → Holds (obs x)) (k : (x : σ) → o = some x → Tr P τ) : Tr P τ
 | op {τ : Type} (tag : Nat) (m : XM) (obs : List Prop) (pf : Holds obs) (t : Tr P τ) : Tr P τ
 | rw {τ : Type} (tag : Nat) (h h' : HV) (pf : h = h') (t : Tr P τ) : Tr P τ
 | kp {τ : Type} (tag : Nat) (ks : List Nat) (t : Tr P τ) : Tr P τ
 | wk {τ : Type} (st st2 : VSt) (h : Sub st2 st) (t : Tr P τ) : Tr P τ
 | loop {σ τ : Type} (s0 : σ) (St : VSt → σ → VSt) (body : σ → Tr P (Step σ τ)) : Tr P τ
 | jn {σ τ : Type} (St : σ → VSt) (t : Tr P (Step σ τ)) (k : σ → Tr P τ) : Tr P τ
 | jr {σ τ : Type} (tag : Nat) (ks : List Nat) (F : VSt → σ → VSt) (t : Tr P σ) (k : σ → Tr P τ) : Tr P τ
 | jp {σ τ : Type} (tag : Nat) (ks : List Nat) (F : VSt → σ → VSt) (bd : BD σ) (t : Tr P τ) : Tr P τ
 | fin {τ : Type} (p : PV) (obs : List Prop) (pf : Holds obs) (q : PV) (hl : Le p q) (t : Tr P τ) : Tr P τ
 | dead {τ : Type} : Tr P τ
def BD.emb [Mode] {P : Program} {σ : Type} : BD σ → Tr P σ
 | .leaf x => .ret x
 | .node tag g c a b => .spl tag g c (fun _ => a.emb) (fun _ => b.emb)
 | .op tag m obs pf t => .op tag m obs pf t.emb
 | .rw tag h h' pf t => .rw tag h h' pf t.emb
 | .wk st st2 h t => .wk st st2 h t.emb
def Step.mp {σ ρ τ : Type} (f : ρ → τ) : Step σ ρ → Step σ τ
 | .cont s => .cont s
 | .done v => .done (f v)
def Step.el {σ ρ : Type} (C : σ → Prop) (D : ρ → Prop) : Step σ ρ → Prop
 | .cont s => C s
 | .done v => D v
def Tr.map [Mode] {P : Program} : {σ : Type} → Tr P σ → {τ : Type} → (σ → τ) → Tr P τ
 | _, .ret v, _, f => .ret (f v)
 | _, .ite c a b, _, f => .ite c (fun h => (a h).map f) (fun h => (b h).map f)
 | _, .ct c v h t, _, f => .ct c v h (t.map f)
 | _, .spl tag g c a b, _, f => .spl tag g c (fun h => (a h).map f) (fun h => (b h).map f)
 | _, .cs tag c a b, _, f => .cs tag c (fun h => (a h).map f) (fun h => (b h).map f)
 | _, .kg tag g c v h t, _, f => .kg tag g c v h (t.map f)
 | _, .bi tag o m obs pf k, _, f => .bi tag o m obs pf fun x h => (k x h).map f
 | _, .op tag m obs pf t, _, f => .op tag m obs pf (t.map f)
 | _, .rw tag h h' pf t, _, f => .rw tag h h' pf (t.map f)
 | _, .kp tag ks t, _, f => .kp tag ks (t.map f)
 | _, .wk st st2 h t, _, f => .wk st st2 h (t.map f)
 | _, .loop s0 St body, _, f => .loop s0 St fun s => (body s).map (Step.mp f)
 | _, .jn St t k, _, f => .jn St (t.map (Step.mp f)) fun s => (k s).map f
 | _, .jr tag ks F t k, _, f => .jr tag ks F t fun s => (k s).map f
 | _, .jp tag ks F bd t, _, f => .jp tag ks F bd (t.map f)
 | _, .fin p obs pf q hl t, _, f => .fin p obs pf q hl (t.map f)
 | _, .dead, _, _ => .dead
def Tr.bnd [Mode] {P : Program} : {σ : Type} → Tr P σ → {τ : Type} → (σ → Tr P τ) → Tr P τ
 | _, .ret v, _, f => f v
 | _, .ite c a b, _, f => .ite c (fun h => (a h).bnd f) (fun h => (b h).bnd f)
 | _, .ct c v h t, _, f => .ct c v h (t.bnd f)
 | _, .spl tag g c a b, _, f => .spl tag g c (fun h => (a h).bnd f) (fun h => (b h).bnd f)
 | _, .cs tag c a b, _, f => .cs tag c (fun h => (a h).bnd f) (fun h => (b h).bnd f)
 | _, .kg tag g c v h t, _, f => .kg tag g c v h (t.bnd f)
 | _, .bi tag o m obs pf k, _, f => .bi tag o m obs pf fun x h => (k x h).bnd f
 | _, .op tag m obs pf t, _, f => .op tag m obs pf (t.bnd f)
 | _, .rw tag h h' pf t, _, f => .rw tag h h' pf (t.bnd f)
 | _, .kp tag ks t, _, f => .kp tag ks (t.bnd f)
 | _, .wk st st2 h t, _, f => .wk st st2 h (t.bnd f)
 | _, .loop s0 St body, _, f => .loop s0 St fun s => (body s).bnd fun
  | .cont s' => .ret (.cont s')
  | .done v => (f v).map .done
 | _, .jn St t k, _, f => .jn St (t.bnd fun
  | .cont s' => .ret (.cont s')
  | .done v => (f v).map .done) fun s => (k s).bnd f
 | _, .jr tag ks F t k, _, f => .jr tag ks F t fun s => (k s).bnd f
 | _, .jp tag ks F bd t, _, f => .jp tag ks F bd (t.bnd f)
 | _, .fin p obs pf q hl t, _, f => .fin p obs pf q hl (t.bnd f)
 | _, .dead, _, _ => .dead
def Tr.Sat [Mode] {P : Program} : {τ : Type} → Tr P τ → (τ → Prop) → Prop
 | _, .ret v, Q => Q v
 | _, .ite _ a b, Q => (∀ h, (a h).Sat Q) ∧ ∀ h, (b h).Sat Q
 | _, .ct _ _ _ t, Q => t.Sat Q
 | _, .spl _ _ _ a b, Q => (∀ h, (a h).Sat Q) ∧ ∀ h, (b h).Sat Q
 | _, .cs _ _ a b, Q => (∀ h, (a h).Sat Q) ∧ ∀ h, (b h).Sat Q
 | _, .kg _ _ _ _ _ t, Q => t.Sat Q
 | _, .bi _ _ _ _ _ k, Q => ∃ x h, (k x h).Sat Q
 | _, .op _ _ _ _ t, Q => t.Sat Q
 | _, .rw _ _ _ _ t, Q => t.Sat Q
 | _, .kp _ _ t, Q => t.Sat Q
 | _, .wk _ _ _ t, Q => t.Sat Q
 | _, .loop s0 _ body, Q => ∃ I : Nat → _ → Prop, (∃ n, I n s0) ∧ ∀ n s, I n s → (body s).Sat (Step.el (fun s' => ∃ m, m < n ∧ I m s') Q)
 | _, .jn _ t k, Q => t.Sat (Step.el (fun s => (k s).Sat Q) Q)
 | _, .jr _ _ _ t k, Q => t.Sat fun s => (k s).Sat Q
 | _, .jp _ _ _ _ t, Q => t.Sat Q
 | _, .fin _ _ _ _ _ t, Q => t.Sat Q
 | _, .dead, _ => False
theorem Tr.Sat.mono [Mode] {P : Program} : ∀ {τ : Type} {t : Tr P τ} {Q Q' : τ → Prop}, t.Sat Q → (∀ v, Q v → Q' v) → t.Sat Q' := by
 intro τ t
 induction t with
 | ret v => intro Q Q' h hq; exact hq v h
 | ite c a b ha hb => intro Q Q' h hq; exact ⟨fun x => ha x (h.1 x) hq, fun x => hb x (h.2 x) hq⟩
 | ct c v h t ih => intro Q Q' h hq; exact ih h hq
 | spl tag g c a b ha hb => intro Q Q' h hq; exact ⟨fun x => ha x (h.1 x) hq, fun x => hb x (h.2 x) hq⟩
 | cs tag c a b ha hb => intro Q Q' h hq; exact ⟨fun x => ha x (h.1 x) hq, fun x => hb x (h.2 x) hq⟩
 | kg tag g c v h t ih => intro Q Q' h hq; exact ih h hq
 | bi tag o m obs pf k ih => intro Q Q' h hq; obtain ⟨x, hx, h⟩ := h; exact ⟨x, hx, ih x hx h hq⟩
 | op tag m obs pf t ih => intro Q Q' h hq; exact ih h hq
 | rw tag h h' pf t ih => intro Q Q' h hq; exact ih h hq
 | kp tag ks t ih => intro Q Q' h hq; exact ih h hq
 | wk st st2 h t ih => intro Q Q' h hq; exact ih h hq
 | loop s0 St body ih =>
  intro Q Q' h hq
  obtain ⟨I, h0, h1⟩ := h
  refine ⟨I, h0, fun n s hs => ih s (h1 n s hs) fun v hv => ?_⟩
  cases v with
  | cont s' => exact hv
  | done v => exact hq _ hv
 | jn St t k iht ihk =>
  intro Q Q' h hq
  refine iht (Q := Step.el (fun s => (k s).Sat Q) Q) h fun v hv => ?_
  cases v with
  | cont s => exact ihk s hv hq
  | done v => exact hq _ hv
 | jr tag ks F t k iht ihk => intro Q Q' h hq; exact iht (Q := fun s => (k s).Sat Q) h fun v hv => ihk v hv hq
 | jp tag ks F bd t ih => intro Q Q' h hq; exact ih h hq
 | fin p obs pf q hl t ih => intro Q Q' h hq; exact ih h hq
 | dead => intro Q Q' h hq; exact h
theorem Tr.Sat.map [Mode] {P : Program} : ∀ {σ : Type} {t : Tr P σ} {τ : Type} {f : σ → τ} {Q : τ → Prop}, t.Sat (fun v => Q (f v)) → (t.map f).Sat Q := by
 intro σ t
 induction t with
 | ret v => intro τ f Q h; exact h
 | ite c a b ha hb => intro τ f Q h; exact ⟨fun x => ha x (f := f) (h.1 x), fun x => hb x (f := f) (h.2 x)⟩
 | ct c v h t ih => intro τ f Q h; exact ih (f := f) h
 | spl tag g c a b ha hb => intro τ f Q h; exact ⟨fun x => ha x (f := f) (h.1 x), fun x => hb x (f := f) (h.2 x)⟩
 | cs tag c a b ha hb => intro τ f Q h; exact ⟨fun x => ha x (f := f) (h.1 x), fun x => hb x (f := f) (h.2 x)⟩
 | kg tag g c v h t ih => intro τ f Q h; exact ih (f := f) h
 | bi tag o m obs pf k ih => intro τ f Q h; obtain ⟨x, hx, h⟩ := h; exact ⟨x, hx, ih x hx (f := f) h⟩
 | op tag m obs pf t ih => intro τ f Q h; exact ih (f := f) h
 | rw tag h h' pf t ih => intro τ f Q h; exact ih (f := f) h
 | kp tag ks t ih => intro τ f Q h; exact ih (f := f) h
 | wk st st2 h t ih => intro τ f Q h; exact ih (f := f) h
 | loop s0 St body ih =>
  intro τ f Q h
  obtain ⟨I, h0, h1⟩ := h
  refine ⟨I, h0, fun n s hs => ih s ((h1 n s hs).mono fun v hv => ?_)⟩
  cases v with
  | cont s' => exact hv
  | done v => exact hv
 | jn St t k iht ihk =>
  intro τ f Q h
  refine iht (Tr.Sat.mono (Q := Step.el (fun s => (k s).Sat fun v => Q (f v)) fun v => Q (f v)) h fun v hv => ?_)
  cases v with
  | cont s => exact ihk s hv
  | done v => exact hv
 | jr tag ks F t k iht ihk => intro τ f Q h; exact Tr.Sat.mono (t := t) (Q := fun s => (k s).Sat fun v => Q (f v)) h fun v hv => ihk v (f := f) hv
 | jp tag ks F bd t ih => intro τ f Q h; exact ih (f := f) h
 | fin p obs pf q hl t ih => intro τ f Q h; exact ih (f := f) h
 | dead => intro τ f Q h; exact h
theorem Tr.Sat.bnd [Mode] {P : Program} : ∀ {σ : Type} {t : Tr P σ} {τ : Type} {f : σ → Tr P τ} {Q : τ → Prop}, t.Sat (fun v => (f v).Sat Q) → (t.bnd f).Sat Q := by
 intro σ t
 induction t with
 | ret v => intro τ f Q h; exact h
 | ite c a b ha hb => intro τ f Q h; exact ⟨fun x => ha x (f := f) (h.1 x), fun x => hb x (f := f) (h.2 x)⟩
 | ct c v h t ih => intro τ f Q h; exact ih (f := f) h
 | spl tag g c a b ha hb => intro τ f Q h; exact ⟨fun x => ha x (f := f) (h.1 x), fun x => hb x (f := f) (h.2 x)⟩
 | cs tag c a b ha hb => intro τ f Q h; exact ⟨fun x => ha x (f := f) (h.1 x), fun x => hb x (f := f) (h.2 x)⟩
 | kg tag g c v h t ih => intro τ f Q h; exact ih (f := f) h
 | bi tag o m obs pf k ih => intro τ f Q h; obtain ⟨x, hx, h⟩ := h; exact ⟨x, hx, ih x hx (f := f) h⟩
 | op tag m obs pf t ih => intro τ f Q h; exact ih (f := f) h
 | rw tag h h' pf t ih => intro τ f Q h; exact ih (f := f) h
 | kp tag ks t ih => intro τ f Q h; exact ih (f := f) h
 | wk st st2 h t ih => intro τ f Q h; exact ih (f := f) h
 | loop s0 St body ih =>
  intro τ f Q h
  obtain ⟨I, h0, h1⟩ := h
  refine ⟨I, h0, fun n s hs => ih s ((h1 n s hs).mono fun v hv => ?_)⟩
  cases v with
  | cont s' => exact hv
  | done v => exact Tr.Sat.map hv
 | jn St t k iht ihk =>
  intro τ f Q h
  refine iht (Tr.Sat.mono (Q := Step.el (fun s => (k s).Sat fun v => (f v).Sat Q) fun v => (f v).Sat Q) h fun v hv => ?_)
  cases v with
  | cont s => exact ihk s hv
  | done v => exact Tr.Sat.map hv
 | jr tag ks F t k iht ihk => intro τ f Q h; exact Tr.Sat.mono (t := t) (Q := fun s => (k s).Sat fun v => (f v).Sat Q) h fun v hv => ihk v (f := f) hv
 | jp tag ks F bd t ih => intro τ f Q h; exact ih (f := f) h
 | fin p obs pf q hl t ih => intro τ f Q h; exact ih (f := f) h
 | dead => intro τ f Q h; exact h
theorem BD.sat [Mode] {P : Program} {σ : Type} : ∀ (t : BD σ), (t.emb : Tr P σ).Sat (fun x => x = t.val)
 | .leaf x => show x = x from rfl
 | .node tag g c a b => ⟨fun h => by subst h; exact BD.sat a, fun h => by subst h; exact BD.sat b⟩
 | .op _ _ _ _ t => BD.sat t
 | .rw _ _ _ _ t => BD.sat t
 | .wk _ _ _ t => BD.sat t
end Go.Vm
