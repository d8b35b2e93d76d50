import Derived.Test.YteejnomnholelaaGreatDoorVmT
namespace Go.Vm
set_option autoImplicit false
set_option linter.unusedVariables false
section
variable (P : Program)
abbrev TmL := List (Nat × HV)
abbrev HpL := List (Nat × Option Row)
def aX1 [Mode] {τ : Type} (op : VOp) (id0 : Nat) (get : Nat → Option HV) (row : Nat → Option Row) (t : Tr P τ) (K : HV → Upd → Tr P τ → Obl) : Obl :=
 match bn6 P op .e id0 get row with
 | some (v, u, []) => K v u t
 | _ => .bad
def ckOp [Mode] {τ : Type} (op : VOp) (id0 tag : Nat) (get : Nat → Option HV) (row : Nat → Option Row) (t : Tr P τ) (K : HV → Upd → Tr P τ → Obl) : Obl :=
 match t with
 | .bi tg o m obs pf k => match Nat.beq tg tag with
  | true => .allT fun x => .allP fun h => match bn6 P op (m x) id0 get row with
   | some (v, u, obs') => .and (.eq obs' (obs x)) (K v u (k x h))
   | none => .bad
  | false => aX1 P op id0 get row (.bi tg o m obs pf k) K
 | .op tg m obs pf t => match Nat.beq tg tag with
  | true => match bn6 P op m id0 get row with
   | some (v, u, obs') => .and (.eq obs' obs) (K v u t)
   | none => .bad
  | false => aX1 P op id0 get row (.op tg m obs pf t) K
 | .rw tg h h' pf t => match Nat.beq tg tag with
  | true => match bn6 P op .e id0 get row with
   | some (v, u, []) => .and (.eq v h) (K h' u t)
   | _ => .bad
  | false => aX1 P op id0 get row (.rw tg h h' pf t) K
 | t => aX1 P op id0 get row t K
def cb7 (b want : Bool) : Bool := match b with
 | true => want
 | false => match want with
  | true => false
  | false => true
def ckG [Mode] (d : Bool) (base rid i : Nat) (vo : VOper) (same : Bool) (tm : TmL) (hp : HpL) (log : List aF7) {τ : Type} (t : Tr P τ) (K : TmL → HpL → List aF7 → Tr P τ → Obl) : Obl :=
 match same with
 | true => ckOp P vo.op (base + 4 * i) (rid * 1000 + i) (look tm) (ad9 hp) t fun v u t => K (ba3 tm vo.dst v) (u ++ hp) (az7 d log (am2 vo.op (look tm), u.map (·.1), vo.bs)) t
 | false => K (ba3 tm vo.dst .undef) hp (az7 d log ([], [], vo.bs)) t
def aP2 [Mode] (tag : Nat) {τ : Type} : Tr P τ → TmL → (TmL → Tr P τ → Obl) → Obl
 | .spl tg g c a b, tm, K => match Nat.beq tg tag with
  | true => .and (.eq (look tm g) (some (.pv (.bool c)))) (.and (.allP fun h => aP2 tag (a h) ((g, .pv (.bool true)) :: tm) K) (.allP fun h => aP2 tag (b h) ((g, .pv (.bool false)) :: tm) K))
  | false => K tm (.spl tg g c a b)
 | .cs tg c a b, tm, K => match Nat.beq tg tag with
  | true => .and (.allP fun h => aP2 tag (a h) tm K) (.allP fun h => aP2 tag (b h) tm K)
  | false => K tm (.cs tg c a b)
 | .kg tg g c v h t, tm, K => match Nat.beq tg tag with
  | true => .and (.eq (look tm g) (some (.pv (.bool c)))) (aP2 tag t ((g, .pv (.bool v)) :: tm) K)
  | false => K tm (.kg tg g c v h t)
 | .dead, _, _ => .tt
 | t, tm, K => K tm t
def cg4 (d : Bool) (log : List aF7) : Bool := match d with
 | true => bu8 log
 | false => true
def b02 [Mode] (d : Bool) (base i : Nat) (tm : TmL) (hp : HpL) (log : List aF7) {τ : Type} (t : Tr P τ) (K : VSt → Tr P τ → Obl) : Obl := match cg4 d log with
 | true => K ⟨tm, hp, base + 4 * i⟩ t
 | false => .bad
def be1 [Mode] (d : Bool) (base rid i : Nat) (vo : VOper) (tm : TmL) (hp : HpL) (log : List aF7) {τ : Type} (t : Tr P τ) (K : TmL → HpL → List aF7 → Tr P τ → Obl) : Obl := aP2 P (rid * 1000 + i) t tm fun tm t =>
 match vo.guard with
 | none => ckG P d base rid i vo true tm hp log t K
 | some (g, want) => match look tm g with
  | some (.pv (.bool b)) => ckG P d base rid i vo (cb7 b want) tm hp log t K
  | some .undef => ckG P d base rid i vo false tm hp log t K
  | _ => .bad
def b03 [Mode] (d : Bool) (base rid : Nat) {τ : Type} : Nat → List VOper → TmL → HpL → List aF7 → Tr P τ → (VSt → Tr P τ → Obl) → Obl
 | i, [], tm, hp, log, t, K => b02 P d base i tm hp log t K
 | i, vo :: rest, tm, hp, log, t, K => be1 P d base rid i vo tm hp log t fun tm hp log t => b03 d base rid (i + 1) rest tm hp log t K
def ckWh [Mode] {τ : Type} (t : Tr P τ) (st : VSt) (K : VSt → Tr P τ → Obl) : Obl := match t with
 | .wk s1 s2 h t => .and (.eq st s1) (K s2 t)
 | .dead => .tt
 | _ => .bad
def ckW [Mode] {τ : Type} (t : Tr P τ) (st : VSt) (K : VSt → Tr P τ → Obl) : Obl := match t with
 | .wk s1 s2 h t => .and (.eq st s1) (K s2 t)
 | .cs tg c a b => match Nat.beq tg 999999999 with
  | true => .and (.allP fun h => ckWh P (a h) st K) (.allP fun h => ckWh P (b h) st K)
  | false => K st (.cs tg c a b)
 | t => K st t
def aI2 [Mode] (tag : Nat) {τ : Type} (t : Tr P τ) (st : VSt) (K : VSt → Tr P τ → Obl) : Obl := match t with
 | .kp tg ks t => match Nat.beq tg tag with
  | true => ckW P t (aJ4 ks st) K
  | false => K st (.kp tg ks t)
 | .dead => .tt
 | t => K st t
def cb8 [Mode] {σ : Type} (F : σ → VSt) (st : VSt) (t : Tr P σ) : Obl := ckW P t st fun st t => match t with
 | .ret x => .eq st (F x)
 | _ => .bad
def bP4 [Mode] {σ τ : Type} (F : σ → VSt) (st : VSt) (t : Tr P (Step σ τ)) : Obl := aI2 P 1 t st fun st t => match t with
 | .ret (.cont x) => .eq st (F x)
 | _ => .bad
def be2 [Mode] (d : Bool) (base rid : Nat) {τ : Type} : Nat → List VOper → TmL → HpL → List aF7 → Tr P τ → (VSt → Tr P τ → Obl) → Obl
 | i, [], tm, hp, log, t, K => b02 P d base i tm hp log t fun st t => aI2 P (rid + 2) t st K
 | i, vo :: rest, tm, hp, log, t, K => match t with
  | .jr tg ks F t1 k => match Nat.beq tg (rid * 1000 + i) with
   | true => .and (b03 P d base rid i (vo :: rest) tm hp log t1 fun st t => cb8 P (F ⟨tm, hp, base⟩) (aJ4 ks st) t) (.allT fun x => K (F ⟨tm, hp, base⟩ x) (k x))
   | false => be1 P d base rid i vo tm hp log (.jr tg ks F t1 k) fun tm hp log t => be2 d base rid (i + 1) rest tm hp log t K
  | .jp tg ks F bd t2 => match Nat.beq tg (rid * 1000 + i) with
   | true => .and (b03 P d base rid i (vo :: rest) tm hp log bd.emb fun st t => cb8 P (F ⟨tm, hp, base⟩) (aJ4 ks st) t) (K (F ⟨tm, hp, base⟩ bd.val) t2)
   | false => be1 P d base rid i vo tm hp log (.jp tg ks F bd t2) fun tm hp log t => be2 d base rid (i + 1) rest tm hp log t K
  | t => be1 P d base rid i vo tm hp log t fun tm hp log t => be2 d base rid (i + 1) rest tm hp log t K
def bz7 (acc : List Nat) : List Edge → Nat → Nat
 | [], m => m
 | e :: es, m => bz7 acc es (match Region.binds .any e with
  | true => Nat.lor m (Nat.lor (Nat.shiftLeft 1 e.on) (acc.getD e.on 0))
  | false => m)
def cg5 (i m : Nat) : List Nat := (List.range i).filter fun j => Nat.beq (Nat.mod (Nat.shiftRight m j) 2) 1
def b68 : Op → Bool
 | .lookup _ _ _ _ => true
 | .mapEntry _ _ _ => true
 | _ => false
def tolOf [Mode] (all : List Oper) (i : Nat) (o : Oper) : List Nat := match b68 o.op with
 | true => (List.range i).filter fun j => match all[j]? with
  | some p => (match b68 p.op with
   | true => (match bb3 P o.op, bb3 P p.op with | some a, some b => bL1 a b | _, _ => false)
   | false => false)
  | none => false
 | false => []
def bP5 [Mode] (d : Bool) (all : List Oper) : Nat → List Oper → List Nat → List VOper
  | _, [], _ => []
  | i, o :: os, acc =>
    let m := match d with
      | true => bz7 acc o.after.toList 0
      | false => 0
    { dst := none, op := (match bb3 P o.op with
      | some _ => .mov (.t 0)
      | none => .bad), bef := (match d with
      | true => cg5 i m
      | false => []), tol := (match d with
      | true => tolOf P all i o
      | false => []) } :: bP5 d all (i + 1) os (acc ++ [m])
def bv2 [Mode] (N : Nat) (ops : Array Oper) (draw : Bool) : Option (List VOper) :=
 match aQ3 P N ops ops.toList (bP5 P draw ops.toList 0 ops.toList []) with
 | some r => match draw with
  | true => match bN8 ops r && (bN6 r && noAB r) with
   | true => some r
   | false => none
  | false => some r
 | none => none
def Step.out [Mode] {P : Program} {σ τ : Type} (k : σ → Tr P τ) : Step σ τ → Tr P τ
 | .cont s => k s
 | .done v => .ret v
def ck [Mode] (N : Nat) : Code → {τ : Type} → VSt → Tr P τ → (VExit → VSt → Tr P τ → Obl) → Obl
 | .skip, _, st, t, κ => aI2 P 0 t st (κ .normal)
 | .region id ops draw, _, st, t, κ => match bv2 P N ops draw with
  | some r => be2 P draw st.nx id 0 r st.tm st.hp [] t (κ .normal)
  | none => .bad
 | .seq a b, _, st, t, κ => match t with
  | .jn St t1 k => .and (ck N a st t1 fun e st' t' => match e with
    | .normal => bP4 P St st' t'
    | .exit i => κ (.exit i) st' (t'.bnd (Step.out k))
    | .ret => κ .ret st' (t'.bnd (Step.out k))) (.allT fun s => ck N b (St s) (k s) κ)
  | t => ck N a st t fun e st' t' => match e with
    | .normal => ck N b st' t' κ
    | .exit i => κ (.exit i) st' t'
    | .ret => κ .ret st' t'
 | .cond x a b, _, st, t, κ => match opdOf x with
  | some v => match t with
   | .ite c ta tb => .and (.eq (v.get (look st.tm)) (some (.pv (.bool c)))) (.and (.allP fun h => ck N a st (ta h) κ) (.allP fun h => ck N b st (tb h) κ))
   | .ct c v' h t => .and (.eq (v.get (look st.tm)) (some (.pv (.bool c)))) (match v' with
    | true => ck N a st t κ
    | false => ck N b st t κ)
   | .dead => .tt
   | _ => .bad
  | none => .bad
 | .block id c, _, st, t, κ => ck N c st t fun e st' t' => match e with
  | .exit i => match Nat.beq i id with
   | true => κ .normal st' t'
   | false => κ (.exit i) st' t'
  | .normal => κ .normal st' t'
  | .ret => κ .ret st' t'
 | .loop c, _, st, t, κ => aI2 P 1 t st fun st t => match t with
  | .loop s0 St body => .and (.eq st (St st s0)) (.allT fun s => ck N c (St st s) (body s) fun e st' t' => match e with
   | .normal => bP4 P (St st) st' t'
   | .exit i => κ (.exit i) st' (t'.bnd (Step.out fun s' => .loop s' St body))
   | .ret => κ .ret st' (t'.bnd (Step.out fun s' => .loop s' St body)))
  | _ => .bad
 | .exit i, _, st, t, κ => aI2 P 0 t st (κ (.exit i))
 | .ret, _, st, t, κ => κ .ret st t
 | _, _, _, _, _ => .bad
end
theorem b04 {a b : Nat} (h : Nat.beq a b = true) : a = b := Nat.eq_of_beq_eq_true h
section
variable {P : Program}
theorem aA1 [Mode] {τ : Type} {op : VOp} {id0 : Nat} {get : Nat → Option HV} {row : Nat → Option Row} {t : Tr P τ} {K : HV → Upd → Tr P τ → Obl} {Q0 : τ → Prop} {K' : HV → Upd → Prop} (hs : t.Sat Q0) (h : (aX1 P op id0 get row t K).Ok)
  (hK : ∀ v u t', t'.Sat Q0 → (K v u t').Ok → K' v u) : OpWp P op id0 get row K' := by
 unfold aX1 at h
 split at h
 ·rename_i v u hx
  exact aI0 hx .nil (hK _ _ _ hs h)
 ·exact h.elim
theorem bG0 [Mode] {τ : Type} {op : VOp} {id0 tag : Nat} {get : Nat → Option HV} {row : Nat → Option Row} {t : Tr P τ} {K : HV → Upd → Tr P τ → Obl} {Q0 : τ → Prop} {K' : HV → Upd → Prop} (hs : t.Sat Q0) (h : (ckOp P op id0 tag get row t K).Ok)
  (hK : ∀ v u t', t'.Sat Q0 → (K v u t').Ok → K' v u) : OpWp P op id0 get row K' := by
 unfold ckOp at h
 split at h
 ·rename_i tg o m obs pf k
  split at h
  ·obtain ⟨x, hx, hs⟩ := hs
   have h := h x hx
   split at h
   ·rename_i v u obs' he
    obtain ⟨h1, h2⟩ := h
    have h1 : obs' = obs x := h1
    subst h1
    exact aI0 he (pf x hx) (hK _ _ _ hs h2)
   ·exact h.elim
  ·exact aA1 hs h hK
 ·rename_i tg m obs pf t
  split at h
  ·split at h
   ·rename_i v u obs' he
    obtain ⟨h1, h2⟩ := h
    have h1 : obs' = obs := h1
    subst h1
    exact aI0 he pf (hK _ _ t (show t.Sat Q0 from hs) h2)
   ·exact h.elim
  ·exact aA1 hs h hK
 ·rename_i tg a a' pf t
  split at h
  ·split at h
   ·rename_i v u he
    obtain ⟨h1, h2⟩ := h
    have h1 : v = a := h1
    subst h1
    subst pf
    exact aI0 he .nil (hK _ _ t (show t.Sat Q0 from hs) h2)
   ·exact h.elim
  ·exact aA1 hs h hK
 ·exact aA1 hs h hK
theorem a07 {tm tm' : TmL} (h : look tm = look tm') (dst : Option Nat) (v : HV) : look (ba3 tm dst v) = look (ba3 tm' dst v) := by
 cases dst with
 | none => exact h
 | some d =>
  funext s
  simp only [ba3, look]
  split
  ·rfl
  ·rw [h]
theorem OpWp.mono' [Mode] {op : VOp} {id0 : Nat} {get : Nat → Option HV} {row : ac6} {K K' : HV → Upd → Prop} (h : OpWp P op id0 get row K) (hk : ∀ h u, K h u → K' h u) : OpWp P op id0 get row K' := OpWp.mono hk h
theorem bP6 [Mode] {d : Bool} {base : Nat} : ∀ {ops : List VOper} {i : Nat} {tm tm' : TmL} {hp : HpL} {log : List aF7} {K K' : Nat → TmL → HpL → List aF7 → Prop}, look tm = look tm' →
  (∀ i tm tm' hp log, look tm = look tm' → K i tm' hp log → K' i tm hp log) → af1 P d base i ops tm' hp log K → af1 P d base i ops tm hp log K' := by
 intro ops
 induction ops with
 | nil => intro i tm tm' hp log K K' hl hk h; exact hk _ _ _ _ _ hl h
 | cons vo rest ih =>
  intro i tm tm' hp log K K' hl hk h
  unfold af1 at h ⊢
  rw [← hl] at h
  split
  ·rename_i hg
   rw [hg] at h
   simp only at h
   exact h.mono' fun v u hh => ih (a07 hl _ _) hk hh
  ·rename_i t want hg
   rw [hg] at h
   simp only at h
   split
   ·rename_i b hb
    rw [hb] at h
    simp only at h
    split
    ·rename_i hbw
     rw [if_pos hbw] at h
     exact h.mono' fun v u hh => ih (a07 hl _ _) hk hh
    ·rename_i hbw
     rw [if_neg hbw] at h
     exact ih (a07 hl _ _) hk h
   ·rename_i hb
    rw [hb] at h
    exact ih (a07 hl _ _) hk h
   ·rename_i h1 h2
    split at h
    ·rename_i b hb; exact (h1 b hb).elim
    ·rename_i hb; exact (h2 hb).elim
    ·exact h
def gWp [Mode] (P : Program) (d : Bool) (base i : Nat) (vo : VOper) (same : Bool) (tm : TmL) (hp : HpL) (log : List aF7) (K : TmL → HpL → List aF7 → Prop) : Prop :=
 match same with
 | true => OpWp P vo.op (base + 4 * i) (look tm) (ad9 hp) fun v u => K (ba3 tm vo.dst v) (u ++ hp) (az7 d log (am2 vo.op (look tm), u.map (·.1), vo.bs))
 | false => K (ba3 tm vo.dst .undef) hp (az7 d log ([], [], vo.bs))
theorem a59 [Mode] {d : Bool} {base rid i : Nat} {vo : VOper} {same : Bool} {tm : TmL} {hp : HpL} {log : List aF7} {τ : Type} {t : Tr P τ} {K : TmL → HpL → List aF7 → Tr P τ → Obl} {Q0 : τ → Prop} {K' : TmL → HpL → List aF7 → Prop}
  (hs : t.Sat Q0) (h : (ckG P d base rid i vo same tm hp log t K).Ok) (hK : ∀ tm hp log t', t'.Sat Q0 → (K tm hp log t').Ok → K' tm hp log) : gWp P d base i vo same tm hp log K' := by
 unfold ckG at h
 unfold gWp
 cases same with
 | true => exact bG0 hs h fun v u t' hs' h' => hK _ _ _ _ hs' h'
 | false => exact hK _ _ _ _ hs h
theorem bP7 [Mode] {d : Bool} {base i : Nat} {vo : VOper} {rest : List VOper} {tm : TmL} {hp : HpL} {log : List aF7} {K : Nat → TmL → HpL → List aF7 → Prop} (hg : vo.guard = none)
  (h : gWp P d base i vo true tm hp log fun tm hp log => af1 P d base (i + 1) rest tm hp log K) : af1 P d base i (vo :: rest) tm hp log K := by
 unfold af1
 rw [hg]
 exact h
theorem bP8 [Mode] {d : Bool} {base i g : Nat} {want b : Bool} {vo : VOper} {rest : List VOper} {tm : TmL} {hp : HpL} {log : List aF7} {K : Nat → TmL → HpL → List aF7 → Prop} (hg : vo.guard = some (g, want)) (hb : look tm g = some (.pv (.bool b)))
  (h : gWp P d base i vo (cb7 b want) tm hp log fun tm hp log => af1 P d base (i + 1) rest tm hp log K) : af1 P d base i (vo :: rest) tm hp log K := by
 unfold af1
 rw [hg]
 simp only [hb]
 cases b <;> cases want <;> simpa [cb7, gWp] using h
theorem a60 {tm : TmL} {g : Nat} {h : HV} (hg : look tm g = some h) : look tm = look ((g, h) :: tm) := by
 funext s
 simp only [look]
 split
 ·rename_i hs; subst hs; exact hg
 ·rfl
theorem bn8 [Mode] {tag : Nat} {τ : Type} {Q0 : τ → Prop} : ∀ {t : Tr P τ} {tm : TmL} {K : TmL → Tr P τ → Obl}, t.Sat Q0 → (aP2 P tag t tm K).Ok → ∃ tm' t', look tm = look tm' ∧ t'.Sat Q0 ∧ (K tm' t').Ok := by
 intro t
 induction t with
 | spl tg g c a b iha ihb =>
  intro tm K hs h
  unfold aP2 at h
  split at h
  ·obtain ⟨h1, h2, h3⟩ := h
   have h1 : look tm g = some (.pv (.bool c)) := h1
   cases c with
   | true =>
    obtain ⟨tm', t', q1, q2, q3⟩ := iha rfl (hs.1 rfl) (h2 rfl)
    exact ⟨tm', t', (a60 h1).trans q1, q2, q3⟩
   | false =>
    obtain ⟨tm', t', q1, q2, q3⟩ := ihb rfl (hs.2 rfl) (h3 rfl)
    exact ⟨tm', t', (a60 h1).trans q1, q2, q3⟩
  ·exact ⟨_, _, rfl, hs, h⟩
 | cs tg c a b iha ihb =>
  intro tm K hs h
  unfold aP2 at h
  split at h
  ·obtain ⟨h2, h3⟩ := h
   cases c with
   | true => exact iha rfl (hs.1 rfl) (h2 rfl)
   | false => exact ihb rfl (hs.2 rfl) (h3 rfl)
  ·exact ⟨_, _, rfl, hs, h⟩
 | kg tg g c v hc t ih =>
  intro tm K hs h
  unfold aP2 at h
  split at h
  ·obtain ⟨h1, h2⟩ := h
   have h1 : look tm g = some (.pv (.bool c)) := h1
   subst hc
   obtain ⟨tm', t', q1, q2, q3⟩ := ih (Q0 := Q0) hs h2
   exact ⟨tm', t', (a60 h1).trans q1, q2, q3⟩
  ·exact ⟨_, _, rfl, hs, h⟩
 | dead => intro tm K hs h; exact hs.elim
 | _ => intro tm K hs h; exact ⟨_, _, rfl, hs, h⟩
theorem aE6 [Mode] {d : Bool} {base rid i : Nat} {vo : VOper} {rest : List VOper} {tm : TmL} {hp : HpL} {log : List aF7} {τ : Type} {t : Tr P τ} {K : TmL → HpL → List aF7 → Tr P τ → Obl} {Q0 : τ → Prop} {K' : Nat → TmL → HpL → List aF7 → Prop}
  (hcl : ∀ i tm tm' hp log, look tm = look tm' → K' i tm' hp log → K' i tm hp log) (hs : t.Sat Q0) (h : (be1 P d base rid i vo tm hp log t K).Ok) (hK : ∀ tm hp log t', t'.Sat Q0 → (K tm hp log t').Ok → af1 P d base (i + 1) rest tm hp log K') :
  af1 P d base i (vo :: rest) tm hp log K' := by
 unfold be1 at h
 obtain ⟨tm', t', hl, hs, h⟩ := bn8 hs h
 refine bP6 hl hcl ?_
 split at h
 ·rename_i hg
  exact bP7 hg (a59 hs h hK)
 ·rename_i g want hg
  split at h
  ·rename_i b hb
   exact bP8 hg hb (a59 hs h hK)
  ·rename_i hb
   unfold af1
   rw [hg]
   simp only [hb]
   exact a59 (same := false) hs h hK
  ·exact h.elim
theorem bz8 [Mode] {d : Bool} {base i : Nat} {tm : TmL} {hp : HpL} {log : List aF7} {τ : Type} {t : Tr P τ} {K : VSt → Tr P τ → Obl} (h : (b02 P d base i tm hp log t K).Ok) : (d = true → bu8 log = true) ∧ (K ⟨tm, hp, base + 4 * i⟩ t).Ok := by
 unfold b02 at h
 split at h
 ·rename_i hl
  exact ⟨fun hd => by subst hd; exact hl, h⟩
 ·exact h.elim
end
end Go.Vm
