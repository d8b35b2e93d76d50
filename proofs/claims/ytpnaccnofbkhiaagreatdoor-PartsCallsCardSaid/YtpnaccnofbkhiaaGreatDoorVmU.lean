import Derived.Test.YtpnaccnofbkhiaaGreatDoorVmT
namespace Go.Vm
set_option autoImplicit false
set_option linter.unusedVariables false
section
variable (P : Program)
abbrev TmL := List (Nat × HV)
abbrev HpL := List (Nat × Option Row)
def aS8 [Mode] {τ : Type} (op : VOp) (id0 : Nat) (get : Nat → Option HV) (row : Nat → Option Row) (t : Tr P τ) (K : HV → Upd → Tr P τ → Obl) : Obl :=
 match bi9 P op .e id0 get row with
 | some (v, u, []) => K v u t
 | _ => .bad
def ckOp [Mode] {τ : Type} (op : VOp) (id0 tag : Nat) (get : Nat → Option HV) (row : Nat → Option Row) (t : Tr P τ) (K : HV → Upd → Tr P τ → Obl) : Obl :=
 match t with
 | .bi tg o m obs pf k => match Nat.beq tg tag with
  | true => .allT fun x => .allP fun h => match bi9 P op (m x) id0 get row with
   | some (v, u, obs') => .and (.eq obs' (obs x)) (K v u (k x h))
   | none => .bad
  | false => aS8 P op id0 get row (.bi tg o m obs pf k) K
 | .op tg m obs pf t => match Nat.beq tg tag with
  | true => match bi9 P op m id0 get row with
   | some (v, u, obs') => .and (.eq obs' obs) (K v u t)
   | none => .bad
  | false => aS8 P op id0 get row (.op tg m obs pf t) K
 | .rw tg h h' pf t => match Nat.beq tg tag with
  | true => match bi9 P op .e id0 get row with
   | some (v, u, []) => .and (.eq v h) (K h' u t)
   | _ => .bad
  | false => aS8 P op id0 get row (.rw tg h h' pf t) K
 | t => aS8 P op id0 get row t K
def b89 (b want : Bool) : Bool := match b with
 | true => want
 | false => match want with
  | true => false
  | false => true
def ckG [Mode] (d : Bool) (base rid i : Nat) (vo : VOper) (same : Bool) (tm : TmL) (hp : HpL) (log : List aC5) {τ : Type} (t : Tr P τ) (K : TmL → HpL → List aC5 → Tr P τ → Obl) : Obl :=
 match same with
 | true => ckOp P vo.op (base + 4 * i) (rid * 1000 + i) (look tm) (ae0 hp) t fun v u t => K (a52 tm vo.dst v) (u ++ hp) (aw9 d log (aj7 vo.op (look tm), u.map (·.1), vo.bef)) t
 | false => K (a52 tm vo.dst .undef) hp (aw9 d log ([], [], vo.bef)) t
def aL9 [Mode] (tag : Nat) {τ : Type} : Tr P τ → TmL → (TmL → Tr P τ → Obl) → Obl
 | .spl tg g c a b, tm, K => match Nat.beq tg tag with
  | true => .and (.eq (look tm g) (some (.pv (.bool c)))) (.and (.allP fun h => aL9 tag (a h) ((g, .pv (.bool true)) :: tm) K) (.allP fun h => aL9 tag (b h) ((g, .pv (.bool false)) :: tm) K))
  | false => K tm (.spl tg g c a b)
 | .cs tg c a b, tm, K => match Nat.beq tg tag with
  | true => .and (.allP fun h => aL9 tag (a h) tm K) (.allP fun h => aL9 tag (b h) tm K)
  | false => K tm (.cs tg c a b)
 | .kg tg g c v h t, tm, K => match Nat.beq tg tag with
  | true => .and (.eq (look tm g) (some (.pv (.bool c)))) (aL9 tag t ((g, .pv (.bool v)) :: tm) K)
  | false => K tm (.kg tg g c v h t)
 | .dead, _, _ => .tt
 | t, tm, K => K tm t
def cf2 (d : Bool) (log : List aC5) : Bool := match d with
 | true => bq0 log
 | false => true
def bX6 [Mode] (d : Bool) (base i : Nat) (tm : TmL) (hp : HpL) (log : List aC5) {τ : Type} (t : Tr P τ) (K : VSt → Tr P τ → Obl) : Obl := match cf2 d log with
 | true => K ⟨tm, hp, base + 4 * i⟩ t
 | false => .bad
def a98 [Mode] (d : Bool) (base rid i : Nat) (vo : VOper) (tm : TmL) (hp : HpL) (log : List aC5) {τ : Type} (t : Tr P τ) (K : TmL → HpL → List aC5 → Tr P τ → Obl) : Obl := aL9 P (rid * 1000 + i) t tm fun tm t =>
 match vo.guard with
 | none => ckG P d base rid i vo true tm hp log t K
 | some (g, want) => match look tm g with
  | some (.pv (.bool b)) => ckG P d base rid i vo (b89 b want) tm hp log t K
  | some .undef => ckG P d base rid i vo false tm hp log t K
  | _ => .bad
def bX7 [Mode] (d : Bool) (base rid : Nat) {τ : Type} : Nat → List VOper → TmL → HpL → List aC5 → Tr P τ → (VSt → Tr P τ → Obl) → Obl
 | i, [], tm, hp, log, t, K => bX6 P d base i tm hp log t K
 | i, vo :: rest, tm, hp, log, t, K => a98 P d base rid i vo tm hp log t fun tm hp log t => bX7 d base rid (i + 1) rest tm hp log t K
def ckWh [Mode] {τ : Type} (t : Tr P τ) (st : VSt) (K : VSt → Tr P τ → Obl) : Obl := match t with
 | .wk s1 s2 h t => .and (.eq st s1) (K s2 t)
 | .dead => .tt
 | _ => .bad
def ckW [Mode] {τ : Type} (t : Tr P τ) (st : VSt) (K : VSt → Tr P τ → Obl) : Obl := match t with
 | .wk s1 s2 h t => .and (.eq st s1) (K s2 t)
 | .cs tg c a b => match Nat.beq tg 999999999 with
  | true => .and (.allP fun h => ckWh P (a h) st K) (.allP fun h => ckWh P (b h) st K)
  | false => K st (.cs tg c a b)
 | t => K st t
def aN2 [Mode] (tag : Nat) {τ : Type} (t : Tr P τ) (st : VSt) (K : VSt → Tr P τ → Obl) : Obl := match t with
 | .kp tg ks t => match Nat.beq tg tag with
  | true => ckW P t (aG8 ks st) K
  | false => K st (.kp tg ks t)
 | .dead => .tt
 | t => K st t
def b90 [Mode] {σ : Type} (F : σ → VSt) (st : VSt) (t : Tr P σ) : Obl := ckW P t st fun st t => match t with
 | .ret x => .eq st (F x)
 | _ => .bad
def bN2 [Mode] {σ τ : Type} (F : σ → VSt) (st : VSt) (t : Tr P (Step σ τ)) : Obl := aN2 P 1 t st fun st t => match t with
 | .ret (.cont x) => .eq st (F x)
 | _ => .bad
def a99 [Mode] (d : Bool) (base rid : Nat) {τ : Type} : Nat → List VOper → TmL → HpL → List aC5 → Tr P τ → (VSt → Tr P τ → Obl) → Obl
 | i, [], tm, hp, log, t, K => bX6 P d base i tm hp log t fun st t => aN2 P (rid + 2) t st K
 | i, vo :: rest, tm, hp, log, t, K => match t with
  | .jr tg ks F t1 k => match Nat.beq tg (rid * 1000 + i) with
   | true => .and (bX7 P d base rid i (vo :: rest) tm hp log t1 fun st t => b90 P (F ⟨tm, hp, base⟩) (aG8 ks st) t) (.allT fun x => K (F ⟨tm, hp, base⟩ x) (k x))
   | false => a98 P d base rid i vo tm hp log (.jr tg ks F t1 k) fun tm hp log t => a99 d base rid (i + 1) rest tm hp log t K
  | .jp tg ks F bd t2 => match Nat.beq tg (rid * 1000 + i) with
   | true => .and (bX7 P d base rid i (vo :: rest) tm hp log bd.emb fun st t => b90 P (F ⟨tm, hp, base⟩) (aG8 ks st) t) (K (F ⟨tm, hp, base⟩ bd.val) t2)
   | false => a98 P d base rid i vo tm hp log (.jp tg ks F bd t2) fun tm hp log t => a99 d base rid (i + 1) rest tm hp log t K
  | t => a98 P d base rid i vo tm hp log t fun tm hp log t => a99 d base rid (i + 1) rest tm hp log t K
def bx9 (acc : List Nat) : List Edge → Nat → Nat
 | [], m => m
 | e :: es, m => bx9 acc es (match Region.binds .any e with
  | true => Nat.lor m (Nat.lor (Nat.shiftLeft 1 e.on) (acc.getD e.on 0))
  | false => m)
def cf3 (i m : Nat) : List Nat := (List.range i).filter fun j => Nat.beq (Nat.mod (Nat.shiftRight m j) 2) 1
def bN3 [Mode] (d : Bool) : Nat → List Oper → List Nat → List VOper
  | _, [], _ => []
  | i, o :: os, acc =>
    let m := match d with
      | true => bx9 acc o.after.toList 0
      | false => 0
    { dst := none, op := (match aW9 P o.op with
      | some _ => .mov (.t 0)
      | none => .bad), bef := (match d with
      | true => cf3 i m
      | false => []) } :: bN3 d (i + 1) os (acc ++ [m])
def bq6 [Mode] (N : Nat) (ops : Array Oper) (draw : Bool) : Option (List VOper) :=
 match aM8 P N ops ops.toList (bN3 P draw 0 ops.toList []) with
 | some r => match draw with
  | true => match b81 ops r && (bL4 r && noAB r) with
   | true => some r
   | false => none
  | false => some r
 | none => none
def Step.out [Mode] {P : Program} {σ τ : Type} (k : σ → Tr P τ) : Step σ τ → Tr P τ
 | .cont s => k s
 | .done v => .ret v
def ck [Mode] (N : Nat) : Code → {τ : Type} → VSt → Tr P τ → (VExit → VSt → Tr P τ → Obl) → Obl
 | .skip, _, st, t, κ => aN2 P 0 t st (κ .normal)
 | .region id ops draw, _, st, t, κ => match bq6 P N ops draw with
  | some r => a99 P draw st.nx id 0 r st.tm st.hp [] t (κ .normal)
  | none => .bad
 | .seq a b, _, st, t, κ => match t with
  | .jn St t1 k => .and (ck N a st t1 fun e st' t' => match e with
    | .normal => bN2 P St st' t'
    | .exit i => κ (.exit i) st' (t'.bnd (Step.out k))
    | .ret => κ .ret st' (t'.bnd (Step.out k))) (.allT fun s => ck N b (St s) (k s) κ)
  | t => ck N a st t fun e st' t' => match e with
    | .normal => ck N b st' t' κ
    | .exit i => κ (.exit i) st' t'
    | .ret => κ .ret st' t'
 | .cond x a b, _, st, t, κ => match opdOf x with
  | some v => match t with
   | .ite c ta tb => .and (.eq (v.get (look st.tm)) (some (.pv (.bool c)))) (.and (.allP fun h => ck N a st (ta h) κ) (.allP fun h => ck N b st (tb h) κ))
   | .ct c v' h t => .and (.eq (v.get (look st.tm)) (some (.pv (.bool c)))) (match v' with
    | true => ck N a st t κ
    | false => ck N b st t κ)
   | .dead => .tt
   | _ => .bad
  | none => .bad
 | .block id c, _, st, t, κ => ck N c st t fun e st' t' => match e with
  | .exit i => match Nat.beq i id with
   | true => κ .normal st' t'
   | false => κ (.exit i) st' t'
  | .normal => κ .normal st' t'
  | .ret => κ .ret st' t'
 | .loop c, _, st, t, κ => aN2 P 1 t st fun st t => match t with
  | .loop s0 St body => .and (.eq st (St st s0)) (.allT fun s => ck N c (St st s) (body s) fun e st' t' => match e with
   | .normal => bN2 P (St st) st' t'
   | .exit i => κ (.exit i) st' (t'.bnd (Step.out fun s' => .loop s' St body))
   | .ret => κ .ret st' (t'.bnd (Step.out fun s' => .loop s' St body)))
  | _ => .bad
 | .exit i, _, st, t, κ => aN2 P 0 t st (κ (.exit i))
 | .ret, _, st, t, κ => κ .ret st t
 | _, _, _, _, _ => .bad
end
theorem bX8 {a b : Nat} (h : Nat.beq a b = true) : a = b := Nat.eq_of_beq_eq_true h
section
variable {P : Program}
theorem ax2 [Mode] {τ : Type} {op : VOp} {id0 : Nat} {get : Nat → Option HV} {row : Nat → Option Row} {t : Tr P τ} {K : HV → Upd → Tr P τ → Obl} {Q0 : τ → Prop} {K' : HV → Upd → Prop} (hs : t.Sat Q0) (h : (aS8 P op id0 get row t K).Ok)
  (hK : ∀ v u t', t'.Sat Q0 → (K v u t').Ok → K' v u) : OpWp P op id0 get row K' := by
 unfold aS8 at h
 split at h
 ·rename_i v u hx
  exact aF6 hx .nil (hK _ _ _ hs h)
 ·exact h.elim
theorem bD5 [Mode] {τ : Type} {op : VOp} {id0 tag : Nat} {get : Nat → Option HV} {row : Nat → Option Row} {t : Tr P τ} {K : HV → Upd → Tr P τ → Obl} {Q0 : τ → Prop} {K' : HV → Upd → Prop} (hs : t.Sat Q0) (h : (ckOp P op id0 tag get row t K).Ok)
  (hK : ∀ v u t', t'.Sat Q0 → (K v u t').Ok → K' v u) : OpWp P op id0 get row K' := by
 unfold ckOp at h
 split at h
 ·rename_i tg o m obs pf k
  split at h
  ·obtain ⟨x, hx, hs⟩ := hs
   have h := h x hx
   split at h
   ·rename_i v u obs' he
    obtain ⟨h1, h2⟩ := h
    have h1 : obs' = obs x := h1
    subst h1
    exact aF6 he (pf x hx) (hK _ _ _ hs h2)
   ·exact h.elim
  ·exact ax2 hs h hK
 ·rename_i tg m obs pf t
  split at h
  ·split at h
   ·rename_i v u obs' he
    obtain ⟨h1, h2⟩ := h
    have h1 : obs' = obs := h1
    subst h1
    exact aF6 he pf (hK _ _ t (show t.Sat Q0 from hs) h2)
   ·exact h.elim
  ·exact ax2 hs h hK
 ·rename_i tg a a' pf t
  split at h
  ·split at h
   ·rename_i v u he
    obtain ⟨h1, h2⟩ := h
    have h1 : v = a := h1
    subst h1
    subst pf
    exact aF6 he .nil (hK _ _ t (show t.Sat Q0 from hs) h2)
   ·exact h.elim
  ·exact ax2 hs h hK
 ·exact ax2 hs h hK
theorem aX4 {tm tm' : TmL} (h : look tm = look tm') (dst : Option Nat) (v : HV) : look (a52 tm dst v) = look (a52 tm' dst v) := by
 cases dst with
 | none => exact h
 | some d =>
  funext s
  simp only [a52, look]
  split
  ·rfl
  ·rw [h]
theorem OpWp.mono' [Mode] {op : VOp} {id0 : Nat} {get : Nat → Option HV} {row : ac5} {K K' : HV → Upd → Prop} (h : OpWp P op id0 get row K) (hk : ∀ h u, K h u → K' h u) : OpWp P op id0 get row K' := OpWp.mono hk h
theorem bN4 [Mode] {d : Bool} {base : Nat} : ∀ {ops : List VOper} {i : Nat} {tm tm' : TmL} {hp : HpL} {log : List aC5} {K K' : Nat → TmL → HpL → List aC5 → Prop}, look tm = look tm' →
  (∀ i tm tm' hp log, look tm = look tm' → K i tm' hp log → K' i tm hp log) → ag8 P d base i ops tm' hp log K → ag8 P d base i ops tm hp log K' := by
 intro ops
 induction ops with
 | nil => intro i tm tm' hp log K K' hl hk h; exact hk _ _ _ _ _ hl h
 | cons vo rest ih =>
  intro i tm tm' hp log K K' hl hk h
  unfold ag8 at h ⊢
  rw [← hl] at h
  split
  ·rename_i hg
   rw [hg] at h
   simp only at h
   exact h.mono' fun v u hh => ih (aX4 hl _ _) hk hh
  ·rename_i t want hg
   rw [hg] at h
   simp only at h
   split
   ·rename_i b hb
    rw [hb] at h
    simp only at h
    split
    ·rename_i hbw
     rw [if_pos hbw] at h
     exact h.mono' fun v u hh => ih (aX4 hl _ _) hk hh
    ·rename_i hbw
     rw [if_neg hbw] at h
     exact ih (aX4 hl _ _) hk h
   ·rename_i hb
    rw [hb] at h
    exact ih (aX4 hl _ _) hk h
   ·rename_i h1 h2
    split at h
    ·rename_i b hb; exact (h1 b hb).elim
    ·rename_i hb; exact (h2 hb).elim
    ·exact h
def gWp [Mode] (P : Program) (d : Bool) (base i : Nat) (vo : VOper) (same : Bool) (tm : TmL) (hp : HpL) (log : List aC5) (K : TmL → HpL → List aC5 → Prop) : Prop :=
 match same with
 | true => OpWp P vo.op (base + 4 * i) (look tm) (ae0 hp) fun v u => K (a52 tm vo.dst v) (u ++ hp) (aw9 d log (aj7 vo.op (look tm), u.map (·.1), vo.bef))
 | false => K (a52 tm vo.dst .undef) hp (aw9 d log ([], [], vo.bef))
theorem a13 [Mode] {d : Bool} {base rid i : Nat} {vo : VOper} {same : Bool} {tm : TmL} {hp : HpL} {log : List aC5} {τ : Type} {t : Tr P τ} {K : TmL → HpL → List aC5 → Tr P τ → Obl} {Q0 : τ → Prop} {K' : TmL → HpL → List aC5 → Prop}
  (hs : t.Sat Q0) (h : (ckG P d base rid i vo same tm hp log t K).Ok) (hK : ∀ tm hp log t', t'.Sat Q0 → (K tm hp log t').Ok → K' tm hp log) : gWp P d base i vo same tm hp log K' := by
 unfold ckG at h
 unfold gWp
 cases same with
 | true => exact bD5 hs h fun v u t' hs' h' => hK _ _ _ _ hs' h'
 | false => exact hK _ _ _ _ hs h
theorem bN5 [Mode] {d : Bool} {base i : Nat} {vo : VOper} {rest : List VOper} {tm : TmL} {hp : HpL} {log : List aC5} {K : Nat → TmL → HpL → List aC5 → Prop} (hg : vo.guard = none)
  (h : gWp P d base i vo true tm hp log fun tm hp log => ag8 P d base (i + 1) rest tm hp log K) : ag8 P d base i (vo :: rest) tm hp log K := by
 unfold ag8
 rw [hg]
 exact h
theorem bN6 [Mode] {d : Bool} {base i g : Nat} {want b : Bool} {vo : VOper} {rest : List VOper} {tm : TmL} {hp : HpL} {log : List aC5} {K : Nat → TmL → HpL → List aC5 → Prop} (hg : vo.guard = some (g, want)) (hb : look tm g = some (.pv (.bool b)))
  (h : gWp P d base i vo (b89 b want) tm hp log fun tm hp log => ag8 P d base (i + 1) rest tm hp log K) : ag8 P d base i (vo :: rest) tm hp log K := by
 unfold ag8
 rw [hg]
 simp only [hb]
 cases b <;> cases want <;> simpa [b89, gWp] using h
theorem a14 {tm : TmL} {g : Nat} {h : HV} (hg : look tm g = some h) : look tm = look ((g, h) :: tm) := by
 funext s
 simp only [look]
 split
 ·rename_i hs; subst hs; exact hg
 ·rfl
theorem bj1 [Mode] {tag : Nat} {τ : Type} {Q0 : τ → Prop} : ∀ {t : Tr P τ} {tm : TmL} {K : TmL → Tr P τ → Obl}, t.Sat Q0 → (aL9 P tag t tm K).Ok → ∃ tm' t', look tm = look tm' ∧ t'.Sat Q0 ∧ (K tm' t').Ok := by
 intro t
 induction t with
 | spl tg g c a b iha ihb =>
  intro tm K hs h
  unfold aL9 at h
  split at h
  ·obtain ⟨h1, h2, h3⟩ := h
   have h1 : look tm g = some (.pv (.bool c)) := h1
   cases c with
   | true =>
    obtain ⟨tm', t', q1, q2, q3⟩ := iha rfl (hs.1 rfl) (h2 rfl)
    exact ⟨tm', t', (a14 h1).trans q1, q2, q3⟩
   | false =>
    obtain ⟨tm', t', q1, q2, q3⟩ := ihb rfl (hs.2 rfl) (h3 rfl)
    exact ⟨tm', t', (a14 h1).trans q1, q2, q3⟩
  ·exact ⟨_, _, rfl, hs, h⟩
 | cs tg c a b iha ihb =>
  intro tm K hs h
  unfold aL9 at h
  split at h
  ·obtain ⟨h2, h3⟩ := h
   cases c with
   | true => exact iha rfl (hs.1 rfl) (h2 rfl)
   | false => exact ihb rfl (hs.2 rfl) (h3 rfl)
  ·exact ⟨_, _, rfl, hs, h⟩
 | kg tg g c v hc t ih =>
  intro tm K hs h
  unfold aL9 at h
  split at h
  ·obtain ⟨h1, h2⟩ := h
   have h1 : look tm g = some (.pv (.bool c)) := h1
   subst hc
   obtain ⟨tm', t', q1, q2, q3⟩ := ih (Q0 := Q0) hs h2
   exact ⟨tm', t', (a14 h1).trans q1, q2, q3⟩
  ·exact ⟨_, _, rfl, hs, h⟩
 | dead => intro tm K hs h; exact hs.elim
 | _ => intro tm K hs h; exact ⟨_, _, rfl, hs, h⟩
theorem aB3 [Mode] {d : Bool} {base rid i : Nat} {vo : VOper} {rest : List VOper} {tm : TmL} {hp : HpL} {log : List aC5} {τ : Type} {t : Tr P τ} {K : TmL → HpL → List aC5 → Tr P τ → Obl} {Q0 : τ → Prop} {K' : Nat → TmL → HpL → List aC5 → Prop}
  (hcl : ∀ i tm tm' hp log, look tm = look tm' → K' i tm' hp log → K' i tm hp log) (hs : t.Sat Q0) (h : (a98 P d base rid i vo tm hp log t K).Ok) (hK : ∀ tm hp log t', t'.Sat Q0 → (K tm hp log t').Ok → ag8 P d base (i + 1) rest tm hp log K') :
  ag8 P d base i (vo :: rest) tm hp log K' := by
 unfold a98 at h
 obtain ⟨tm', t', hl, hs, h⟩ := bj1 hs h
 refine bN4 hl hcl ?_
 split at h
 ·rename_i hg
  exact bN5 hg (a13 hs h hK)
 ·rename_i g want hg
  split at h
  ·rename_i b hb
   exact bN6 hg hb (a13 hs h hK)
  ·rename_i hb
   unfold ag8
   rw [hg]
   simp only [hb]
   exact a13 (same := false) hs h hK
  ·exact h.elim
theorem by0 [Mode] {d : Bool} {base i : Nat} {tm : TmL} {hp : HpL} {log : List aC5} {τ : Type} {t : Tr P τ} {K : VSt → Tr P τ → Obl} (h : (bX6 P d base i tm hp log t K).Ok) : (d = true → bq0 log = true) ∧ (K ⟨tm, hp, base + 4 * i⟩ t).Ok := by
 unfold bX6 at h
 split at h
 ·rename_i hl
  exact ⟨fun hd => by subst hd; exact hl, h⟩
 ·exact h.elim
end
end Go.Vm
