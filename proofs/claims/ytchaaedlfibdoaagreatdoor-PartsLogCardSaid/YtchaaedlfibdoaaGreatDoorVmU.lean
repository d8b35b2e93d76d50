import Derived.Test.YtchaaedlfibdoaaGreatDoorVmT
open List (range)
open Nat (lor)
namespace Go.Vm
set_option linter.unusedVariables false
section
variable (P : Program)
abbrev TmL := List (Nat × HV)
abbrev HpL := List (Nat × Option Row)
def a57 [Mode] {τ : Type} (op : VOp) (id0 : Nat) (get : Nat → Option HV) (row : Nat → Option Row) (t : Tr P τ) (K : HV → Upd → Tr P τ → Obl) : Obl :=
 match bw5 P op .e id0 get row with
 | some (v, u, []) => K v u t
 | _ => .bad
def ckOp [Mode] {τ : Type} (op : VOp) (id0 tag : Nat) (get : Nat → Option HV) (row : Nat → Option Row) (t : Tr P τ) (K : HV → Upd → Tr P τ → Obl) : Obl :=
 match t with
 | .bi tg o m obs pf k => match Nat.beq tg tag with
  | true => .allT fun x => .allP fun h => match bw5 P op (m x) id0 get row with
   | some (v, u, obs') => .and (.eq obs' (obs x)) (K v u (k x h))
   | none => .bad
  | false => a57 P op id0 get row (.bi tg o m obs pf k) K
 | .op tg m obs pf t => match Nat.beq tg tag with
  | true => match bw5 P op m id0 get row with
   | some (v, u, obs') => .and (.eq obs' obs) (K v u t)
   | none => .bad
  | false => a57 P op id0 get row (.op tg m obs pf t) K
 | .rw tg h h' pf t => match Nat.beq tg tag with
  | true => match bw5 P op .e id0 get row with
   | some (v, u, []) => .and (.eq v h) (K h' u t)
   | _ => .bad
  | false => a57 P op id0 get row (.rw tg h h' pf t) K
 | t => a57 P op id0 get row t K
def co4 (b want : Bool) : Bool := match b with
 | true => want
 | false => match want with
  | true => false
  | false => true
def ckG [Mode] (d : Bool) (base rid i : Nat) (vo : VOper) (same : Bool) (tm : TmL) (hp : HpL) (log : List aK5) {τ : Type} (t : Tr P τ) (K : TmL → HpL → List aK5 → Tr P τ → Obl) : Obl :=
 match same with
 | true => ckOp P vo.op (base + 4 * i) (rid * 1000 + i) (look tm) (ae3 hp) t fun v u t => K (bi5 tm vo.dst v) (u ++ hp) (aD7 d log (an4 vo.op (look tm), u.map (·.1), vo.bs)) t
 | false => K (bi5 tm vo.dst .undef) hp (aD7 d log ([], [], vo.bs)) t
def aW3 [Mode] (tag : Nat) {τ : Type} : Tr P τ → TmL → (TmL → Tr P τ → Obl) → Obl
 | .spl tg g c a b, tm, K => match Nat.beq tg tag with
  | true => .and (.eq (look tm g) (some (.pv (.bool c)))) (.and (.allP fun h => aW3 tag (a h) ((g, .pv (.bool true)) :: tm) K) (.allP fun h => aW3 tag (b h) ((g, .pv (.bool false)) :: tm) K))
  | false => K tm (.spl tg g c a b)
 | .cs tg c a b, tm, K => match Nat.beq tg tag with
  | true => .and (.allP fun h => aW3 tag (a h) tm K) (.allP fun h => aW3 tag (b h) tm K)
  | false => K tm (.cs tg c a b)
 | .kg tg g c v h t, tm, K => match Nat.beq tg tag with
  | true => .and (.eq (look tm g) (some (.pv (.bool c)))) (aW3 tag t ((g, .pv (.bool v)) :: tm) K)
  | false => K tm (.kg tg g c v h t)
 | .dead, _, _ => .tt
 | t, tm, K => K tm t
def cu4 (d : Bool) (log : List aK5) : Bool := match d with
 | true => bE5 log
 | false => true
def cc6 [Mode] (d : Bool) (base i : Nat) (tm : TmL) (hp : HpL) (log : List aK5) {τ : Type} (t : Tr P τ) (K : VSt → Tr P τ → Obl) : Obl := match cu4 d log with
 | true => K ⟨tm, hp, base + 4 * i⟩ t
 | false => .bad
def bm6 [Mode] (d : Bool) (base rid i : Nat) (vo : VOper) (tm : TmL) (hp : HpL) (log : List aK5) {τ : Type} (t : Tr P τ) (K : TmL → HpL → List aK5 → Tr P τ → Obl) : Obl := aW3 P (rid * 1000 + i) t tm fun tm t =>
 match vo.guard with
 | none => ckG P d base rid i vo true tm hp log t K
 | some (g, want) => match look tm g with
  | some (.pv (.bool b)) => ckG P d base rid i vo (co4 b want) tm hp log t K
  | some .undef => ckG P d base rid i vo false tm hp log t K
  | _ => .bad
def cc7 [Mode] (d : Bool) (base rid : Nat) {τ : Type} : Nat → List VOper → TmL → HpL → List aK5 → Tr P τ → (VSt → Tr P τ → Obl) → Obl
 | i, [], tm, hp, log, t, K => cc6 P d base i tm hp log t K
 | i, vo :: rest, tm, hp, log, t, K => bm6 P d base rid i vo tm hp log t fun tm hp log t => cc7 d base rid (i + 1) rest tm hp log t K
def ckWh [Mode] {τ : Type} (t : Tr P τ) (st : VSt) (K : VSt → Tr P τ → Obl) : Obl := match t with
 | .wk s1 s2 h t => .and (.eq st s1) (K s2 t)
 | .dead => .tt
 | _ => .bad
def ckW [Mode] {τ : Type} (t : Tr P τ) (st : VSt) (K : VSt → Tr P τ → Obl) : Obl := match t with
 | .wk s1 s2 h t => .and (.eq st s1) (K s2 t)
 | .cs tg c a b => match Nat.beq tg 999999999 with
  | true => .and (.allP fun h => ckWh P (a h) st K) (.allP fun h => ckWh P (b h) st K)
  | false => K st (.cs tg c a b)
 | t => K st t
def aN6 [Mode] (tag : Nat) {τ : Type} (t : Tr P τ) (st : VSt) (K : VSt → Tr P τ → Obl) : Obl := match t with
 | .kp tg ks t => match Nat.beq tg tag with
  | true => ckW P t (aP6 ks st) K
  | false => K st (.kp tg ks t)
 | .dead => .tt
 | t => K st t
def co5 [Mode] {σ : Type} (F : σ → VSt) (st : VSt) (t : Tr P σ) : Obl := ckW P t st fun st t => match t with
 | .ret x => .eq st (F x)
 | _ => .bad
def b15 [Mode] {σ τ : Type} (F : σ → VSt) (st : VSt) (t : Tr P (Step σ τ)) : Obl := aN6 P 1 t st fun st t => match t with
 | .ret (.cont x) => .eq st (F x)
 | _ => .bad
def bm7 [Mode] (d : Bool) (base rid : Nat) {τ : Type} : Nat → List VOper → TmL → HpL → List aK5 → Tr P τ → (VSt → Tr P τ → Obl) → Obl
 | i, [], tm, hp, log, t, K => cc6 P d base i tm hp log t fun st t => aN6 P (rid + 2) t st K
 | i, vo :: rest, tm, hp, log, t, K => match t with
  | .jr tg ks F t1 k => match Nat.beq tg (rid * 1000 + i) with
   | true => .and (cc7 P d base rid i (vo :: rest) tm hp log t1 fun st t => co5 P (F ⟨tm, hp, base⟩) (aP6 ks st) t) (.allT fun x => K (F ⟨tm, hp, base⟩ x) (k x))
   | false => bm6 P d base rid i vo tm hp log (.jr tg ks F t1 k) fun tm hp log t => bm7 d base rid (i + 1) rest tm hp log t K
  | .jp tg ks F bd t2 => match Nat.beq tg (rid * 1000 + i) with
   | true => .and (cc7 P d base rid i (vo :: rest) tm hp log bd.emb fun st t => co5 P (F ⟨tm, hp, base⟩) (aP6 ks st) t) (K (F ⟨tm, hp, base⟩ bd.val) t2)
   | false => bm6 P d base rid i vo tm hp log (.jp tg ks F bd t2) fun tm hp log t => bm7 d base rid (i + 1) rest tm hp log t K
  | t => bm6 P d base rid i vo tm hp log t fun tm hp log t => bm7 d base rid (i + 1) rest tm hp log t K
def bK6 (acc : List Nat) : List Edge → Nat → Nat
 | [], m => m
 | e :: es, m => bK6 acc es (match Region.binds .any e with
  | true => lor m (lor (Nat.shiftLeft 1 e.on) (acc.getD e.on 0))
  | false => m)
def cu5 (i m : Nat) : List Nat := (range i).filter fun j => Nat.beq (Nat.mod (Nat.shiftRight m j) 2) 1
def cj3 : Op → Bool
 | .lookup _ _ _ _ => true
 | .mapEntry _ _ _ => true
 | _ => false
def tolOf [Mode] (all : List Oper) (i : Nat) (o : Oper) : List Nat := match cj3 o.op with
 | true => (range i).filter fun j => match all[j]? with
  | some p => (match cj3 p.op with
   | true => (match bj3 P o.op, bj3 P p.op with | some a, some b => bX0 a b | _, _ => false)
   | false => false)
  | none => false
 | false => []
def b16 [Mode] (d : Bool) (all : List Oper) : Nat → List Oper → List Nat → List VOper
  | _, [], _ => []
  | i, o :: os, acc =>
    let m := match d with
      | true => bK6 acc o.after.toList 0
      | false => 0
    { dst := none, op := (match bj3 P o.op with
      | some _ => .mov (.t 0)
      | none => .bad), bef := (match d with
      | true => cu5 i m
      | false => []), tol := (match d with
      | true => tolOf P all i o
      | false => []) } :: b16 d all (i + 1) os (acc ++ [m])
def bE9 [Mode] (N : Nat) (ops : Array Oper) (draw : Bool) : Option (List VOper) :=
 match aX6 P N ops ops.toList (b16 P draw ops.toList 0 ops.toList []) with
 | some r => match draw with
  | true => match bZ7 ops r && (bZ5 r && noAB r) with
   | true => some r
   | false => none
  | false => some r
 | none => none
def Step.out [Mode] {P : Program} {σ τ : Type} (k : σ → Tr P τ) : Step σ τ → Tr P τ
 | .cont s => k s
 | .done v => .ret v
def ck [Mode] (N : Nat) : Code → {τ : Type} → VSt → Tr P τ → (VExit → VSt → Tr P τ → Obl) → Obl
 | .skip, _, st, t, κ => aN6 P 0 t st (κ .normal)
 | .region id ops draw, _, st, t, κ => match bE9 P N ops draw with
  | some r => bm7 P draw st.nx id 0 r st.tm st.hp [] t (κ .normal)
  | none => .bad
 | .seq a b, _, st, t, κ => match t with
  | .jn St t1 k => .and (ck N a st t1 fun e st' t' => match e with
    | .normal => b15 P St st' t'
    | .exit i => κ (.exit i) st' (t'.bnd (Step.out k))
    | .ret => κ .ret st' (t'.bnd (Step.out k))) (.allT fun s => ck N b (St s) (k s) κ)
  | t => ck N a st t fun e st' t' => match e with
    | .normal => ck N b st' t' κ
    | .exit i => κ (.exit i) st' t'
    | .ret => κ .ret st' t'
 | .cond x a b, _, st, t, κ => match opdOf x with
  | some v => match t with
   | .ite c ta tb => .and (.eq (v.get (look st.tm)) (some (.pv (.bool c)))) (.and (.allP fun h => ck N a st (ta h) κ) (.allP fun h => ck N b st (tb h) κ))
   | .ct c v' h t => .and (.eq (v.get (look st.tm)) (some (.pv (.bool c)))) (match v' with
    | true => ck N a st t κ
    | false => ck N b st t κ)
   | .dead => .tt
   | _ => .bad
  | none => .bad
 | .block id c, _, st, t, κ => ck N c st t fun e st' t' => match e with
  | .exit i => match Nat.beq i id with
   | true => κ .normal st' t'
   | false => κ (.exit i) st' t'
  | .normal => κ .normal st' t'
  | .ret => κ .ret st' t'
 | .loop c, _, st, t, κ => aN6 P 1 t st fun st t => match t with
  | .loop s0 St body => .and (.eq st (St st s0)) (.allT fun s => ck N c (St st s) (body s) fun e st' t' => match e with
   | .normal => b15 P (St st) st' t'
   | .exit i => κ (.exit i) st' (t'.bnd (Step.out fun s' => .loop s' St body))
   | .ret => κ .ret st' (t'.bnd (Step.out fun s' => .loop s' St body)))
  | _ => .bad
 | .exit i, _, st, t, κ => aN6 P 0 t st (κ (.exit i))
 | .ret, _, st, t, κ => κ .ret st t
 | _, _, _, _, _ => .bad
end
theorem cc8 {a b : Nat} (h : Nat.beq a b = true) : a = b := Nat.eq_of_beq_eq_true h
section
variable {P : Program}
theorem aE2 [Mode] {τ : Type} {op : VOp} {id0 : Nat} {get : Nat → Option HV} {row : Nat → Option Row} {t : Tr P τ} {K : HV → Upd → Tr P τ → Obl} {Q0 : τ → Prop} {K' : HV → Upd → Prop} (hs : t.Sat Q0) (h : (a57 P op id0 get row t K).Ok)
  (hK : ∀ v u t', t'.Sat Q0 → (K v u t').Ok → K' v u) : OpWp P op id0 get row K' := by
 unfold a57 at h
 split at h
 ·rename_i v u hx
  exact aN4 hx .nil (hK _ _ _ hs h)
 ·exact h.elim
theorem bR5 [Mode] {τ : Type} {op : VOp} {id0 tag : Nat} {get : Nat → Option HV} {row : Nat → Option Row} {t : Tr P τ} {K : HV → Upd → Tr P τ → Obl} {Q0 : τ → Prop} {K' : HV → Upd → Prop} (hs : t.Sat Q0) (h : (ckOp P op id0 tag get row t K).Ok)
  (hK : ∀ v u t', t'.Sat Q0 → (K v u t').Ok → K' v u) : OpWp P op id0 get row K' := by
 unfold ckOp at h
 split at h
 ·rename_i tg o m obs pf k
  split at h
  ·obtain ⟨x, hx, hs⟩ := hs
   have h := h x hx
   split at h
   ·rename_i v u obs' he
    obtain ⟨h1, h2⟩ := h
    have h1 : obs' = obs x := h1
    subst h1
    exact aN4 he (pf x hx) (hK _ _ _ hs h2)
   ·exact h.elim
  ·exact aE2 hs h hK
 ·rename_i tg m obs pf t
  split at h
  ·split at h
   ·rename_i v u obs' he
    obtain ⟨h1, h2⟩ := h
    have h1 : obs' = obs := h1
    subst h1
    exact aN4 he pf (hK _ _ t (show t.Sat Q0 from hs) h2)
   ·exact h.elim
  ·exact aE2 hs h hK
 ·rename_i tg a a' pf t
  split at h
  ·split at h
   ·rename_i v u he
    obtain ⟨h1, h2⟩ := h
    have h1 : v = a := h1
    subst h1
    subst pf
    exact aN4 he .nil (hK _ _ t (show t.Sat Q0 from hs) h2)
   ·exact h.elim
  ·exact aE2 hs h hK
 ·exact aE2 hs h hK
theorem ba0 {tm tm' : TmL} (h : look tm = look tm') (dst : Option Nat) (v : HV) : look (bi5 tm dst v) = look (bi5 tm' dst v) := by
 cases dst with
 | none => exact h
 | some d =>
  funext s
  simp only [bi5, look]
  split
  ·rfl
  ·rw [h]
theorem OpWp.mono' [Mode] {op : VOp} {id0 : Nat} {get : Nat → Option HV} {row : ad1} {K K' : HV → Upd → Prop} (h : OpWp P op id0 get row K) (hk : ∀ h u, K h u → K' h u) : OpWp P op id0 get row K' := OpWp.mono hk h
theorem b17 [Mode] {d : Bool} {base : Nat} : ∀ {ops : List VOper} {i : Nat} {tm tm' : TmL} {hp : HpL} {log : List aK5} {K K' : Nat → TmL → HpL → List aK5 → Prop}, look tm = look tm' →
  (∀ i tm tm' hp log, look tm = look tm' → K i tm' hp log → K' i tm hp log) → af5 P d base i ops tm' hp log K → af5 P d base i ops tm hp log K' := by
 intro ops
 induction ops with
 | nil => intro i tm tm' hp log K K' hl hk h; exact hk _ _ _ _ _ hl h
 | cons vo rest ih =>
  intro i tm tm' hp log K K' hl hk h
  unfold af5 at h ⊢
  rw [← hl] at h
  split
  ·rename_i hg
   rw [hg] at h
   simp only at h
   exact h.mono' fun v u hh => ih (ba0 hl _ _) hk hh
  ·rename_i t want hg
   rw [hg] at h
   simp only at h
   split
   ·rename_i b hb
    rw [hb] at h
    simp only at h
    split
    ·rename_i hbw
     rw [iP hbw] at h
     exact h.mono' fun v u hh => ih (ba0 hl _ _) hk hh
    ·rename_i hbw
     rw [iN hbw] at h
     exact ih (ba0 hl _ _) hk h
   ·rename_i hb
    rw [hb] at h
    exact ih (ba0 hl _ _) hk h
   ·rename_i h1 h2
    split at h
    ·rename_i b hb; exact (h1 b hb).elim
    ·rename_i hb; exact (h2 hb).elim
    ·exact h
def gWp [Mode] (P : Program) (d : Bool) (base i : Nat) (vo : VOper) (same : Bool) (tm : TmL) (hp : HpL) (log : List aK5) (K : TmL → HpL → List aK5 → Prop) : Prop :=
 match same with
 | true => OpWp P vo.op (base + 4 * i) (look tm) (ae3 hp) fun v u => K (bi5 tm vo.dst v) (u ++ hp) (aD7 d log (an4 vo.op (look tm), u.map (·.1), vo.bs))
 | false => K (bi5 tm vo.dst .undef) hp (aD7 d log ([], [], vo.bs))
theorem be6 [Mode] {d : Bool} {base rid i : Nat} {vo : VOper} {same : Bool} {tm : TmL} {hp : HpL} {log : List aK5} {τ : Type} {t : Tr P τ} {K : TmL → HpL → List aK5 → Tr P τ → Obl} {Q0 : τ → Prop} {K' : TmL → HpL → List aK5 → Prop}
  (hs : t.Sat Q0) (h : (ckG P d base rid i vo same tm hp log t K).Ok) (hK : ∀ tm hp log t', t'.Sat Q0 → (K tm hp log t').Ok → K' tm hp log) : gWp P d base i vo same tm hp log K' := by
 unfold ckG at h
 unfold gWp
 cases same with
 | true => exact bR5 hs h fun v u t' hs' h' => hK _ _ _ _ hs' h'
 | false => exact hK _ _ _ _ hs h
theorem b18 [Mode] {d : Bool} {base i : Nat} {vo : VOper} {rest : List VOper} {tm : TmL} {hp : HpL} {log : List aK5} {K : Nat → TmL → HpL → List aK5 → Prop} (hg : vo.guard = none)
  (h : gWp P d base i vo true tm hp log fun tm hp log => af5 P d base (i + 1) rest tm hp log K) : af5 P d base i (vo :: rest) tm hp log K := by
 unfold af5
 rw [hg]
 exact h
theorem b19 [Mode] {d : Bool} {base i g : Nat} {want b : Bool} {vo : VOper} {rest : List VOper} {tm : TmL} {hp : HpL} {log : List aK5} {K : Nat → TmL → HpL → List aK5 → Prop} (hg : vo.guard = some (g, want)) (hb : look tm g = some (.pv (.bool b)))
  (h : gWp P d base i vo (co4 b want) tm hp log fun tm hp log => af5 P d base (i + 1) rest tm hp log K) : af5 P d base i (vo :: rest) tm hp log K := by
 unfold af5
 rw [hg]
 simp only [hb]
 cases b <;> cases want <;> simpa [co4, gWp] using h
theorem be7 {tm : TmL} {g : Nat} {h : HV} (hg : look tm g = some h) : look tm = look ((g, h) :: tm) := by
 funext s
 simp only [look]
 split
 ·rename_i hs; subst hs; exact hg
 ·rfl
theorem bw7 [Mode] {tag : Nat} {τ : Type} {Q0 : τ → Prop} : ∀ {t : Tr P τ} {tm : TmL} {K : TmL → Tr P τ → Obl}, t.Sat Q0 → (aW3 P tag t tm K).Ok → ∃ tm' t', look tm = look tm' ∧ t'.Sat Q0 ∧ (K tm' t').Ok := by
 intro t
 induction t with
 | spl tg g c a b iha ihb =>
  intro tm K hs h
  unfold aW3 at h
  split at h
  ·obtain ⟨h1, h2, h3⟩ := h
   have h1 : look tm g = some (.pv (.bool c)) := h1
   cases c with
   | true =>
    obtain ⟨tm', t', q1, q2, q3⟩ := iha rfl (hs.1 rfl) (h2 rfl)
    exact ⟨tm', t', (be7 h1).trans q1, q2, q3⟩
   | false =>
    obtain ⟨tm', t', q1, q2, q3⟩ := ihb rfl (hs.2 rfl) (h3 rfl)
    exact ⟨tm', t', (be7 h1).trans q1, q2, q3⟩
  ·exact ⟨_, _, rfl, hs, h⟩
 | cs tg c a b iha ihb =>
  intro tm K hs h
  unfold aW3 at h
  split at h
  ·obtain ⟨h2, h3⟩ := h
   cases c with
   | true => exact iha rfl (hs.1 rfl) (h2 rfl)
   | false => exact ihb rfl (hs.2 rfl) (h3 rfl)
  ·exact ⟨_, _, rfl, hs, h⟩
 | kg tg g c v hc t ih =>
  intro tm K hs h
  unfold aW3 at h
  split at h
  ·obtain ⟨h1, h2⟩ := h
   have h1 : look tm g = some (.pv (.bool c)) := h1
   subst hc
   obtain ⟨tm', t', q1, q2, q3⟩ := ih (Q0 := Q0) hs h2
   exact ⟨tm', t', (be7 h1).trans q1, q2, q3⟩
  ·exact ⟨_, _, rfl, hs, h⟩
 | dead => intro tm K hs h; exact hs.elim
 | _ => intro tm K hs h; exact ⟨_, _, rfl, hs, h⟩
theorem aJ1 [Mode] {d : Bool} {base rid i : Nat} {vo : VOper} {rest : List VOper} {tm : TmL} {hp : HpL} {log : List aK5} {τ : Type} {t : Tr P τ} {K : TmL → HpL → List aK5 → Tr P τ → Obl} {Q0 : τ → Prop} {K' : Nat → TmL → HpL → List aK5 → Prop}
  (hcl : ∀ i tm tm' hp log, look tm = look tm' → K' i tm' hp log → K' i tm hp log) (hs : t.Sat Q0) (h : (bm6 P d base rid i vo tm hp log t K).Ok) (hK : ∀ tm hp log t', t'.Sat Q0 → (K tm hp log t').Ok → af5 P d base (i + 1) rest tm hp log K') :
  af5 P d base i (vo :: rest) tm hp log K' := by
 unfold bm6 at h
 obtain ⟨tm', t', hl, hs, h⟩ := bw7 hs h
 refine b17 hl hcl ?_
 split at h
 ·rename_i hg
  exact b18 hg (be6 hs h hK)
 ·rename_i g want hg
  split at h
  ·rename_i b hb
   exact b19 hg hb (be6 hs h hK)
  ·rename_i hb
   unfold af5
   rw [hg]
   simp only [hb]
   exact be6 (same := false) hs h hK
  ·exact h.elim
theorem bK7 [Mode] {d : Bool} {base i : Nat} {tm : TmL} {hp : HpL} {log : List aK5} {τ : Type} {t : Tr P τ} {K : VSt → Tr P τ → Obl} (h : (cc6 P d base i tm hp log t K).Ok) : (d = true → bE5 log = true) ∧ (K ⟨tm, hp, base + 4 * i⟩ t).Ok := by
 unfold cc6 at h
 split at h
 ·rename_i hl
  exact ⟨fun hd => by subst hd; exact hl, h⟩
 ·exact h.elim
end
end Go.Vm
