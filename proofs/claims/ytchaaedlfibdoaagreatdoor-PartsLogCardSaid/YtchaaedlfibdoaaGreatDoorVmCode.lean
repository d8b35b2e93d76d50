import Derived.Test.YtchaaedlfibdoaaGreatDoorVmKeep
open List (all_eq_true range)
open Option (map_some)
namespace Go.Vm
open Go.RowKit (Below)
def CallWp [Mode] (P : Program) (f : FuncId) (hs : List HV) (id0 : Nat) (row : ad1) (K : HV → Upd → Prop) : Prop :=
 (∃ gs ds, hs.mapM (aj8 gs row 4) = some ds ∧ VCall P f ds fun r fl => (fl = true ∨ hs.flatMap (a36 gs 4) = []) ∧ ((hs.flatMap (ai9 gs 4)).Nodup ∧ (gs = [] ∨ Mode.y = false)) ∧ au5 r = true ∧ (ah7 id0 r).2.2 ≤ id0 + 4 ∧ K (ah7 id0 r).1 ((ah7 id0 r).2.1 ++ af2 (hs.flatMap (ai9 gs 4)))) ∨
 (∃ id T e bs ps r bs', hs = .optr id 0 0 :: ps.map .pv ∧ row id = some (.b T e bs) ∧ BuilderOK P f T e bs ps r bs' ∧ K (ah7 id0 r).1 [(id, some (.b T e bs'))]) ∨
 ∃ rs h upd, bv5 P f hs rs id0 h upd ∧ (∀ q ∈ rs, row q.1 = some q.2 ∧ (q.1 ∈ hs.flatMap (aj9 4) ∨ (q.1, none) ∈ upd)) ∧ K h upd
theorem CallWp.ev [Mode] {P : Program} {f : FuncId} {hs : List HV} {id0 : Nat} {row : ad1} {K : HV → Upd → Prop} (h : CallWp P f hs id0 row K) : ∃ h upd, ci7 P f hs id0 row h upd ∧ K h upd := by
 rcases h with ⟨gs, ds, h1, r, fl, h2, h3, h4, h5, h6, h7⟩ | ⟨id, T, e, bs, ps, r, bs', h1, h2, h3, h4⟩ | ⟨rs, h, upd, h1, h2, h3⟩
 ·exact ⟨_, _, .inl ⟨gs, ds, r, fl, h1, h2, h3, h4, h5, h6, rfl, rfl⟩, h7⟩
 ·exact ⟨_, _, .inr (.inl ⟨id, T, e, bs, ps, r, bs', h1, h2, h3, rfl, rfl⟩), h4⟩
 ·exact ⟨h, upd, .inr (.inr ⟨rs, h1, h2⟩), h3⟩
theorem CallWp.mono [Mode] {P : Program} {f : FuncId} {hs : List HV} {id0 : Nat} {row : ad1} {K K' : HV → Upd → Prop} (hk : ∀ h u, K h u → K' h u) (h : CallWp P f hs id0 row K) : CallWp P f hs id0 row K' := by
 rcases h with ⟨gs, ds, h1, r, fl, h2, h3, h4, h5, h6, h7⟩ | ⟨id, T, e, bs, ps, r, bs', h1, h2, h3, h4⟩ | ⟨rs, h, upd, h1, h2, h3⟩
 ·exact .inl ⟨gs, ds, h1, r, fl, h2, h3, h4, h5, h6, hk _ _ h7⟩
 ·exact .inr (.inl ⟨id, T, e, bs, ps, r, bs', h1, h2, h3, hk _ _ h4⟩)
 ·exact .inr (.inr ⟨rs, h, upd, h1, h2, hk _ _ h3⟩)
def OpWp0 [Mode] (P : Program) (op : VOp) (id0 : Nat) (get : Nat → Option HV) (row : ad1) (K : HV → Upd → Prop) : Prop :=
 if ak1 op then ∃ f hs, ar9 get op = some (f, hs) ∧ CallWp P f hs id0 row K
 else if af6 op then ∃ T e, op = .allocB T e ∧ (∀ k T' e' bs', row k ≠ some (.b T' e' bs')) ∧ K (.optr id0 0 0) [(id0, some (.b T e []))]
 else ∃ h upd, aa5 op id0 get row = some (h, upd) ∧ K h upd
theorem OpWp0.ev [Mode] {P : Program} {op : VOp} {id0 : Nat} {get : Nat → Option HV} {row : ad1} {K : HV → Upd → Prop} (h : OpWp0 P op id0 get row K) : ∃ h upd, OpEv0 P op id0 get row h upd ∧ K h upd := by
 unfold OpWp0 at h
 unfold OpEv0
 split at h
 ·rename_i hc
  obtain ⟨f, hs, h1, h2⟩ := h
  obtain ⟨y, upd, h3, h4⟩ := h2.ev
  exact ⟨y, upd, by rw [iP hc]; exact ⟨f, hs, h1, h3⟩, h4⟩
 ·rename_i hc
  split at h
  ·rename_i hb
   obtain ⟨T, e, h1, h2, h3⟩ := h
   exact ⟨_, _, by rw [iN hc, iP hb]; exact ⟨T, e, h1, rfl, rfl, h2⟩, h3⟩
  ·rename_i hb
   obtain ⟨h, upd, h1, h2⟩ := h
   exact ⟨h, upd, by rw [iN hc, iN hb]; exact h1, h2⟩
def OpWp [Mode] (P : Program) (op : VOp) (id0 : Nat) (get : Nat → Option HV) (row : ad1) (K : HV → Upd → Prop) : Prop :=
 (OpWp0 P op id0 get row fun h upd => K h upd ∨ ∃ sh es tk len rest, h = .osl id0 0 len ∧ upd = (id0, some (.p sh es tk)) :: rest ∧ len ≤ es.length ∧ look rest id0 = none ∧ K (.pv (.sl sh (es.take len))) rest) ∨
 ∃ h upd, ((∃ x, op = .load none x ∧ bp0 x id0 get row h upd) ∨ (∃ sh x v, op = .store sh x v ∧ Mode.y = false ∧ b97 sh x v get row h upd) ∨
  (∃ sh n x y, op = .append sh n x y ∧ b98 sh x y get row h upd) ∨ (∃ sh x lo hi, op = .slSl sh x lo hi ∧ bI4 sh x lo hi get row h upd) ∨ ak1 op = false ∧ af6 op = false ∧ Mode.y = false ∧ bC0 op id0 get row h upd) ∧ K h upd
theorem OpWp.ev [Mode] {P : Program} {op : VOp} {id0 : Nat} {get : Nat → Option HV} {row : ad1} {K : HV → Upd → Prop} (h : OpWp P op id0 get row K) : ∃ h upd, OpEv P op id0 get row h upd ∧ K h upd := by
 rcases h with h | ⟨h, upd, h1, h2⟩
 ·obtain ⟨h, upd, h1, h2⟩ := OpWp0.ev h
  rcases h2 with h2 | ⟨sh, es, tk, len, rest, rfl, rfl, hle, hlk, h2⟩
  ·exact ⟨h, upd, .inl h1, h2⟩
  ·exact ⟨_, rest, .inr (.inl ⟨sh, es, tk, len, h1, hle, hlk, rfl⟩), h2⟩
 ·exact ⟨h, upd, .inr (.inr h1), h2⟩
theorem OpWp0.mono [Mode] {P : Program} {op : VOp} {id0 : Nat} {get : Nat → Option HV} {row : ad1} {K K' : HV → Upd → Prop} (hk : ∀ h u, K h u → K' h u) (h : OpWp0 P op id0 get row K) : OpWp0 P op id0 get row K' := by
 unfold OpWp0 at h ⊢
 split at h
 ·rename_i hc
  obtain ⟨f, hs, h1, h2⟩ := h
  rw [iP hc]
  exact ⟨f, hs, h1, h2.mono hk⟩
 ·rename_i hc
  rw [iN hc]
  split at h
  ·rename_i hb
   obtain ⟨T, e, h1, h2, h3⟩ := h
   rw [iP hb]
   exact ⟨T, e, h1, h2, hk _ _ h3⟩
  ·rename_i hb
   obtain ⟨h, u, h1, h2⟩ := h
   rw [iN hb]
   exact ⟨h, u, h1, hk _ _ h2⟩
theorem OpWp.mono [Mode] {P : Program} {op : VOp} {id0 : Nat} {get : Nat → Option HV} {row : ad1} {K K' : HV → Upd → Prop} (hk : ∀ h u, K h u → K' h u) (h : OpWp P op id0 get row K) : OpWp P op id0 get row K' :=
 h.imp (OpWp0.mono fun h u hh => by
  rcases hh with hh | ⟨sh, es, tk, len, rest, h1, h2, h3, h4, h5⟩
  ·exact .inl (hk _ _ hh)
  ·exact .inr ⟨sh, es, tk, len, rest, h1, h2, h3, h4, hk _ _ h5⟩) fun ⟨h, u, h1, h2⟩ => ⟨h, u, h1, hk _ _ h2⟩
abbrev aK5 := List Nat × List Nat × List Nat
def aD7 (d : Bool) (log : List aK5) (e : aK5) : List aK5 := match d with
 | true => log ++ [e]
 | false => log
def af5 [Mode] (P : Program) (d : Bool) (base : Nat) : Nat → List VOper → List (Nat × HV) → List (Nat × Option Row) → List aK5 → (Nat → List (Nat × HV) → List (Nat × Option Row) → List aK5 → Prop) → Prop
 | i, [], tm, hp, log, K => K i tm hp log
 | i, vo :: rest, tm, hp, log, K =>
  match vo.guard with
  | none => OpWp P vo.op (base + 4 * i) (look tm) (ae3 hp) fun h upd => af5 P d base (i + 1) rest (bi5 tm vo.dst h) (upd ++ hp) (aD7 d log (an4 vo.op (look tm), upd.map (·.1), vo.bs)) K
  | some (t, want) => match look tm t with
   | some (.pv (.bool b)) =>
    if b = want then OpWp P vo.op (base + 4 * i) (look tm) (ae3 hp) fun h upd => af5 P d base (i + 1) rest (bi5 tm vo.dst h) (upd ++ hp) (aD7 d log (an4 vo.op (look tm), upd.map (·.1), vo.bs)) K
    else af5 P d base (i + 1) rest (bi5 tm vo.dst .undef) hp (aD7 d log ([], [], vo.bs)) K
   | some .undef => af5 P d base (i + 1) rest (bi5 tm vo.dst .undef) hp (aD7 d log ([], [], vo.bs)) K
   | _ => False
def aD1 (d : Bool) (log : List aK5) (l : List (List Nat × List Nat)) (ops : List VOper) : List aK5 := match d with
 | true => log ++ (l.zip ops).map fun x => (x.1.1, x.1.2, x.2.bs)
 | false => log
theorem a71 (d : Bool) (log : List aK5) (e : List Nat × List Nat) (l : List (List Nat × List Nat)) (vo : VOper) (ops : List VOper) : aD1 d log (e :: l) (vo :: ops) = aD1 d (aD7 d log (e.1, e.2, vo.bs)) l ops := by
 cases d <;> simp [aD1, aD7]
theorem bd5 [Mode] {P : Program} {d : Bool} {base : Nat} : ∀ {ops : List VOper} {i : Nat} {tm : List (Nat × HV)} {hp : List (Nat × Option Row)} {log : List aK5} {K : Nat → List (Nat × HV) → List (Nat × Option Row) → List aK5 → Prop},
  af5 P d base i ops tm hp log K → ∃ evs tm' hp' log', Runs P base i ops tm hp evs tm' hp' log' ∧ K (i + ops.length) tm' hp' (aD1 d log log' ops)
 | [], i, tm, hp, log, K, h => ⟨[], tm, hp, [], .nil _ _ _, by cases d <;> simpa [af5, aD1] using h⟩
 | vo :: rest, i, tm, hp, log, K, h => by
  simp only [af5] at h
  have exec : gOk (look tm) vo.guard = some true → OpWp P vo.op (base + 4 * i) (look tm) (ae3 hp) (fun h upd => af5 P d base (i + 1) rest (bi5 tm vo.dst h) (upd ++ hp) (aD7 d log (an4 vo.op (look tm), upd.map (·.1), vo.bs)) K) →
    ∃ evs tm' hp' log', Runs P base i (vo :: rest) tm hp evs tm' hp' log' ∧ K (i + (vo :: rest).length) tm' hp' (aD1 d log log' (vo :: rest)) := by
   intro hg hw
   obtain ⟨h, upd, hev, hk⟩ := hw.ev
   obtain ⟨evs, tm', hp', log', hr, hK⟩ := bd5 hk
   refine ⟨_, tm', hp', _, .cons (h := h) (upd := upd) (by unfold EvOK; rw [hg]; exact hev) hr, ?_⟩
   have : vo.reads (look tm) = an4 vo.op (look tm) := by unfold VOper.reads; rw [hg]
   rw [this, a71, List.length_cons, show i + (rest.length + 1) = i + 1 + rest.length by omega]
   exact hK
  have skip : gOk (look tm) vo.guard = some false → af5 P d base (i + 1) rest (bi5 tm vo.dst .undef) hp (aD7 d log ([], [], vo.bs)) K →
    ∃ evs tm' hp' log', Runs P base i (vo :: rest) tm hp evs tm' hp' log' ∧ K (i + (vo :: rest).length) tm' hp' (aD1 d log log' (vo :: rest)) := by
   intro hg hk
   obtain ⟨evs, tm', hp', log', hr, hK⟩ := bd5 hk
   refine ⟨_, tm', hp', _, .cons (h := .undef) (upd := []) (by unfold EvOK; rw [hg]; exact ⟨rfl, rfl⟩) hr, ?_⟩
   have : vo.reads (look tm) = [] := by unfold VOper.reads; rw [hg]
   rw [this, a71, List.length_cons, show i + (rest.length + 1) = i + 1 + rest.length by omega]
   exact hK
  split at h
  ·rename_i hg
   exact exec (by rw [hg]; rfl) h
  ·rename_i t want hg
   split at h
   ·rename_i b hb
    split at h
    ·rename_i hbw
     exact exec (by rw [hg]; simp [gOk, hb, hbw]) h
    ·rename_i hbw
     exact skip (by rw [hg]; simp only [gOk, hb]; cases b <;> cases want <;> simp_all) h
   ·rename_i hb
    exact skip (by rw [hg]; simp [gOk, hb]) h
   ·exact h.elim
def bE5 (log : List aK5) : Bool :=
 (range log.length).all fun i => (range log.length).all fun j => i == j || (match log[i]?, log[j]? with
  | some a, some b => b.2.1.all (fun id => !(a.1.contains id || a.2.1.contains id)) || a.2.2.contains j || b.2.2.contains i
  | _, _ => true)
theorem bQ3 {ops : List VOper} {l : List (List Nat × List Nat)} (hl : l.length = ops.length) (h : bE5 (aD1 true [] l ops) = true) : bZ6 ops l = true := by
 unfold bZ6
 rw [all_eq_true]
 intro i hi
 rw [all_eq_true]
 intro j hj
 have hi' := List.mem_range.1 hi
 have hj' := List.mem_range.1 hj
 have hlen : (aD1 true [] l ops).length = l.length := by simp [aD1, hl]
 have h1 := (all_eq_true.1 ((all_eq_true.1 h) i (by rw [hlen]; exact hi))) j (by rw [hlen]; exact hj)
 have eg : ∀ k (hk : k < l.length), (aD1 true [] l ops)[k]? = some (l[k].1, l[k].2, (ops[k]'(by omega)).bs) := by
  intro k hk
  have hk2 : k < ops.length := by omega
  have hz : (l.zip ops)[k]? = some (l[k], ops[k]) := by
   rw [List.getElem?_zip_eq_some]
   exact ⟨gE hk, gE hk2⟩
  simp only [aD1, List.nil_append, List.getElem?_map, hz, map_some]
 have ei := eg i hi'
 have ej := eg j hj'
 rw [ei, ej] at h1
 simp only [gE hi', gE hj']
 simp only [Bool.or_eq_true, Bool.or_assoc] at h1 ⊢
 rcases h1 with h1 | h1 | h1
 ·exact .inl h1
 ·exact .inr (.inl h1)
 ·refine .inr (.inr ?_)
  unfold a05
  simp only [gE (show i < ops.length by omega), gE (show j < ops.length by omega), map_some, Option.getD_some]
  rw [Bool.or_eq_true]
  exact h1
theorem cb4 [Mode] {P : Program} {base i : Nat} {ops : List VOper} {tm tm' : List (Nat × HV)} {hp hp' : List (Nat × Option Row)} {evs : List (HV × Upd)} {log : List (List Nat × List Nat)} (h : Runs P base i ops tm hp evs tm' hp' log) : log.length = ops.length := by
 induction h with
 | nil => rfl
 | cons _ _ ih => simp [ih]
def VExit.thn (K : VSt → Prop) (Q : VExit → VSt → Prop) : VExit → VSt → Prop
 | .normal, st => K st
 | e, st => Q e st
def VExit.blk (id : Nat) (Q : VExit → VSt → Prop) : VExit → VSt → Prop
 | .exit i, st => if i = id then Q .normal st else Q (.exit i) st
 | e, st => Q e st
def vwp [Mode] (P : Program) : aW8 → (VExit → VSt → Prop) → VSt → Prop
 | .skip, Q, st => Q .normal st
 | .region d ops, Q, st => af5 P d st.nx 0 ops st.tm st.hp [] fun i tm hp log => (d = true → bE5 log = true) ∧ Q .normal ⟨tm, hp, st.nx + 4 * i⟩
 | .seq a b, Q, st => vwp P a (VExit.thn (vwp P b Q) Q) st
 | .cond x a b, Q, st => match x.get (look st.tm) with
  | some (.pv (.bool t)) => if t = true then vwp P a Q st else vwp P b Q st
  | _ => False
 | .block id c, Q, st => vwp P c (VExit.blk id Q) st
 | .loop ks c, Q, st => ∃ I : Nat → VSt → Prop, (∃ n, I n (aP6 ks st)) ∧ ∀ n st', I n st' → vwp P c (VExit.thn (fun st'' => ∃ m, m < n ∧ I m (aP6 ks st'')) Q) st'
 | .exit id, Q, st => Q (.exit id) st
 | .ret, Q, st => Q .ret st
 | .keep ks c, Q, st => vwp P c Q (aP6 ks st)
 | .own s sh c, Q, st => vwp P c Q (bN8 s sh st)
 | .weak c, Q, st => ∃ st', Sub st' st ∧ vwp P c Q st'
 | .bad, _, _ => False
 | .post ks c, Q, st => vwp P c (VExit.thn (fun st' => ∃ st'', Sub st'' (aP6 ks st') ∧ Q .normal st'') Q) st
def ct8 (N : Nat) : Option Nat → Bool
 | none => true
 | some d => decide (d < N)
def cn7 [Mode] (P : Program) (v : VOp) (op : Op) : Option VOp := match v with
 | .bad => some .bad
 | _ => bj3 P op
theorem bQ4 [Mode] {P : Program} {v r : VOp} {op : Op} (h : cn7 P v op = some r) : r = .bad ∨ bj3 P op = some r := by
 unfold cn7 at h
 split at h
 ·cases h; exact .inl rfl
 ·exact .inr h
def ci9 [Mode] (P : Program) (N : Nat) (ops : Array Oper) (o : Oper) (vo : VOper) : Option VOper :=
 (cn7 P vo.op o.op).bind fun op => (match o.guard with
  | none => some none
  | some (j, want) => ((ops[j]?).bind (·.dst)).map fun t => some (t, want)).bind fun g =>
 if ct8 N o.dst = true then some { dst := o.dst, op := op, guard := g, bef := vo.bef, tol := vo.tol } else none
def aX6 [Mode] (P : Program) (N : Nat) (ops : Array Oper) : List Oper → List VOper → Option (List VOper)
 | [], [] => some []
 | o :: os, vo :: vos => (ci9 P N ops o vo).bind fun x => (aX6 P N ops os vos).map fun r => x :: r
 | _, _ => none
def noAB (r : List VOper) : Bool := r.all fun o => !af6 o.op
theorem a73 [Mode] {P : Program} {N : Nat} {ops : Array Oper} : ∀ {os : List Oper} {vos r : List VOper}, aX6 P N ops os vos = some r → os.length = r.length ∧ ∀ (i : Nat) (o : Oper) (vo : VOper), os[i]? = some o → r[i]? = some vo → bJ5 P ops o vo ∧ ∀ d, vo.dst = some d → d < N
 | [], [], r, h => by simp [aX6] at h; subst h; simp
 | [], _ :: _, r, h => by simp [aX6] at h
 | _ :: _, [], r, h => by simp [aX6] at h
 | o :: os, vo :: vos, r, h => by
  simp only [aX6, oE, oM] at h
  obtain ⟨x, hx, r', hr', rfl⟩ := h
  obtain ⟨h1, h2⟩ := a73 hr'
  refine ⟨by simp [h1], fun i o' vo' ho hvo => ?_⟩
  cases i with
  | succ i => exact h2 i o' vo' (by simpa using ho) (by simpa using hvo)
  | zero =>
   simp only [List.getElem?_cons_zero, oI] at ho hvo
   subst ho; subst hvo
   unfold ci9 at hx
   simp only [oE] at hx
   obtain ⟨op, hop, g, hg, hx⟩ := hx
   split at hx
   ·rename_i hd
    simp only [oI] at hx
    subst hx
    refine ⟨⟨rfl, bQ4 hop, ?_⟩, fun d hdd => ?_⟩
    ·split at hg
     ·rename_i hgd
      simp only [oI] at hg
      exact .inl ⟨hgd, hg.symm⟩
     ·rename_i j want hgd
      simp only [oM] at hg
      obtain ⟨t, ht, rfl⟩ := hg
      exact .inr ⟨j, t, want, hgd, ht, rfl⟩
    ·simp only at hdd
     rw [hdd] at hd
     simpa [ct8] using hd
   ·cases hx
def QRep [Mode] (N : Nat) (w0 : Base) (I0 : Prot) (Q : VExit → VSt → Prop) : Exit → Act → World → Prop
 | .normal, a, w => ∃ st, bv9 N w0 I0 st a w ∧ Q .normal st
 | .exit id, a, w => ∃ st, bv9 N w0 I0 st a w ∧ Q (.exit id) st
 | .ret, a, w => ∃ st, bv9 N w0 I0 st a w ∧ Q .ret st
 | _, _, _ => False
section
variable {P : Program} {N : Nat} {w0 : Base} {I0 : Prot}
theorem a74 [Mode] (hmix : P.follows .mixedOrders = true) {ops : Array Oper} {id : Nat} {draw : Bool} {r : List VOper} {Q : VExit → VSt → Prop} (hops : a99 P N ops r) (hP : w0.P = P) (hchk : draw = true → bZ7 ops r = true ∧ bZ5 r = true ∧ noAB r = true) {st : VSt} {a : Act} {w : World}
  (hw : vwp P (.region draw r) Q st) (hr : bv9 N w0 I0 st a w) : (Code.region id ops draw).wp P (QRep N w0 I0 Q) a w := by
 obtain ⟨hN, I, ρ, hrep, hfree⟩ := hr
 simp only [vwp] at hw
 obtain ⟨evs, tm', hp', log', hruns, hlog, hQ⟩ := bd5 hw
 rw [Nat.zero_add] at hQ
 cases draw with
 | false =>
  refine wp_region ?_
  have hsz : range ops.size = List.range' 0 r.length := by rw [hops.1, List.range_eq_range']
  rw [hsz]
  refine bQ1 hP hops hruns (fun k => by simp) (by simp) hrep hN (fun k hk => hfree k (by omega)) fun a' w' I' ρ' h1 h2 h3 => ⟨_, ⟨by omega, I', ρ', h1, fun k hk => h3 k hk⟩, hQ⟩
 | true =>
  obtain ⟨hb, ht, hab⟩ := hchk rfl
  have hnB : ∀ (i : Nat) (vo : VOper), r[i]? = some vo → af6 vo.op = false := fun i vo h => by
   have := (all_eq_true.1 hab) vo (List.mem_of_getElem? h)
   simpa using this
  refine wp_region_any hmix ?_
  have hrep' : RepA w0 I0 (look st.tm) (ae3 st.hp) a w.drew I ρ := hrep.grow (ids := fun _ => False) hrep.mem.drew ⟨fun _ _ _ => rfl, fun _ _ h => h, fun _ _ h => h, fun _ h _ => h⟩
  have hg : ∀ i, (Array.replicate ops.size false).getD i false = false := fun i => by
   by_cases hi : i < ops.size <;> simp [hi]
  have hel : log'.length = r.length := cb4 hruns
  refine bZ8 hP hnB hops hb ht hruns (bQ3 hel (hlog rfl)) (fun a' w' I' ρ' h1 h2 h3 n0 _ => ⟨_, ⟨h2, I', ρ', h1, fun k hk => h3 k hk⟩, hQ⟩) ops.size (Array.replicate ops.size false) a w.drew I ρ (by simp) ?_ hN
   (fun i _ _ k hk _ => hfree k (by omega)) (fun k hk => hfree k (by omega)) (fun i o _ hd => by rw [hg] at hd; cases hd) ?_
  ·have e1 : aD0 st.tm r evs (fun j => (Array.replicate ops.size false).getD j false) r.length = look st.tm := by
    funext s
    have : lastIn (fun j => (Array.replicate ops.size false).getD j false) (fun j => if ((r[j]?).bind (·.dst)) = some s then (evs[j]?).map (·.1) else none) r.length = none := by
     rw [show (fun j => (Array.replicate ops.size false).getD j false) = fun _ => false from funext hg]
     generalize r.length = n
     induction n with
     | zero => rfl
     | succ n ih => simpa [lastIn] using ih
    simp only [aD0, this]
   have e2 : ar6 st.hp evs (fun j => (Array.replicate ops.size false).getD j false) r.length = ae3 st.hp := by
    funext s
    have : lastIn (fun j => (Array.replicate ops.size false).getD j false) (fun j => (evs[j]?).bind fun e => look e.2 s) r.length = none := by
     rw [show (fun j => (Array.replicate ops.size false).getD j false) = fun _ => false from funext hg]
     generalize r.length = n
     induction n with
     | zero => rfl
     | succ n ih => simpa [lastIn] using ih
    simp only [ar6, this]
   rw [e1, e2]; exact hrep'
  ·rw [hops.1]
   generalize (fun j => (Array.replicate r.length false).getD j false) = D
   generalize r.length = n
   induction n with
   | zero => exact Nat.le_refl _
   | succ n ih => simp only [undone]; split <;> omega
end
end Go.Vm
