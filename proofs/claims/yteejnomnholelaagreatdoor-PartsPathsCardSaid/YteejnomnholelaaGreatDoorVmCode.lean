import Derived.Test.YteejnomnholelaaGreatDoorVmKeep
namespace Go.Vm
set_option autoImplicit false
open Go.RowKit (Below)
def CallWp [Mode] (P : Program) (f : FuncId) (hs : List HV) (id0 : Nat) (row : ac6) (K : HV → Upd → Prop) : Prop :=
 (∃ gs ds, hs.mapM (ai6 gs row 4) = some ds ∧ VCall P f ds fun r fl => (fl = true ∨ hs.flatMap (aV7 gs 4) = []) ∧ ((hs.flatMap (ah8 gs 4)).Nodup ∧ (gs = [] ∨ Mode.y = false)) ∧ ar8 r = true ∧ (ag8 id0 r).2.2 ≤ id0 + 4 ∧ K (ag8 id0 r).1 ((ag8 id0 r).2.1 ++ ae8 (hs.flatMap (ah8 gs 4)))) ∨
 (∃ id T e bs ps r bs', hs = .optr id 0 0 :: ps.map .pv ∧ row id = some (.b T e bs) ∧ BuilderOK P f T e bs ps r bs' ∧ K (ag8 id0 r).1 [(id, some (.b T e bs'))]) ∨
 ∃ rs h upd, bm5 P f hs rs id0 h upd ∧ (∀ q ∈ rs, row q.1 = some q.2 ∧ (q.1 ∈ hs.flatMap (ai7 4) ∨ (q.1, none) ∈ upd)) ∧ K h upd
theorem CallWp.ev [Mode] {P : Program} {f : FuncId} {hs : List HV} {id0 : Nat} {row : ac6} {K : HV → Upd → Prop} (h : CallWp P f hs id0 row K) : ∃ h upd, b62 P f hs id0 row h upd ∧ K h upd := by
 rcases h with ⟨gs, ds, h1, r, fl, h2, h3, h4, h5, h6, h7⟩ | ⟨id, T, e, bs, ps, r, bs', h1, h2, h3, h4⟩ | ⟨rs, h, upd, h1, h2, h3⟩
 ·exact ⟨_, _, .inl ⟨gs, ds, r, fl, h1, h2, h3, h4, h5, h6, rfl, rfl⟩, h7⟩
 ·exact ⟨_, _, .inr (.inl ⟨id, T, e, bs, ps, r, bs', h1, h2, h3, rfl, rfl⟩), h4⟩
 ·exact ⟨h, upd, .inr (.inr ⟨rs, h1, h2⟩), h3⟩
theorem CallWp.mono [Mode] {P : Program} {f : FuncId} {hs : List HV} {id0 : Nat} {row : ac6} {K K' : HV → Upd → Prop} (hk : ∀ h u, K h u → K' h u) (h : CallWp P f hs id0 row K) : CallWp P f hs id0 row K' := by
 rcases h with ⟨gs, ds, h1, r, fl, h2, h3, h4, h5, h6, h7⟩ | ⟨id, T, e, bs, ps, r, bs', h1, h2, h3, h4⟩ | ⟨rs, h, upd, h1, h2, h3⟩
 ·exact .inl ⟨gs, ds, h1, r, fl, h2, h3, h4, h5, h6, hk _ _ h7⟩
 ·exact .inr (.inl ⟨id, T, e, bs, ps, r, bs', h1, h2, h3, hk _ _ h4⟩)
 ·exact .inr (.inr ⟨rs, h, upd, h1, h2, hk _ _ h3⟩)
def OpWp0 [Mode] (P : Program) (op : VOp) (id0 : Nat) (get : Nat → Option HV) (row : ac6) (K : HV → Upd → Prop) : Prop :=
 if ai9 op then ∃ f hs, aq3 get op = some (f, hs) ∧ CallWp P f hs id0 row K
 else if af2 op then ∃ T e, op = .allocB T e ∧ (∀ k T' e' bs', row k ≠ some (.b T' e' bs')) ∧ K (.optr id0 0 0) [(id0, some (.b T e []))]
 else ∃ h upd, aa4 op id0 get row = some (h, upd) ∧ K h upd
theorem OpWp0.ev [Mode] {P : Program} {op : VOp} {id0 : Nat} {get : Nat → Option HV} {row : ac6} {K : HV → Upd → Prop} (h : OpWp0 P op id0 get row K) : ∃ h upd, OpEv0 P op id0 get row h upd ∧ K h upd := by
 unfold OpWp0 at h
 unfold OpEv0
 split at h
 ·rename_i hc
  obtain ⟨f, hs, h1, h2⟩ := h
  obtain ⟨y, upd, h3, h4⟩ := h2.ev
  exact ⟨y, upd, by rw [if_pos hc]; exact ⟨f, hs, h1, h3⟩, h4⟩
 ·rename_i hc
  split at h
  ·rename_i hb
   obtain ⟨T, e, h1, h2, h3⟩ := h
   exact ⟨_, _, by rw [if_neg hc, if_pos hb]; exact ⟨T, e, h1, rfl, rfl, h2⟩, h3⟩
  ·rename_i hb
   obtain ⟨h, upd, h1, h2⟩ := h
   exact ⟨h, upd, by rw [if_neg hc, if_neg hb]; exact h1, h2⟩
def OpWp [Mode] (P : Program) (op : VOp) (id0 : Nat) (get : Nat → Option HV) (row : ac6) (K : HV → Upd → Prop) : Prop :=
 (OpWp0 P op id0 get row fun h upd => K h upd ∨ ∃ sh es tk len rest, h = .osl id0 0 len ∧ upd = (id0, some (.p sh es tk)) :: rest ∧ len ≤ es.length ∧ look rest id0 = none ∧ K (.pv (.sl sh (es.take len))) rest) ∨
 ∃ h upd, ((∃ x, op = .load none x ∧ bg4 x id0 get row h upd) ∨ (∃ sh x v, op = .store sh x v ∧ Mode.y = false ∧ bX1 sh x v get row h upd) ∨
  (∃ sh n x y, op = .append sh n x y ∧ bX2 sh x y get row h upd) ∨ (∃ sh x lo hi, op = .slSl sh x lo hi ∧ bx6 sh x lo hi get row h upd) ∨ ai9 op = false ∧ af2 op = false ∧ Mode.y = false ∧ bs3 op id0 get row h upd) ∧ K h upd
theorem OpWp.ev [Mode] {P : Program} {op : VOp} {id0 : Nat} {get : Nat → Option HV} {row : ac6} {K : HV → Upd → Prop} (h : OpWp P op id0 get row K) : ∃ h upd, OpEv P op id0 get row h upd ∧ K h upd := by
 rcases h with h | ⟨h, upd, h1, h2⟩
 ·obtain ⟨h, upd, h1, h2⟩ := OpWp0.ev h
  rcases h2 with h2 | ⟨sh, es, tk, len, rest, rfl, rfl, hle, hlk, h2⟩
  ·exact ⟨h, upd, .inl h1, h2⟩
  ·exact ⟨_, rest, .inr (.inl ⟨sh, es, tk, len, h1, hle, hlk, rfl⟩), h2⟩
 ·exact ⟨h, upd, .inr (.inr h1), h2⟩
theorem OpWp0.mono [Mode] {P : Program} {op : VOp} {id0 : Nat} {get : Nat → Option HV} {row : ac6} {K K' : HV → Upd → Prop} (hk : ∀ h u, K h u → K' h u) (h : OpWp0 P op id0 get row K) : OpWp0 P op id0 get row K' := by
 unfold OpWp0 at h ⊢
 split at h
 ·rename_i hc
  obtain ⟨f, hs, h1, h2⟩ := h
  rw [if_pos hc]
  exact ⟨f, hs, h1, h2.mono hk⟩
 ·rename_i hc
  rw [if_neg hc]
  split at h
  ·rename_i hb
   obtain ⟨T, e, h1, h2, h3⟩ := h
   rw [if_pos hb]
   exact ⟨T, e, h1, h2, hk _ _ h3⟩
  ·rename_i hb
   obtain ⟨h, u, h1, h2⟩ := h
   rw [if_neg hb]
   exact ⟨h, u, h1, hk _ _ h2⟩
theorem OpWp.mono [Mode] {P : Program} {op : VOp} {id0 : Nat} {get : Nat → Option HV} {row : ac6} {K K' : HV → Upd → Prop} (hk : ∀ h u, K h u → K' h u) (h : OpWp P op id0 get row K) : OpWp P op id0 get row K' :=
 h.imp (OpWp0.mono fun h u hh => by
  rcases hh with hh | ⟨sh, es, tk, len, rest, h1, h2, h3, h4, h5⟩
  ·exact .inl (hk _ _ hh)
  ·exact .inr ⟨sh, es, tk, len, rest, h1, h2, h3, h4, hk _ _ h5⟩) fun ⟨h, u, h1, h2⟩ => ⟨h, u, h1, hk _ _ h2⟩
abbrev aF7 := List Nat × List Nat × List Nat
def az7 (d : Bool) (log : List aF7) (e : aF7) : List aF7 := match d with
 | true => log ++ [e]
 | false => log
def af1 [Mode] (P : Program) (d : Bool) (base : Nat) : Nat → List VOper → List (Nat × HV) → List (Nat × Option Row) → List aF7 → (Nat → List (Nat × HV) → List (Nat × Option Row) → List aF7 → Prop) → Prop
 | i, [], tm, hp, log, K => K i tm hp log
 | i, vo :: rest, tm, hp, log, K =>
  match vo.guard with
  | none => OpWp P vo.op (base + 4 * i) (look tm) (ad9 hp) fun h upd => af1 P d base (i + 1) rest (ba3 tm vo.dst h) (upd ++ hp) (az7 d log (am2 vo.op (look tm), upd.map (·.1), vo.bs)) K
  | some (t, want) => match look tm t with
   | some (.pv (.bool b)) =>
    if b = want then OpWp P vo.op (base + 4 * i) (look tm) (ad9 hp) fun h upd => af1 P d base (i + 1) rest (ba3 tm vo.dst h) (upd ++ hp) (az7 d log (am2 vo.op (look tm), upd.map (·.1), vo.bs)) K
    else af1 P d base (i + 1) rest (ba3 tm vo.dst .undef) hp (az7 d log ([], [], vo.bs)) K
   | some .undef => af1 P d base (i + 1) rest (ba3 tm vo.dst .undef) hp (az7 d log ([], [], vo.bs)) K
   | _ => False
def az0 (d : Bool) (log : List aF7) (l : List (List Nat × List Nat)) (ops : List VOper) : List aF7 := match d with
 | true => log ++ (l.zip ops).map fun x => (x.1.1, x.1.2, x.2.bs)
 | false => log
theorem aY2 (d : Bool) (log : List aF7) (e : List Nat × List Nat) (l : List (List Nat × List Nat)) (vo : VOper) (ops : List VOper) : az0 d log (e :: l) (vo :: ops) = az0 d (az7 d log (e.1, e.2, vo.bs)) l ops := by
 cases d <;> simp [az0, az7]
theorem a42 [Mode] {P : Program} {d : Bool} {base : Nat} : ∀ {ops : List VOper} {i : Nat} {tm : List (Nat × HV)} {hp : List (Nat × Option Row)} {log : List aF7} {K : Nat → List (Nat × HV) → List (Nat × Option Row) → List aF7 → Prop},
  af1 P d base i ops tm hp log K → ∃ evs tm' hp' log', Runs P base i ops tm hp evs tm' hp' log' ∧ K (i + ops.length) tm' hp' (az0 d log log' ops)
 | [], i, tm, hp, log, K, h => ⟨[], tm, hp, [], .nil _ _ _, by cases d <;> simpa [af1, az0] using h⟩
 | vo :: rest, i, tm, hp, log, K, h => by
  simp only [af1] at h
  have exec : gOk (look tm) vo.guard = some true → OpWp P vo.op (base + 4 * i) (look tm) (ad9 hp) (fun h upd => af1 P d base (i + 1) rest (ba3 tm vo.dst h) (upd ++ hp) (az7 d log (am2 vo.op (look tm), upd.map (·.1), vo.bs)) K) →
    ∃ evs tm' hp' log', Runs P base i (vo :: rest) tm hp evs tm' hp' log' ∧ K (i + (vo :: rest).length) tm' hp' (az0 d log log' (vo :: rest)) := by
   intro hg hw
   obtain ⟨h, upd, hev, hk⟩ := hw.ev
   obtain ⟨evs, tm', hp', log', hr, hK⟩ := a42 hk
   refine ⟨_, tm', hp', _, .cons (h := h) (upd := upd) (by unfold EvOK; rw [hg]; exact hev) hr, ?_⟩
   have : vo.reads (look tm) = am2 vo.op (look tm) := by unfold VOper.reads; rw [hg]
   rw [this, aY2, List.length_cons, show i + (rest.length + 1) = i + 1 + rest.length by omega]
   exact hK
  have skip : gOk (look tm) vo.guard = some false → af1 P d base (i + 1) rest (ba3 tm vo.dst .undef) hp (az7 d log ([], [], vo.bs)) K →
    ∃ evs tm' hp' log', Runs P base i (vo :: rest) tm hp evs tm' hp' log' ∧ K (i + (vo :: rest).length) tm' hp' (az0 d log log' (vo :: rest)) := by
   intro hg hk
   obtain ⟨evs, tm', hp', log', hr, hK⟩ := a42 hk
   refine ⟨_, tm', hp', _, .cons (h := .undef) (upd := []) (by unfold EvOK; rw [hg]; exact ⟨rfl, rfl⟩) hr, ?_⟩
   have : vo.reads (look tm) = [] := by unfold VOper.reads; rw [hg]
   rw [this, aY2, List.length_cons, show i + (rest.length + 1) = i + 1 + rest.length by omega]
   exact hK
  split at h
  ·rename_i hg
   exact exec (by rw [hg]; rfl) h
  ·rename_i t want hg
   split at h
   ·rename_i b hb
    split at h
    ·rename_i hbw
     exact exec (by rw [hg]; simp [gOk, hb, hbw]) h
    ·rename_i hbw
     exact skip (by rw [hg]; simp only [gOk, hb]; cases b <;> cases want <;> simp_all) h
   ·rename_i hb
    exact skip (by rw [hg]; simp [gOk, hb]) h
   ·exact h.elim
def bu8 (log : List aF7) : Bool :=
 (List.range log.length).all fun i => (List.range log.length).all fun j => i == j || (match log[i]?, log[j]? with
  | some a, some b => b.2.1.all (fun id => !(a.1.contains id || a.2.1.contains id)) || a.2.2.contains j || b.2.2.contains i
  | _, _ => true)
theorem bE9 {ops : List VOper} {l : List (List Nat × List Nat)} (hl : l.length = ops.length) (h : bu8 (az0 true [] l ops) = true) : bN7 ops l = true := by
 unfold bN7
 rw [List.all_eq_true]
 intro i hi
 rw [List.all_eq_true]
 intro j hj
 have hi' := List.mem_range.1 hi
 have hj' := List.mem_range.1 hj
 have hlen : (az0 true [] l ops).length = l.length := by simp [az0, hl]
 have h1 := (List.all_eq_true.1 ((List.all_eq_true.1 h) i (by rw [hlen]; exact hi))) j (by rw [hlen]; exact hj)
 have eg : ∀ k (hk : k < l.length), (az0 true [] l ops)[k]? = some (l[k].1, l[k].2, (ops[k]'(by omega)).bs) := by
  intro k hk
  have hk2 : k < ops.length := by omega
  have hz : (l.zip ops)[k]? = some (l[k], ops[k]) := by
   rw [List.getElem?_zip_eq_some]
   exact ⟨List.getElem?_eq_getElem hk, List.getElem?_eq_getElem hk2⟩
  simp only [az0, List.nil_append, List.getElem?_map, hz, Option.map_some]
 have ei := eg i hi'
 have ej := eg j hj'
 rw [ei, ej] at h1
 simp only [List.getElem?_eq_getElem hi', List.getElem?_eq_getElem hj']
 simp only [Bool.or_eq_true, Bool.or_assoc] at h1 ⊢
 rcases h1 with h1 | h1 | h1
 ·exact .inl h1
 ·exact .inr (.inl h1)
 ·refine .inr (.inr ?_)
  unfold aT2
  simp only [List.getElem?_eq_getElem (show i < ops.length by omega), List.getElem?_eq_getElem (show j < ops.length by omega), Option.map_some, Option.getD_some]
  rw [Bool.or_eq_true]
  exact h1
theorem bY8 [Mode] {P : Program} {base i : Nat} {ops : List VOper} {tm tm' : List (Nat × HV)} {hp hp' : List (Nat × Option Row)} {evs : List (HV × Upd)} {log : List (List Nat × List Nat)} (h : Runs P base i ops tm hp evs tm' hp' log) : log.length = ops.length := by
 induction h with
 | nil => rfl
 | cons _ _ ih => simp [ih]
def VExit.thn (K : VSt → Prop) (Q : VExit → VSt → Prop) : VExit → VSt → Prop
 | .normal, st => K st
 | e, st => Q e st
def VExit.blk (id : Nat) (Q : VExit → VSt → Prop) : VExit → VSt → Prop
 | .exit i, st => if i = id then Q .normal st else Q (.exit i) st
 | e, st => Q e st
def vwp [Mode] (P : Program) : aP5 → (VExit → VSt → Prop) → VSt → Prop
 | .skip, Q, st => Q .normal st
 | .region d ops, Q, st => af1 P d st.nx 0 ops st.tm st.hp [] fun i tm hp log => (d = true → bu8 log = true) ∧ Q .normal ⟨tm, hp, st.nx + 4 * i⟩
 | .seq a b, Q, st => vwp P a (VExit.thn (vwp P b Q) Q) st
 | .cond x a b, Q, st => match x.get (look st.tm) with
  | some (.pv (.bool t)) => if t = true then vwp P a Q st else vwp P b Q st
  | _ => False
 | .block id c, Q, st => vwp P c (VExit.blk id Q) st
 | .loop ks c, Q, st => ∃ I : Nat → VSt → Prop, (∃ n, I n (aJ4 ks st)) ∧ ∀ n st', I n st' → vwp P c (VExit.thn (fun st'' => ∃ m, m < n ∧ I m (aJ4 ks st'')) Q) st'
 | .exit id, Q, st => Q (.exit id) st
 | .ret, Q, st => Q .ret st
 | .keep ks c, Q, st => vwp P c Q (aJ4 ks st)
 | .own s sh c, Q, st => vwp P c Q (bl2 s sh st)
 | .weak c, Q, st => ∃ st', Sub st' st ∧ vwp P c Q st'
 | .bad, _, _ => False
 | .post ks c, Q, st => vwp P c (VExit.thn (fun st' => ∃ st'', Sub st'' (aJ4 ks st') ∧ Q .normal st'') Q) st
def cf8 (N : Nat) : Option Nat → Bool
 | none => true
 | some d => decide (d < N)
def ca9 [Mode] (P : Program) (v : VOp) (op : Op) : Option VOp := match v with
 | .bad => some .bad
 | _ => bb3 P op
theorem bF0 [Mode] {P : Program} {v r : VOp} {op : Op} (h : ca9 P v op = some r) : r = .bad ∨ bb3 P op = some r := by
 unfold ca9 at h
 split at h
 ·cases h; exact .inl rfl
 ·exact .inr h
def b64 [Mode] (P : Program) (N : Nat) (ops : Array Oper) (o : Oper) (vo : VOper) : Option VOper :=
 (ca9 P vo.op o.op).bind fun op => (match o.guard with
  | none => some none
  | some (j, want) => ((ops[j]?).bind (·.dst)).map fun t => some (t, want)).bind fun g =>
 if cf8 N o.dst = true then some { dst := o.dst, op := op, guard := g, bef := vo.bef, tol := vo.tol } else none
def aQ3 [Mode] (P : Program) (N : Nat) (ops : Array Oper) : List Oper → List VOper → Option (List VOper)
 | [], [] => some []
 | o :: os, vo :: vos => (b64 P N ops o vo).bind fun x => (aQ3 P N ops os vos).map fun r => x :: r
 | _, _ => none
def noAB (r : List VOper) : Bool := r.all fun o => !af2 o.op
theorem aY3 [Mode] {P : Program} {N : Nat} {ops : Array Oper} : ∀ {os : List Oper} {vos r : List VOper}, aQ3 P N ops os vos = some r → os.length = r.length ∧ ∀ (i : Nat) (o : Oper) (vo : VOper), os[i]? = some o → r[i]? = some vo → by7 P ops o vo ∧ ∀ d, vo.dst = some d → d < N
 | [], [], r, h => by simp [aQ3] at h; subst h; simp
 | [], _ :: _, r, h => by simp [aQ3] at h
 | _ :: _, [], r, h => by simp [aQ3] at h
 | o :: os, vo :: vos, r, h => by
  simp only [aQ3, Option.bind_eq_some_iff, Option.map_eq_some_iff] at h
  obtain ⟨x, hx, r', hr', rfl⟩ := h
  obtain ⟨h1, h2⟩ := aY3 hr'
  refine ⟨by simp [h1], fun i o' vo' ho hvo => ?_⟩
  cases i with
  | succ i => exact h2 i o' vo' (by simpa using ho) (by simpa using hvo)
  | zero =>
   simp only [List.getElem?_cons_zero, Option.some.injEq] at ho hvo
   subst ho; subst hvo
   unfold b64 at hx
   simp only [Option.bind_eq_some_iff] at hx
   obtain ⟨op, hop, g, hg, hx⟩ := hx
   split at hx
   ·rename_i hd
    simp only [Option.some.injEq] at hx
    subst hx
    refine ⟨⟨rfl, bF0 hop, ?_⟩, fun d hdd => ?_⟩
    ·split at hg
     ·rename_i hgd
      simp only [Option.some.injEq] at hg
      exact .inl ⟨hgd, hg.symm⟩
     ·rename_i j want hgd
      simp only [Option.map_eq_some_iff] at hg
      obtain ⟨t, ht, rfl⟩ := hg
      exact .inr ⟨j, t, want, hgd, ht, rfl⟩
    ·simp only at hdd
     rw [hdd] at hd
     simpa [cf8] using hd
   ·cases hx
def QRep [Mode] (N : Nat) (w0 : Base) (I0 : Prot) (Q : VExit → VSt → Prop) : Exit → Act → World → Prop
 | .normal, a, w => ∃ st, bm9 N w0 I0 st a w ∧ Q .normal st
 | .exit id, a, w => ∃ st, bm9 N w0 I0 st a w ∧ Q (.exit id) st
 | .ret, a, w => ∃ st, bm9 N w0 I0 st a w ∧ Q .ret st
 | _, _, _ => False
section
variable {P : Program} {N : Nat} {w0 : Base} {I0 : Prot}
theorem aY4 [Mode] (hmix : P.follows .mixedOrders = true) {ops : Array Oper} {id : Nat} {draw : Bool} {r : List VOper} {Q : VExit → VSt → Prop} (hops : a06 P N ops r) (hP : w0.P = P) (hchk : draw = true → bN8 ops r = true ∧ bN6 r = true ∧ noAB r = true) {st : VSt} {a : Act} {w : World}
  (hw : vwp P (.region draw r) Q st) (hr : bm9 N w0 I0 st a w) : (Code.region id ops draw).wp P (QRep N w0 I0 Q) a w := by
 obtain ⟨hN, I, ρ, hrep, hfree⟩ := hr
 simp only [vwp] at hw
 obtain ⟨evs, tm', hp', log', hruns, hlog, hQ⟩ := a42 hw
 rw [Nat.zero_add] at hQ
 cases draw with
 | false =>
  refine wp_region ?_
  have hsz : List.range ops.size = List.range' 0 r.length := by rw [hops.1, List.range_eq_range']
  rw [hsz]
  refine bE7 hP hops hruns (fun k => by simp) (by simp) hrep hN (fun k hk => hfree k (by omega)) fun a' w' I' ρ' h1 h2 h3 => ⟨_, ⟨by omega, I', ρ', h1, fun k hk => h3 k hk⟩, hQ⟩
 | true =>
  obtain ⟨hb, ht, hab⟩ := hchk rfl
  have hnB : ∀ (i : Nat) (vo : VOper), r[i]? = some vo → af2 vo.op = false := fun i vo h => by
   have := (List.all_eq_true.1 hab) vo (List.mem_of_getElem? h)
   simpa using this
  refine wp_region_any hmix ?_
  have hrep' : RepA w0 I0 (look st.tm) (ad9 st.hp) a w.drew I ρ := hrep.grow (ids := fun _ => False) hrep.mem.drew ⟨fun _ _ _ => rfl, fun _ _ h => h, fun _ _ h => h, fun _ h _ => h⟩
  have hg : ∀ i, (Array.replicate ops.size false).getD i false = false := fun i => by
   by_cases hi : i < ops.size <;> simp [hi]
  have hel : log'.length = r.length := bY8 hruns
  refine bN9 hP hnB hops hb ht hruns (bE9 hel (hlog rfl)) (fun a' w' I' ρ' h1 h2 h3 n0 _ => ⟨_, ⟨h2, I', ρ', h1, fun k hk => h3 k hk⟩, hQ⟩) ops.size (Array.replicate ops.size false) a w.drew I ρ (by simp) ?_ hN
   (fun i _ _ k hk _ => hfree k (by omega)) (fun k hk => hfree k (by omega)) (fun i o _ hd => by rw [hg] at hd; cases hd) ?_
  ·have e1 : ay9 st.tm r evs (fun j => (Array.replicate ops.size false).getD j false) r.length = look st.tm := by
    funext s
    have : lastIn (fun j => (Array.replicate ops.size false).getD j false) (fun j => if ((r[j]?).bind (·.dst)) = some s then (evs[j]?).map (·.1) else none) r.length = none := by
     rw [show (fun j => (Array.replicate ops.size false).getD j false) = fun _ => false from funext hg]
     generalize r.length = n
     induction n with
     | zero => rfl
     | succ n ih => simpa [lastIn] using ih
    simp only [ay9, this]
   have e2 : aq1 st.hp evs (fun j => (Array.replicate ops.size false).getD j false) r.length = ad9 st.hp := by
    funext s
    have : lastIn (fun j => (Array.replicate ops.size false).getD j false) (fun j => (evs[j]?).bind fun e => look e.2 s) r.length = none := by
     rw [show (fun j => (Array.replicate ops.size false).getD j false) = fun _ => false from funext hg]
     generalize r.length = n
     induction n with
     | zero => rfl
     | succ n ih => simpa [lastIn] using ih
    simp only [aq1, this]
   rw [e1, e2]; exact hrep'
  ·rw [hops.1]
   generalize (fun j => (Array.replicate r.length false).getD j false) = D
   generalize r.length = n
   induction n with
   | zero => exact Nat.le_refl _
   | succ n ih => simp only [undone]; split <;> omega
end
end Go.Vm
