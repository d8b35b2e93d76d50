import Derived.Test.YtchaaedlfibdoaaGreatDoorVmOper
open List (range)
namespace Go.Vm
open Go.RowKit (Below)
section last
variable {α : Type}
def lastIn (D : Nat → Bool) (f : Nat → Option α) : Nat → Option α
 | 0 => none
 | n + 1 => match (if D n = true then f n else none) with
  | some x => some x
  | none => lastIn D f n
theorem af1 {D D' : Nat → Bool} {f : Nat → Option α} : ∀ {n : Nat}, (∀ j, j < n → (f j).isSome = true → D j = D' j) → lastIn D f n = lastIn D' f n
 | 0, _ => rfl
 | n + 1, h => by
  simp only [lastIn]
  rw [af1 fun j hj => h j (by omega)]
  cases hf : f n with
  | none => simp
  | some x => rw [h n (by omega) (by simp [hf])]
theorem aG6 {f : Nat → Option α} (i : Nat) : ∀ {n : Nat}, i ≤ n → lastIn (fun j => decide (j < i)) f n = lastIn (fun _ => true) f i
  | 0, h => by have : i = 0 := by omega
               subst this; rfl
  | n + 1, h => by
    by_cases hi : i = n + 1
    · subst hi
      exact af1 fun j hj _ => by simp [hj]
    · simp only [lastIn]
      rw [iN (by simp; omega)]
      exact aG6 i (by omega)
theorem aq3 {D : Nat → Bool} {f : Nat → Option α} {i : Nat} (hD : D i = false) : ∀ {n : Nat}, i < n → (∀ j, i < j → j < n → D j = true → f j = none) →
  lastIn (fun j => D j || decide (j = i)) f n = (match f i with | some x => some x | none => lastIn D f n)
 | 0, h, _ => by omega
 | n + 1, h, hn => by
  by_cases hi : i = n
  ·subst hi
   simp only [lastIn, hD]
   have hr : lastIn (fun j => D j || decide (j = i)) f i = lastIn D f i := af1 fun j hj _ => by
    have : ¬ j = i := by omega
    simp [this]
   rw [hr]
   cases f i <;> simp
  ·have ih := aq3 (D := D) (f := f) hD (n := n) (by omega) (fun j h1 h2 => hn j h1 (by omega))
   have hni : ¬ n = i := fun e => hi e.symm
   simp only [lastIn, hni, decide_false, Bool.or_false]
   rw [ih]
   by_cases hdn : D n = true
   ·rw [hn n (by omega) (by omega) hdn]
    cases f i <;> simp
   ·simp [hdn]
theorem aA3 {D : Nat → Bool} {f : Nat → Option α} {i n : Nat} (hf : f i = none) : lastIn (fun j => D j || decide (j = i)) f n = lastIn D f n :=
 af1 fun j _ hs => by
  by_cases hji : j = i
  ·subst hji; rw [hf] at hs; cases hs
  ·simp [hji]
end last
inductive Runs [Mode] (P : Program) (base : Nat) : Nat → List VOper → List (Nat × HV) → List (Nat × Option Row) → List (HV × Upd) → List (Nat × HV) → List (Nat × Option Row) → List (List Nat × List Nat) → Prop
 | nil (i : Nat) (tm : List (Nat × HV)) (hp : List (Nat × Option Row)) : Runs P base i [] tm hp [] tm hp []
 | cons {i : Nat} {vo : VOper} {rest : List VOper} {tm tm' : List (Nat × HV)} {hp hp' : List (Nat × Option Row)} {h : HV} {upd : Upd} {evs : List (HV × Upd)} {log : List (List Nat × List Nat)}
  (hev : EvOK P vo (base + 4 * i) (look tm) (ae3 hp) h upd) (r : Runs P base (i + 1) rest (bi5 tm vo.dst h) (upd ++ hp) evs tm' hp' log) :
  Runs P base i (vo :: rest) tm hp ((h, upd) :: evs) tm' hp' ((vo.reads (look tm), upd.map (·.1)) :: log)
theorem bv6 (tm : List (Nat × HV)) (d : Option Nat) (h : HV) : look (bi5 tm d h) = aW1 (look tm) d h := by
 funext s
 cases d with
 | none => simp [bi5, aW1]
 | some d => simp [bi5, aW1, look]
theorem am6 (upd : Upd) (hp : List (Nat × Option Row)) : ae3 (upd ++ hp) = ae8 (ae3 hp) upd := by
 funext k
 unfold ae3 ae8
 rw [aw8]
 cases look upd k <;> rfl
def aD0 (tm : List (Nat × HV)) (ops : List VOper) (evs : List (HV × Upd)) (D : Nat → Bool) (n : Nat) : Nat → Option HV := fun s =>
 match lastIn D (fun j => if ((ops[j]?).bind (·.dst)) = some s then (evs[j]?).map (·.1) else none) n with
 | some h => some h
 | none => look tm s
def ar6 (hp : List (Nat × Option Row)) (evs : List (HV × Upd)) (D : Nat → Bool) (n : Nat) : ad1 := fun id =>
 match lastIn D (fun j => (evs[j]?).bind fun e => look e.2 id) n with
 | some x => x
 | none => ae3 hp id
theorem Runs.at [Mode] {P : Program} {base : Nat} {ops : List VOper} {tm tm' : List (Nat × HV)} {hp hp' : List (Nat × Option Row)} {evs : List (HV × Upd)} {log : List (List Nat × List Nat)}
  (h : Runs P base 0 ops tm hp evs tm' hp' log) :
  (∀ i vo, ops[i]? = some vo → ∃ e l, evs[i]? = some e ∧ log[i]? = some l ∧ EvOK P vo (base + 4 * i) (aD0 tm ops evs (fun _ => true) i) (ar6 hp evs (fun _ => true) i) e.1 e.2 ∧
   l = (vo.reads (aD0 tm ops evs (fun _ => true) i), e.2.map (·.1))) ∧ look tm' = aD0 tm ops evs (fun _ => true) ops.length ∧ ae3 hp' = ar6 hp evs (fun _ => true) ops.length ∧ evs.length = ops.length := by
 have key : ∀ {i : Nat} {rest : List VOper} {tm1 tm2 : List (Nat × HV)} {hp1 hp2 : List (Nat × Option Row)} {evs1 : List (HV × Upd)} {log1 : List (List Nat × List Nat)}, Runs P base i rest tm1 hp1 evs1 tm2 hp2 log1 →
   ∀ (pre : List VOper) (epre : List (HV × Upd)) (lpre : List (List Nat × List Nat)), pre.length = i → epre.length = i → lpre.length = i → pre ++ rest = ops → epre ++ evs1 = evs → lpre ++ log1 = log →
   look tm1 = aD0 tm ops evs (fun _ => true) i → ae3 hp1 = ar6 hp evs (fun _ => true) i →
   (∀ k vo, i ≤ k → ops[k]? = some vo → ∃ e l, evs[k]? = some e ∧ log[k]? = some l ∧ EvOK P vo (base + 4 * k) (aD0 tm ops evs (fun _ => true) k) (ar6 hp evs (fun _ => true) k) e.1 e.2 ∧
    l = (vo.reads (aD0 tm ops evs (fun _ => true) k), e.2.map (·.1))) ∧ look tm2 = aD0 tm ops evs (fun _ => true) ops.length ∧ ae3 hp2 = ar6 hp evs (fun _ => true) ops.length ∧ evs.length = ops.length := by
  intro i rest tm1 tm2 hp1 hp2 evs1 log1 hr
  induction hr with
  | nil i tm1 hp1 =>
   intro pre epre lpre h1 h2 h3 h4 h5 h6 h7 h8
   simp only [List.append_nil] at h4 h5 h6
   subst h4 h5 h6
   refine ⟨fun k vo hk hvo => ?_, by rw [h7, h1], by rw [h8, h1], by rw [h1, h2]⟩
   rw [List.getElem?_eq_none (by omega)] at hvo; cases hvo
  | @cons i vo rest tm1 tm2 hp1 hp2 h upd evs1 log1 hev r ih =>
   intro pre epre lpre h1 h2 h3 h4 h5 h6 h7 h8
   have e1 : ops[i]? = some vo := by rw [← h4, List.getElem?_append_right (by omega), h1]; simp
   have e2 : evs[i]? = some (h, upd) := by rw [← h5, List.getElem?_append_right (by omega), h2]; simp
   have e3 : log[i]? = some (vo.reads (look tm1), upd.map (·.1)) := by rw [← h6, List.getElem?_append_right (by omega), h3]; simp
   have g1 : look (bi5 tm1 vo.dst h) = aD0 tm ops evs (fun _ => true) (i + 1) := by
    rw [bv6, h7]
    funext s
    simp only [aD0, lastIn, e1, e2, aW1, if_true, oB, Option.map_some]
    by_cases hd : vo.dst = some s
    ·simp [hd]
    ·simp [hd]
   have g2 : ae3 (upd ++ hp1) = ar6 hp evs (fun _ => true) (i + 1) := by
    rw [am6, h8]
    funext id
    simp only [ar6, lastIn, e2, ae8, if_true, oB]
    cases look upd id <;> rfl
   obtain ⟨i1, i2, i3, i4⟩ := ih (pre ++ [vo]) (epre ++ [(h, upd)]) (lpre ++ [(vo.reads (look tm1), upd.map (·.1))]) (by simp [h1]) (by simp [h2]) (by simp [h3]) (by simp [h4]) (by simp [h5]) (by simp [h6]) g1 g2
   refine ⟨fun k vo' hk hvo => ?_, i2, i3, i4⟩
   by_cases hki : k = i
   ·subst hki
    rw [e1] at hvo
    simp only [oI] at hvo; subst hvo
    exact ⟨_, _, e2, e3, by rw [← h7, ← h8]; exact hev, by rw [← h7]⟩
   ·exact i1 k vo' (by omega) hvo
 have := key h [] [] [] rfl rfl rfl rfl rfl rfl (by funext s; rfl) (by funext id; rfl)
 exact ⟨fun i vo hvo => this.1 i vo (Nat.zero_le _) hvo, this.2⟩
def aB1 (ops : List VOper) (i j : Nat) : Bool := ((ops[i]?).map fun o => o.bef.contains j).getD false || ((ops[j]?).map fun o => o.bef.contains i).getD false
def a05 (ops : List VOper) (i j : Nat) : Bool := ((ops[i]?).map fun o => o.bs.contains j).getD false || ((ops[j]?).map fun o => o.bs.contains i).getD false
def bZ5 (ops : List VOper) : Bool :=
 (range ops.length).all fun i => (range ops.length).all fun j => i == j || (match ops[i]?, ops[j]? with
  | some a, some b => match b.dst with
   | some d => (!(a.tmps.contains d) || aB1 ops i j) && a.dst != some d
   | none => true
  | _, _ => true)
def bZ6 (ops : List VOper) (log : List (List Nat × List Nat)) : Bool :=
 (range log.length).all fun i => (range log.length).all fun j => i == j || (match log[i]?, log[j]? with
  | some a, some b => b.2.all (fun id => !(a.1.contains id || a.2.contains id)) || a05 ops i j
  | _, _ => true)
def ct7 (af5 : List VOper) : Bool := (range af5.length).all fun i => match af5[i]? with
 | some vo => vo.tol.all fun j => decide (j < i) && (match af5[j]? with | some x => bX0 vo.op x.op | none => false)
 | none => true
def bZ7 [Mode] (ops : Array Oper) (af5 : List VOper) : Bool :=
 ct7 af5 && (range ops.size).all fun i => match ops[i]?, af5[i]? with
  | some o, some vo =>
   (o.after.toList.all fun e => !Region.binds .any e || decide (e.on < i)) &&
   vo.bef.all fun j => decide (j < i) && o.after.toList.any fun e => Region.binds .any e && (e.on == j || ((af5[e.on]?).map fun x => x.bef.contains j).getD false)
  | _, _ => false
end Go.Vm
