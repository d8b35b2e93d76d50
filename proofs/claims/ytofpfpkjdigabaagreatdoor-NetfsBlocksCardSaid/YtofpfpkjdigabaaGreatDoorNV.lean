import Derived.Test.YtofpfpkjdigabaaGreatDoorPA
namespace Go.Proofs.YtofpfpkjdigabaaGreatDoor
open Go.Vm
set_option autoImplicit false
set_option linter.unusedVariables false
set_option linter.unusedSimpArgs false
set_option maxRecDepth 100000
theorem bO7 {α : Type} {p : α → Bool} {l : List α} (h : l.find? p = none) : aV2 p l = -1 := by
 have h1 := (bU1 p l)
 have h2 := bM7 p l
 by_cases h3 : 0 ≤ aV2 p l
 ·obtain ⟨x, hx, hp⟩ := List.any_eq_true.1 (h1.1 h3)
  have := List.find?_eq_none.1 h x hx
  exact absurd hp this
 ·omega
theorem bz6 {α : Type} {p : α → Bool} : ∀ {l : List α} {x : α}, l.find? p = some x → ∃ i : Nat, i < l.length ∧ aV2 p l = (i : Int) ∧ l[i]? = some x ∧ p x = true
 | a :: r, x, h => by
  by_cases hp : p a = true
  ·rw [List.find?_cons_of_pos hp] at h
   obtain rfl := Option.some.inj h
   exact ⟨0, by simp, by rw [by9 hp]; rfl, rfl, hp⟩
  ·rw [List.find?_cons_of_neg hp] at h
   obtain ⟨i, h1, h2, h3, h4⟩ := bz6 h
   refine ⟨i + 1, by simp; omega, ?_, by simpa using h3, h4⟩
   rw [ba1 hp, h2, if_neg (by omega)]; omega
theorem ae3 {α : Type} {l : List α} {i : Nat} {x : α} (h : l[i]? = some x) : aa9 l (i : Int) = some x := by
 obtain ⟨hi, rfl⟩ := List.getElem?_eq_some_iff.1 h
 exact aa6 hi
def isT (id : Int) (t : aa0) : Bool := decide (t.Id = id)
def ixT (l : List aa0) (id : Int) : Int := aV2 (isT id) l
def fdT (l : List aa0) (id : Int) : Option aa0 := l.find? (isT id)
theorem aE8 {l : List aa0} {id : Int} (h : fdT l id = none) : ixT l id = -1 := bO7 h
theorem ah7 {l : List aa0} {id : Int} {t : aa0} (h : fdT l id = some t) : ∃ i : Nat, i < l.length ∧ ixT l id = (i : Int) ∧ l[i]? = some t ∧ t.Id = id := by
 obtain ⟨i, h1, h2, h3, h4⟩ := bz6 h
 exact ⟨i, h1, h2, h3, of_decide_eq_true h4⟩
structure Mod (n : aa1) : Prop where
 db : okX n.Db
 len : n.Talks.length ≤ 100000
 bl : ∀ t ∈ n.Talks, t.Backlog.length ≤ 100000
theorem aD7 {n : aa1} (h : n.Talks.length ≤ 100000) (id : Int) : ag5 n id = some (ixT n.Talks id) := by
 unfold ag5
 rw [bd0]
 unfold ag8
 refine aw9 (by omega) ?_ ?_
 ·intro i hi
  simp only [ad3, dlt hi, if_true, aa6 hi, Option.bind_some, aW7]
  rfl
 ·simp [ad3]
theorem bd8 {n : aa1} (h : n.Talks.length ≤ 100000) (id : Int) : am4 n id = some (ixT n.Talks id) := by
 unfold am4
 refine aw9 (by omega) ?_ ?_
 ·intro i hi
  simp only [aS5, dlt hi, if_true, aa6 hi, Option.bind_some]
  rfl
 ·simp [aS5]
theorem bu4 {l : List Int} {v : Int} (h : l.length ≤ 1000000) : ah6 l v = some (l.contains v) := by
 unfold ah6
 have : an5 l v = some (aV2 (fun y => decide (v = y)) l) := by
  unfold an5
  refine aw9 h ?_ ?_
  ·intro i hi
   simp only [ak1, dlt hi, if_true, aa6 hi, Option.bind_some]
   try rfl
  ·simp [ak1]
 rw [this, Option.bind_some, aT7]
 congr 1
 rw [Bool.eq_iff_iff, List.any_eq_true, List.contains_iff_mem]
 constructor
 ·rintro ⟨x, hx, he⟩
  rw [of_decide_eq_true he]; exact hx
 ·exact fun hx => ⟨v, hx, by simp⟩
theorem ca1 {α : Type} {p : α → Bool} {l : List α} {body : Int → Option (Step Int Bool)} (hl : l.length ≤ 1000000)
  (hb : ∀ i (h : i < l.length), body (i : Int) = if p l[i] then some (.done true) else some (.cont (IntKind.wrap .i64 ((i : Int) + 1)))) (he : body (l.length : Int) = some (.done false)) : ab0 body 0 = some (l.any p) := by
 refine (ac5 l.length (fun (_ : Unit) i => i) body (fun i _ => (l.drop i).any p) (fun _ _ => True) (s0 := ()) trivial ?_ ?_).trans (by simp)
 ·intro _ i hi _
  rw [hb i hi, List.drop_eq_getElem_cons hi, List.any_cons]
  by_cases hp : p l[i] = true
  ·right; rw [if_pos hp, hp]; rfl
  ·left
   refine ⟨(), ?_, ?_, trivial⟩
   ·rw [if_neg hp, aa8 (by omega)]
   ·rw [Bool.not_eq_true] at hp; rw [hp]; rfl
 ·intro _ _; rw [he]; simp
theorem cB4 {l : List Int} {v : Int} (h : l.length ≤ 1000000) : a98 l v = some (l.contains v) := by
 unfold a98
 have := ca1 (p := fun y => decide (y = v)) (l := l) (body := fun s => aK5 l v s) h ?_ ?_
 ·rw [this]
  congr 1
  rw [Bool.eq_iff_iff, List.any_eq_true, List.contains_iff_mem]
  constructor
  ·rintro ⟨x, hx, he⟩
   rw [← of_decide_eq_true he]; exact hx
  ·exact fun hx => ⟨v, hx, by simp⟩
 ·intro i hi
  simp only [aK5, dlt hi, if_true, aa6 hi, Option.bind_some]
 ·simp [aK5]
def bu5 (l : List aa0) (id : Int) : Nat := l.countP fun t => t.Backlog.contains id
theorem ca2 {l : List aa0} {id : Int} {body : Int × Int → Option (Step (Int × Int) Int)} (hl : l.length ≤ 100000)
  (hb : ∀ (k : Nat) i (h : i < l.length), k ≤ i → body ((k : Int), (i : Int)) = if l[i].Backlog.contains id then some (.cont (IntKind.wrap .i64 ((k : Int) + 1), IntKind.wrap .i64 ((i : Int) + 1))) else some (.cont ((k : Int), IntKind.wrap .i64 ((i : Int) + 1))))
  (he : ∀ k : Int, body (k, (l.length : Int)) = some (.done k)) : ab0 body (0, 0) = some (bu5 l id : Int) := by
 refine (ac5 l.length (fun (k : Nat) i => ((k : Int), i)) body (fun i k => ((k + bu5 (l.drop i) id : Nat) : Int)) (fun i k => k ≤ i) (s0 := 0) (Nat.le_refl _) ?_ ?_).trans (by simp)
 ·intro k i hi hk
  left
  rw [hb k i hi hk, List.drop_eq_getElem_cons hi]
  by_cases hp : l[i].Backlog.contains id = true
  ·refine ⟨k + 1, ?_, ?_, by omega⟩
   ·rw [if_pos hp, aa8 (by omega), aa8 (by omega)]; rfl
   ·unfold bu5; simp only [List.countP_cons, hp, if_true]; congr 1; omega
  ·refine ⟨k, ?_, ?_, by omega⟩
   ·rw [if_neg hp, aa8 (by omega)]
   ·unfold bu5; simp only [List.countP_cons, hp, if_false, Nat.add_zero, Bool.false_eq_true]
 ·intro k hk
  rw [he]; simp [bu5]
theorem cj7 {n : aa1} (h : Mod n) (id : Int) : aK2 n id = some (bu5 n.Talks id : Int) := by
 unfold aK2
 refine ca2 h.len ?_ ?_
 ·intro k i hi _
  simp only [aE2, dlt hi, if_true, aa6 hi, Option.bind_some, bu4 (Nat.le_trans (h.bl _ (List.getElem_mem hi)) (by omega))]
 ·intro k; simp [aE2]
theorem cj8 {n : aa1} (h : Mod n) (id : Int) : aS4 n id = some (bu5 n.Talks id : Int) := by
 unfold aS4
 refine ca2 h.len ?_ ?_
 ·intro k i hi _
  simp only [aE3, dlt hi, if_true, aa6 hi, Option.bind_some, cB4 (Nat.le_trans (h.bl _ (List.getElem_mem hi)) (by omega))]
 ·intro k; simp [aE3]
def bz7 (id : Int) (host : Str) (a : aa2) (x : aa0) : Bool := decide (x.Host = host) && (decide (x.State = 2) && (decide (x.Local.Net = a.Net) && (decide (x.Local.Service = a.Service) && !decide (x.Id = id))))
theorem cB5 (x : aa0) (host : Str) (a : aa2) (t : aa0) : am3 x host a t = some (bz7 t.Id host a x) := by
 unfold am3 aM2 bz7
 cases decide (x.Host = host) <;> cases decide (x.State = 2) <;> cases decide (x.Local.Net = a.Net) <;> cases decide (x.Local.Service = a.Service) <;> cases decide (x.Id = t.Id) <;> rfl
theorem cj9 {n : aa1} (h : n.Talks.length ≤ 100000) (host : Str) (a : aa2) (t : aa0) : ar0 n host a t = some (aV2 (bz7 t.Id host a) n.Talks) := by
 unfold ar0
 rw [bd0]
 unfold af3
 refine aw9 (by omega) ?_ ?_
 ·intro i hi
  simp only [ac1, dlt hi, if_true, aa6 hi, Option.bind_some, cB5]
 ·simp [ac1]
theorem cB6 (x : aa0) (host : Str) (a : aa2) (t : aa0) : am0 x host a t = some (bz7 t.Id host a x) := by
 unfold am0 aG2 bz7
 cases decide (x.Host = host) <;> cases decide (x.State = 2) <;> cases decide (x.Local.Net = a.Net) <;> cases decide (x.Local.Service = a.Service) <;> cases decide (x.Id = t.Id) <;> rfl
theorem ck0 {n : aa1} (h : n.Talks.length ≤ 100000) (host : Str) (a : aa2) (t : aa0) : al0 n host a t = some (aV2 (bz7 t.Id host a) n.Talks) := by
 unfold al0
 rw [bd0]
 unfold af1
 refine aw9 (by omega) ?_ ?_
 ·intro i hi
  simp only [ab9, dlt hi, if_true, aa6 hi, Option.bind_some, cB6]
 ·simp [ab9]
theorem ck1 (x : aa0) (t : aa0) (a : aa2) : ((!decide (x.Id = t.Id)) && ((decide (x.Host = t.Host)) && ((decide (x.State = 2)) && ((decide (x.Local.Net = a.Net)) && (decide (x.Local.Service = a.Service)))))) = bz7 t.Id t.Host a x := by
 unfold bz7
 cases decide (x.Host = t.Host) <;> cases decide (x.State = 2) <;> cases decide (x.Local.Net = a.Net) <;> cases decide (x.Local.Service = a.Service) <;> cases decide (x.Id = t.Id) <;> rfl
theorem bF9 {n : aa1} (h : n.Talks.length ≤ 100000) (t : aa0) (a : aa2) : au9 n t a = some (n.Talks.any (bz7 t.Id t.Host a)) := by
 unfold au9
 refine ca1 (by omega) ?_ ?_
 ·intro i hi
  simp only [ar1, dlt hi, if_true, aa6 hi, Option.bind_some, ck1]
 ·simp [ar1]
def bG0 (l : List aa0) (t : aa0) (pre : List Int) (id : Int) : Bool := match fdT l id with
 | none => false
 | some c => !pre.contains id && (decide (c.Host = t.Host) && (decide (c.Opens = 0) && (decide (c.State = 3) || decide (c.State = 4))))
theorem bd9 {l : List aa0} {t : aa0} {pre : List Int} {id : Int} (h : fdT l id = none) : bG0 l t pre id = false := by unfold bG0; rw [h]
theorem be0 {l : List aa0} {t c : aa0} {pre : List Int} {id : Int} (h : fdT l id = some c) : bG0 l t pre id = (!pre.contains id && (decide (c.Host = t.Host) && (decide (c.Opens = 0) && (decide (c.State = 3) || decide (c.State = 4))))) := by unfold bG0; rw [h]
def b22 (l : List aa0) (t : aa0) : List Int → List Int → Bool
 | _, [] => true
 | pre, id :: r => bG0 l t pre id && b22 l t (pre ++ [id]) r
def bkB (l : List aa0) (t : aa0) : Bool := !(decide (8 < t.Backlog.length) || (!decide (t.State = 2) && decide (t.Backlog ≠ []))) && b22 l t [] t.Backlog
theorem co1 {l : List aa0} {t : aa0} {body : Int → Option (Step Int Bool)} (hl : t.Backlog.length ≤ 100000)
  (hb : ∀ i (h : i < t.Backlog.length), body (i : Int) = if bG0 l t (t.Backlog.take i) t.Backlog[i] then some (.cont (IntKind.wrap .i64 ((i : Int) + 1))) else some (.done false)) (he : body (t.Backlog.length : Int) = some (.done true)) :
  ab0 body 0 = some (b22 l t [] t.Backlog) := by
 refine (ac5 t.Backlog.length (fun (_ : Unit) i => i) body (fun i _ => b22 l t (t.Backlog.take i) (t.Backlog.drop i)) (fun _ _ => True) (s0 := ()) trivial ?_ ?_).trans (by simp)
 ·intro _ i hi _
  rw [hb i hi, List.drop_eq_getElem_cons hi, b22]
  by_cases hp : bG0 l t (t.Backlog.take i) t.Backlog[i] = true
  ·left
   refine ⟨(), ?_, ?_, trivial⟩
   ·rw [if_pos hp, aa8 (by omega)]
   ·rw [hp, List.take_succ_eq_append_getElem hi]; rfl
  ·right; rw [if_neg hp]; rw [Bool.not_eq_true] at hp; rw [hp]; rfl
 ·intro _ _; rw [he]; simp [b22]
theorem co2 {α : Type} (l : List α) : decide ((0 : Int) < (l.length : Int)) = decide (l ≠ []) := by
 cases l <;> simp
theorem bg7 {n : aa1} (h : Mod n) {t : aa0} (ht : t.Backlog.length ≤ 100000) : aB0 n t = some (bkB n.Talks t) := by
 have hloop : ab0 (fun s => ao7 n t s) 0 = some (b22 n.Talks t [] t.Backlog) := by
  refine co1 ht ?_ ?_
  ·intro i hi
   have hc : cut t.Backlog 0 (i : Int) = some (t.Backlog.take i) := a32 (Nat.le_of_lt hi)
   simp only [ao7, dlt hi, if_true, aa6 hi, Option.bind_some, aD7 h.len, hc]
   cases hf : fdT n.Talks t.Backlog[i] with
   | none => rw [bd9 hf]; simp [aE8 hf]
   | some c =>
    obtain ⟨k, h1, h2, h3, h4⟩ := ah7 hf
    rw [be0 hf]
    have hk : ¬ ((k : Int) < 0) := by omega
    simp only [h2, hk, decide_false, Bool.false_eq_true, if_false, bu4 (show (t.Backlog.take i).length ≤ 1000000 by simp; omega), Option.bind_some, ae3 h3]
    cases (t.Backlog.take i).contains t.Backlog[i] <;> cases decide (c.Host = t.Host) <;> cases decide (c.Opens = 0) <;> cases decide (c.State = 3) <;> cases decide (c.State = 4) <;> rfl
  ·simp [ao7]
 unfold aB0 bkB
 rw [hloop, co2]
 have e8 : decide ((8 : Int) < (List.length t.Backlog : Int)) = decide (8 < t.Backlog.length) := by simp; omega
 rw [e8]
 cases decide (t.Backlog ≠ []) <;> cases decide (8 < t.Backlog.length) <;> cases decide (t.State = 2) <;> simp
theorem bz8 {n : aa1} (h : Mod n) {t : aa0} (ht : t.Backlog.length ≤ 100000) : aH9 n t = some (bkB n.Talks t) := by
 have hloop : ab0 (fun s => ao8 n t s) 0 = some (b22 n.Talks t [] t.Backlog) := by
  refine co1 ht ?_ ?_
  ·intro i hi
   have hc : cut t.Backlog 0 (i : Int) = some (t.Backlog.take i) := a32 (Nat.le_of_lt hi)
   simp only [ao8, dlt hi, if_true, aa6 hi, Option.bind_some, bd8 h.len, hc]
   cases hf : fdT n.Talks t.Backlog[i] with
   | none => rw [bd9 hf]; simp [aE8 hf]
   | some c =>
    obtain ⟨k, h1, h2, h3, h4⟩ := ah7 hf
    rw [be0 hf]
    have hk : ¬ ((k : Int) < 0) := by omega
    simp only [h2, hk, decide_false, Bool.false_eq_true, if_false, cB4 (show (t.Backlog.take i).length ≤ 1000000 by simp; omega), Option.bind_some, ae3 h3]
    cases (t.Backlog.take i).contains t.Backlog[i] <;> cases decide (c.Host = t.Host) <;> cases decide (c.Opens = 0) <;> cases decide (c.State = 3) <;> cases decide (c.State = 4) <;> rfl
  ·simp [ao8]
 unfold aH9 bkB
 rw [hloop, co2]
 have e8 : decide ((8 : Int) < (List.length t.Backlog : Int)) = decide (8 < t.Backlog.length) := by simp; omega
 rw [e8]
 cases decide (t.Backlog ≠ []) <;> cases decide (8 < t.Backlog.length) <;> cases decide (t.State = 2) <;> simp
def bz9 (l : List aa0) (t : aa0) : Bool := if t.State = 3 then (match fdT l t.Peer with
 | none => false
 | some p => !decide (t.Peer = t.Id) && (decide (p.State = 3) && decide (p.Peer = t.Id))) else decide (t.Peer = 0)
def co3 (l : List aa0) (t : aa0) : Bool := !decide (t.State = 2) || (decide (t.Local.Host = t.Host) && !l.any (bz7 t.Id t.Host t.Local))
def opB (l : List aa0) (t : aa0) : Bool := decide ((0 < t.Opens ∧ bu5 l t.Id = 0) ∨ (t.Opens = 0 ∧ bu5 l t.Id = 1))
def ce7 (t : aa0) : Bool := decide (1 ≤ t.State ∧ t.State ≤ 4 ∧ 0 ≤ t.Opens ∧ t.Opens ≤ 9007199254740991 ∧ t.Data.length ≤ 8192 ∧ t.Owner.length ≤ 32 ∧ (t.State ≤ 2 → t.Data = []))
def ba3 (l : List aa0) (t : aa0) : Bool := ce7 t && (bkB l t && (bz9 l t && (co3 l t && opB l t)))
theorem ck2 {n : aa1} (h : Mod n) {t : aa0} (h0 : 0 ≤ t.Opens) : ax8 n t = some (co3 n.Talks t && opB n.Talks t) := by
 unfold ax8 co3
 rw [cj9 h.len, cj7 h]
 simp only [Option.bind_some, aT7]
 have ho : (if (decide (0 < t.Opens)) = true then some (decide ((bu5 n.Talks t.Id : Int) = 0)) else some (decide ((bu5 n.Talks t.Id : Int) = 1))) = some (opB n.Talks t) := by
  unfold opB
  by_cases hp : 0 < t.Opens
  ·have h1 : ¬ t.Opens = 0 := by omega
   simp [hp, h1]
  ·have h1 : t.Opens = 0 := by omega
   simp [hp, h1]; try omega
 rw [ho]
 cases decide (t.State = 2) <;> cases decide (t.Local.Host = t.Host) <;> cases n.Talks.any (bz7 t.Id t.Host t.Local) <;> cases opB n.Talks t <;> rfl
theorem ct3 {n : aa1} (h : Mod n) {t : aa0} (ht : t.Backlog.length ≤ 100000) : aP3 n t = some (ba3 n.Talks t) := by
 unfold aP3 ba3
 by_cases h1 : 1 ≤ t.State ∧ t.State ≤ 4 ∧ 0 ≤ t.Opens ∧ t.Opens ≤ 9007199254740991 ∧ t.Data.length ≤ 8192 ∧ t.Owner.length ≤ 32
 ·obtain ⟨a1, a2, a3, a4, a5, a6⟩ := h1
  have c1 : decide (t.State < 1) = false := by simp; omega
  have c2 : decide (4 < t.State) = false := by simp; omega
  have c3 : decide (t.Opens < 0) = false := by simp; omega
  have c4 : decide (9007199254740991 < t.Opens) = false := by simp; omega
  have c5 : decide ((8192 : Int) < (List.length t.Data : Int)) = false := by simp; omega
  have c6 : decide ((32 : Int) < (List.length t.Owner : Int)) = false := by simp; omega
  simp only [c1, c2, c3, c4, c5, c6, Bool.or_self, Bool.false_eq_true, if_false, bg7 h ht, Option.bind_some, aD7 h.len, ck2 h a3]
  have hr2 : ce7 t = (!decide (t.State ≤ 2) || decide (t.Data = [])) := by
   rw [Bool.eq_iff_iff]
   unfold ce7
   by_cases q : t.State ≤ 2 <;> simp [q, a1, a2, a3, a4, a5, a6]
  rw [hr2]
  unfold bz9
  have hp : ∀ (p : aa0) (k : Nat), n.Talks[k]? = some p → ((if decide ((k : Int) < 0) = true then some true else if decide (t.Peer = t.Id) = true then some true else (aa9 n.Talks (k : Int)).bind fun x27 => if (!decide (x27.State = 3)) = true then some true else (aa9 n.Talks (k : Int)).bind fun x29 => some (!decide (x29.Peer = t.Id))) : Option Bool) = some (!(!decide (t.Peer = t.Id) && (decide (p.State = 3) && decide (p.Peer = t.Id)))) := by
   intro p k hk
   have h0 : decide ((k : Int) < 0) = false := by simp
   simp only [h0, Bool.false_eq_true, if_false, ae3 hk, Option.bind_some]
   cases decide (t.Peer = t.Id) <;> cases decide (p.State = 3) <;> cases decide (p.Peer = t.Id) <;> rfl
  by_cases h3 : t.State = 3
  ·simp only [h3, decide_true, if_true]
   cases hf : fdT n.Talks t.Peer with
   | none =>
    simp only [aE8 hf]
    cases decide (t.Data = []) <;> cases bkB n.Talks t <;> simp
   | some p =>
    obtain ⟨k, k1, k2, k3, k4⟩ := ah7 hf
    simp only [k2, hp p k k3, Option.bind_some]
    cases decide (t.Data = []) <;> cases bkB n.Talks t <;> cases (!decide (t.Peer = t.Id) && (decide (p.State = 3) && decide (p.Peer = t.Id))) <;> simp
  ·simp only [h3, decide_false, Bool.false_eq_true, if_false]
   cases decide (t.State ≤ 2) <;> cases decide (t.Data = []) <;> cases bkB n.Talks t <;> cases decide (t.Peer = 0) <;> simp
 ·have hr : ce7 t = false := by
   unfold ce7; rw [decide_eq_false_iff_not]
   rintro ⟨a1, a2, a3, a4, a5, a6, _⟩; exact h1 ⟨a1, a2, a3, a4, a5, a6⟩
  rw [if_pos, hr, Bool.false_and]
  simp only [Bool.or_eq_true, decide_eq_true_eq]
  omega
theorem bG1 {n : aa1} (h : Mod n) {t : aa0} (ht : t.Backlog.length ≤ 100000) : aS7 n t = some (ba3 n.Talks t) := by
 unfold aS7 ba3
 have hpeer : aS6 n t = some (bz9 n.Talks t) := by
  unfold aS6 bz9
  by_cases h3 : t.State = 3
  ·simp only [h3, decide_true, Bool.not_true, Bool.false_eq_true, if_false, bd8 h.len, Option.bind_some, if_true]
   cases hf : fdT n.Talks t.Peer with
   | none => simp [aE8 hf]
   | some p =>
    obtain ⟨k, k1, k2, k3, k4⟩ := ah7 hf
    have h0 : decide ((0 : Int) ≤ (k : Int)) = true := by simp
    simp only [k2, h0, if_true, ae3 k3, Option.bind_some]
    cases decide (t.Peer = t.Id) <;> cases decide (p.State = 3) <;> cases decide (p.Peer = t.Id) <;> rfl
  ·simp [h3]
 rw [bF9 h.len, cj8 h, hpeer, bz8 h ht]
 simp only [Option.bind_some, bd0]
 by_cases h1 : ce7 t = true
 ·have h2 := of_decide_eq_true h1
  obtain ⟨a1, a2, a3, a4, a5, a6, a7⟩ := h2
  have c1 : decide (t.State < 1) = false := by simp; omega
  have c2 : decide (4 < t.State) = false := by simp; omega
  have c3 : decide (t.Opens < 0) = false := by simp; omega
  have c4 : decide (9007199254740991 < t.Opens) = false := by simp; omega
  have c5 : decide ((8192 : Int) < (List.length t.Data : Int)) = false := by simp; omega
  have c6 : decide ((32 : Int) < (List.length t.Owner : Int)) = false := by simp; omega
  have c7 : (decide ((0 : Int) < (List.length t.Data : Int)) && decide (t.State < 3)) = false := by
   by_cases q : t.State < 3
   ·rw [a7 (by omega)]; simp
   ·simp [q]
  simp only [c1, c2, c3, c4, c5, c6, c7, Bool.or_self, Bool.false_eq_true, if_false, h1, Bool.true_and]
  have ho : (if (decide (0 < t.Opens)) = true then if (decide ((bu5 n.Talks t.Id : Int) = 0)) = true then some true else if (decide (t.Opens = 0)) = true then some (decide ((bu5 n.Talks t.Id : Int) = 1)) else some false else if (decide (t.Opens = 0)) = true then some (decide ((bu5 n.Talks t.Id : Int) = 1)) else some false) = some (opB n.Talks t) := by
   unfold opB
   by_cases hp : 0 < t.Opens
   ·have h1 : ¬ t.Opens = 0 := by omega
    by_cases hc : bu5 n.Talks t.Id = 0 <;> simp [hp, h1, hc]
   ·have h1 : t.Opens = 0 := by omega
    simp [hp, h1]; try omega
  rw [ho]
  unfold co3
  cases decide (t.State = 2) <;> cases decide (t.Local.Host = t.Host) <;> cases n.Talks.any (bz7 t.Id t.Host t.Local) <;> cases opB n.Talks t <;> cases bz9 n.Talks t <;> cases bkB n.Talks t <;> rfl
 ·have hr : ce7 t = false := by simpa using h1
  rw [hr, Bool.false_and]
  have h2 : ¬ _ := of_decide_eq_false hr
  by_cases q1 : 32 < t.Owner.length ∨ t.State < 1 ∨ 4 < t.State
  ·rw [if_pos]
   simp only [Bool.or_eq_true, decide_eq_true_eq]
   omega
  ·rw [if_neg (by simp only [Bool.or_eq_true, decide_eq_true_eq]; omega), if_pos]
   simp only [Bool.or_eq_true, Bool.and_eq_true, decide_eq_true_eq]
   by_cases q2 : t.Opens < 0 ∨ 9007199254740991 < t.Opens ∨ 8192 < t.Data.length
   ·omega
   ·right; right; right
    by_cases q3 : t.Data = []
    ·exact absurd ⟨by omega, by omega, by omega, by omega, by omega, by omega, fun _ => q3⟩ h2
    ·have : 0 < t.Data.length := List.length_pos_iff.2 q3
     refine ⟨by omega, ?_⟩
     by_cases q4 : t.State ≤ 2
     ·omega
     ·exact absurd ⟨by omega, by omega, by omega, by omega, by omega, by omega, fun q => absurd q q4⟩ h2
def b03 (nx : Int) : Int → List aa0 → Bool
 | _, [] => true
 | last, t :: r => (decide (last < t.Id) && decide (t.Id < nx)) && b03 nx t.Id r
def bo3 (n : aa1) : Bool := (decide ((bq8 n.Db).2 = 0) && (decide (1 ≤ n.Next) && (decide (n.Next ≤ 1048576) && decide (n.Talks.length ≤ 64)))) && (b03 n.Next 0 n.Talks && n.Talks.all (ba3 n.Talks))
theorem bU7 (n : aa1) : ((!decide ((bq8 n.Db).2 = 0)) || ((decide (n.Next < 1)) || ((decide (1048576 < n.Next)) || (decide ((64 : Int) < (List.length n.Talks : Int)))))) = !(decide ((bq8 n.Db).2 = 0) && (decide (1 ≤ n.Next) && (decide (n.Next ≤ 1048576) && decide (n.Talks.length ≤ 64)))) := by
 have e1 : decide (n.Next < 1) = !decide (1 ≤ n.Next) := by rw [← decide_not]; congr 1; simp <;> try omega
 have e2 : decide (1048576 < n.Next) = !decide (n.Next ≤ 1048576) := by rw [← decide_not]; congr 1; simp
 have e3 : decide ((64 : Int) < (List.length n.Talks : Int)) = !decide (n.Talks.length ≤ 64) := by rw [← decide_not]; congr 1; simp <;> try omega
 rw [e1, e2, e3, Bool.not_and, Bool.not_and, Bool.not_and]
theorem ck3 {n : aa1} (h : Mod n) : au4 n = some (bo3 n) := by
 have hin : aB1 n = some (n.Talks.all (ba3 n.Talks)) := by
  unfold aB1 ag1
  have : ae6 n.Talks n = some (aV2 (fun t => !ba3 n.Talks t) n.Talks) := by
   unfold ae6
   refine aw9 (Nat.le_trans h.len (by omega)) ?_ ?_
   ·intro i hi
    simp only [ad4, dlt hi, if_true, aa6 hi, Option.bind_some, aH8, ct3 h (h.bl _ (List.getElem_mem hi))]
   ·simp [ad4]
  rw [this]
  simp only [Option.bind_some, aT7]
  congr 1
  rw [List.not_any_eq_all_not]
  simp
 have hloop : ∀ last, ab0 (fun s => au3 n s.1 s.2) (last, 0) = some (b03 n.Next last n.Talks && n.Talks.all (ba3 n.Talks)) := by
  intro last
  refine (ac5 n.Talks.length (fun (s : Int) i => (s, i)) _ (fun i s => b03 n.Next s (n.Talks.drop i) && n.Talks.all (ba3 n.Talks)) (fun _ _ => True) (s0 := last) trivial ?_ ?_).trans (by simp)
  ·intro s i hi _
   rw [List.drop_eq_getElem_cons hi, b03]
   simp only [au3, dlt hi, if_true, aa6 hi, Option.bind_some]
   by_cases hp : s < n.Talks[i].Id ∧ n.Talks[i].Id < n.Next
   ·left
    have e1 : decide (n.Talks[i].Id ≤ s) = false := by simp; omega
    have e2 : decide (n.Next ≤ n.Talks[i].Id) = false := by simp; omega
    refine ⟨n.Talks[i].Id, ?_, by simp [hp.1, hp.2], trivial⟩
    simp only [e1, e2, Bool.or_self, Bool.false_eq_true, if_false]
    rw [aa8 (by have := h.len; omega)]
   ·right
    have e1 : (decide (n.Talks[i].Id ≤ s) || decide (n.Next ≤ n.Talks[i].Id)) = true := by simp only [Bool.or_eq_true, decide_eq_true_eq]; omega
    have e2 : (decide (s < n.Talks[i].Id) && decide (n.Talks[i].Id < n.Next)) = false := by rw [Bool.eq_false_iff]; simp only [ne_eq, Bool.and_eq_true, decide_eq_true_eq]; exact hp
    rw [e1, e2]; rfl
  ·intro s _
   simp [au3, hin, b03]
 unfold au4 bo3
 rw [ct2 h.db]
 simp only [Option.bind_some, hloop, bU7]
 cases (decide ((bq8 n.Db).2 = 0) && (decide (1 ≤ n.Next) && (decide (n.Next ≤ 1048576) && decide (n.Talks.length ≤ 64)))) <;> simp
theorem bG2 {n : aa1} (h : Mod n) : ar2 n = some (bo3 n) := by
 have hloop : ∀ last, ab0 (fun s => av0 n s.1 s.2) (last, 0) = some (b03 n.Next last n.Talks && n.Talks.all (ba3 n.Talks)) := by
  intro last
  refine (ac5 n.Talks.length (fun (s : Int) i => (s, i)) _ (fun i s => b03 n.Next s (n.Talks.drop i) && (n.Talks.drop i).all (ba3 n.Talks)) (fun _ _ => True) (s0 := last) trivial ?_ ?_).trans (by simp)
  ·intro s i hi _
   rw [List.drop_eq_getElem_cons hi, b03, List.all_cons]
   simp only [av0, dlt hi, if_true, aa6 hi, Option.bind_some, bG1 h (h.bl _ (List.getElem_mem hi))]
   by_cases hp : s < n.Talks[i].Id ∧ n.Talks[i].Id < n.Next
   ·have e1 : decide (n.Talks[i].Id ≤ s) = false := by simp; omega
    have e2 : decide (n.Next ≤ n.Talks[i].Id) = false := by simp; omega
    have e3 : (decide (s < n.Talks[i].Id) && decide (n.Talks[i].Id < n.Next)) = true := by simp [hp.1, hp.2]
    simp only [e1, e2, e3, Bool.false_eq_true, if_false, Option.bind_some, Bool.true_and]
    cases ht : ba3 n.Talks n.Talks[i] with
    | true =>
     left
     refine ⟨n.Talks[i].Id, ?_, by simp, trivial⟩
     simp only [Bool.not_true, Bool.false_eq_true, if_false]
     rw [aa8 (by have := h.len; omega)]
    | false => right; simp
   ·right
    have e2 : (decide (s < n.Talks[i].Id) && decide (n.Talks[i].Id < n.Next)) = false := by rw [Bool.eq_false_iff]; simp only [ne_eq, Bool.and_eq_true, decide_eq_true_eq]; exact hp
    rw [e2]
    by_cases q : n.Talks[i].Id ≤ s
    ·simp [q]
    ·have q2 : n.Next ≤ n.Talks[i].Id := by omega
     simp [q, q2]
  ·intro s _
   simp [av0, b03]
 unfold ar2 bo3
 rw [b02 h.db]
 simp only [Option.bind_some, hloop, bU7]
 cases (decide ((bq8 n.Db).2 = 0) && (decide (1 ≤ n.Next) && (decide (n.Next ≤ 1048576) && decide (n.Talks.length ≤ 64)))) <;> simp
structure Rng (t : aa0) : Prop where
 s1 : 1 ≤ t.State
 s4 : t.State ≤ 4
 o0 : 0 ≤ t.Opens
 o9 : t.Opens ≤ 9007199254740991
 dt : t.Data.length ≤ 8192
 ow : t.Owner.length ≤ 32
 d0 : t.State ≤ 2 → t.Data = []
theorem bU8 {t : aa0} : ce7 t = true ↔ Rng t := by
 unfold ce7
 rw [decide_eq_true_eq]
 exact ⟨fun ⟨a, b, c, d, e, f, g⟩ => ⟨a, b, c, d, e, f, g⟩, fun h => ⟨h.s1, h.s4, h.o0, h.o9, h.dt, h.ow, h.d0⟩⟩
structure GoodT (l : List aa0) : Prop where
 inc : l.Pairwise fun a b => a.Id < b.Id
 rng : ∀ t ∈ l, Rng t
 blen : ∀ t ∈ l, t.Backlog.length ≤ 8
 bst : ∀ t ∈ l, t.State ≠ 2 → t.Backlog = []
 bnd : ∀ t ∈ l, t.Backlog.Nodup
 bc : ∀ t ∈ l, ∀ c ∈ t.Backlog, ∃ u ∈ l, u.Id = c ∧ u.Host = t.Host ∧ u.Opens = 0 ∧ (u.State = 3 ∨ u.State = 4)
 pe : ∀ t ∈ l, t.State = 3 → ∃ p ∈ l, p.Id = t.Peer ∧ t.Peer ≠ t.Id ∧ p.State = 3 ∧ p.Peer = t.Id
 p0 : ∀ t ∈ l, t.State ≠ 3 → t.Peer = 0
 an : ∀ t ∈ l, t.State = 2 → t.Local.Host = t.Host
 au : ∀ t ∈ l, ∀ x ∈ l, t.State = 2 → x.State = 2 → x.Host = t.Host → x.Local.Net = t.Local.Net → x.Local.Service = t.Local.Service → x.Id = t.Id
 w1 : ∀ t ∈ l, t.Opens = 0 → ∃ x ∈ l, t.Id ∈ x.Backlog
 w2 : ∀ x ∈ l, ∀ y ∈ l, ∀ c, c ∈ x.Backlog → c ∈ y.Backlog → x.Id = y.Id
structure Good (n : aa1) : Prop where
 db : (bq8 n.Db).2 = 0
 n1 : 1 ≤ n.Next
 n9 : n.Next ≤ 1048576
 len : n.Talks.length ≤ 64
 idr : ∀ t ∈ n.Talks, 1 ≤ t.Id ∧ t.Id < n.Next
 tk : GoodT n.Talks
theorem af4 {l : List aa0} (h : l.Pairwise fun a b => a.Id < b.Id) : ∀ x ∈ l, ∀ y ∈ l, x.Id = y.Id → x = y := by
 induction l with
 | nil => intro x hx; cases hx
 | cons a r ih =>
  obtain ⟨h1, h2⟩ := List.pairwise_cons.1 h
  intro x hx y hy e
  rcases List.mem_cons.1 hx with e1 | hx1 <;> rcases List.mem_cons.1 hy with e2 | hy1
  ·rw [e1, e2]
  ·have := h1 y hy1; rw [e1] at e; omega
  ·have := h1 x hx1; rw [e2] at e; omega
  ·exact ih h2 x hx1 y hy1 e
theorem a43 {l : List aa0} {id : Int} {t : aa0} (h : fdT l id = some t) : t ∈ l ∧ t.Id = id :=
 ⟨List.mem_of_find?_eq_some h, of_decide_eq_true (List.find?_some (p := isT id) h)⟩
theorem ba4 {l : List aa0} (hi : l.Pairwise fun a b => a.Id < b.Id) {t : aa0} (h : t ∈ l) : fdT l t.Id = some t := by
 cases hf : fdT l t.Id with
 | none => exact absurd (decide_eq_true rfl : isT t.Id t = true) (List.find?_eq_none.1 hf t h)
 | some u => obtain ⟨h1, h2⟩ := a43 hf; rw [af4 hi u h1 t h h2]
theorem bO8 {l : List aa0} {id : Int} (h : fdT l id = none) : ∀ t ∈ l, t.Id ≠ id := fun t ht e => List.find?_eq_none.1 h t ht (decide_eq_true e)
theorem ca3 {nx : Int} : ∀ {l : List aa0} {last : Int}, b03 nx last l = true ↔ (l.Pairwise (fun a b => a.Id < b.Id) ∧ ∀ t ∈ l, last < t.Id ∧ t.Id < nx)
 | [], last => by simp [b03]
 | a :: r, last => by
  rw [b03]
  simp only [Bool.and_eq_true, decide_eq_true_eq, List.pairwise_cons, List.mem_cons, forall_eq_or_imp, ca3 (l := r)]
  constructor
  ·rintro ⟨⟨h1, h2⟩, h3, h4⟩
   exact ⟨⟨fun t ht => (h4 t ht).1, h3⟩, ⟨h1, h2⟩, fun t ht => ⟨by have := (h4 t ht).1; omega, (h4 t ht).2⟩⟩
  ·rintro ⟨⟨h1, h2⟩, ⟨h3, h4⟩, h5⟩
   exact ⟨⟨h3, h4⟩, h2, fun t ht => ⟨h1 t ht, (h5 t ht).2⟩⟩
theorem bU9 {l : List aa0} {t : aa0} : ∀ {b pre : List Int}, b22 l t pre b = true ↔ (b.Nodup ∧ ∀ c ∈ b, c ∉ pre ∧ ∃ u, fdT l c = some u ∧ u.Host = t.Host ∧ u.Opens = 0 ∧ (u.State = 3 ∨ u.State = 4))
 | [], pre => by simp [b22]
 | c :: r, pre => by
  rw [b22, Bool.and_eq_true, bU9 (b := r), List.nodup_cons]
  have hc : bG0 l t pre c = true ↔ (c ∉ pre ∧ ∃ u, fdT l c = some u ∧ u.Host = t.Host ∧ u.Opens = 0 ∧ (u.State = 3 ∨ u.State = 4)) := by
   cases hf : fdT l c with
   | none => rw [bd9 hf]; simp
   | some u => rw [be0 hf]; simp
  rw [hc]
  simp only [List.mem_cons, forall_eq_or_imp, List.mem_append, List.not_mem_nil, or_false, not_or]
  constructor
  ·rintro ⟨h1, h2, h3⟩
   exact ⟨⟨fun hm => (h3 c hm).1.2 rfl, h2⟩, h1, fun x hx => ⟨(h3 x hx).1.1, (h3 x hx).2⟩⟩
  ·rintro ⟨⟨h1, h2⟩, h3, h4⟩
   exact ⟨h3, h2, fun x hx => ⟨⟨(h4 x hx).1, fun e => h1 (e ▸ hx)⟩, (h4 x hx).2⟩⟩
theorem bO9 {l : List aa0} (hi : l.Pairwise fun a b => a.Id < b.Id) {id : Int} : bu5 l id = 1 ↔ ((∃ x ∈ l, id ∈ x.Backlog) ∧ ∀ x ∈ l, ∀ y ∈ l, id ∈ x.Backlog → id ∈ y.Backlog → x.Id = y.Id) := by
 have hz : ∀ a : List aa0, a.countP (fun t => t.Backlog.contains id) = 0 ↔ ∀ y ∈ a, id ∉ y.Backlog := by
  intro a; rw [List.countP_eq_zero]; simp
 unfold bu5
 constructor
 ·intro h
  have hp : 0 < l.countP (fun t => t.Backlog.contains id) := by omega
  obtain ⟨x, hx, hc⟩ := List.countP_pos_iff.1 hp
  obtain ⟨a, b, rfl⟩ := List.append_of_mem hx
  rw [List.countP_append, List.countP_cons, if_pos hc] at h
  have ha := (hz a).1 (by omega)
  have hb := (hz b).1 (by omega)
  have key : ∀ y ∈ a ++ x :: b, id ∈ y.Backlog → y = x := by
   intro y hy hm
   rcases List.mem_append.1 hy with hy | hy
   ·exact absurd hm (ha y hy)
   ·rcases List.mem_cons.1 hy with rfl | hy
    ·rfl
    ·exact absurd hm (hb y hy)
  exact ⟨⟨x, hx, by simpa using hc⟩, fun y hy z hz hm hm' => by rw [key y hy hm, key z hz hm']⟩
 ·rintro ⟨⟨x, hx, hm⟩, hu⟩
  obtain ⟨a, b, rfl⟩ := List.append_of_mem hx
  have hne : ∀ y, y ∈ a ∨ y ∈ b → y.Id ≠ x.Id := by
   intro y hy e
   rw [List.pairwise_append] at hi
   rcases hy with hy | hy
   ·have := hi.2.2 y hy x (by simp); omega
   ·have := (List.pairwise_cons.1 hi.2.1).1 y hy; omega
  rw [List.countP_append, List.countP_cons, if_pos (by simpa using hm), (hz a).2, (hz b).2]
  ·intro y hy hm'; exact hne y (.inr hy) (hu y (by simp [hy]) x hx hm' hm)
  ·intro y hy hm'; exact hne y (.inl hy) (hu y (by simp [hy]) x hx hm' hm)
theorem ck4 {l : List aa0} {id : Int} : bu5 l id = 0 ↔ ∀ x ∈ l, id ∉ x.Backlog := by
 unfold bu5; rw [List.countP_eq_zero]; simp
theorem bV0 {n : aa1} : bo3 n = true ↔ Good n := by
 unfold bo3
 simp only [Bool.and_eq_true, decide_eq_true_eq, ca3, List.all_eq_true]
 constructor
 ·rintro ⟨⟨h1, h2, h3, h4⟩, ⟨hi, hr⟩, ht⟩
  have hT : ∀ t ∈ n.Talks, ce7 t = true ∧ bkB n.Talks t = true ∧ bz9 n.Talks t = true ∧ co3 n.Talks t = true ∧ opB n.Talks t = true := by
   intro t h
   have := ht t h
   unfold ba3 at this
   simpa only [Bool.and_eq_true] using this
  have hB : ∀ t ∈ n.Talks, t.Backlog.length ≤ 8 ∧ (t.State ≠ 2 → t.Backlog = []) ∧ b22 n.Talks t [] t.Backlog = true := by
   intro t h
   have := (hT t h).2.1
   unfold bkB at this
   simp only [Bool.and_eq_true, Bool.not_eq_true', Bool.or_eq_false_iff, Bool.and_eq_false_iff, decide_eq_false_iff_not, Bool.not_eq_false', decide_eq_true_eq] at this
   obtain ⟨⟨a1, a2⟩, a3⟩ := this
   refine ⟨by omega, fun hs => ?_, a3⟩
   rcases a2 with a2 | a2
   ·exact absurd a2 hs
   ·exact Classical.not_not.1 a2
  have hc : ∀ t ∈ n.Talks, ∀ c ∈ t.Backlog, ∃ u ∈ n.Talks, u.Id = c ∧ u.Host = t.Host ∧ u.Opens = 0 ∧ (u.State = 3 ∨ u.State = 4) := by
   intro t h c hc
   obtain ⟨_, u, hu, q⟩ := (bU9.1 (hB t h).2.2).2 c hc
   obtain ⟨m1, m2⟩ := a43 hu
   exact ⟨u, m1, m2, q⟩
  have ho : ∀ t ∈ n.Talks, t.Opens = 0 → bu5 n.Talks t.Id = 1 := by
   intro t h h0
   have := of_decide_eq_true (hT t h).2.2.2.2
   omega
  refine ⟨h1, h2, h3, h4, fun t h => ⟨by have := (hr t h).1; omega, (hr t h).2⟩, ?_⟩
  refine { inc := hi, rng := fun t h => bU8.1 (hT t h).1, blen := fun t h => (hB t h).1, bst := fun t h => (hB t h).2.1, bnd := fun t h => (bU9.1 (hB t h).2.2).1, bc := hc, pe := ?_, p0 := ?_, an := ?_, au := ?_, w1 := ?_, w2 := ?_ }
  ·intro t h h3
   have := (hT t h).2.2.1
   unfold bz9 at this
   rw [if_pos h3] at this
   cases hf : fdT n.Talks t.Peer with
   | none => rw [hf] at this; simp at this
   | some p =>
    rw [hf] at this
    simp only [Bool.and_eq_true, Bool.not_eq_true', decide_eq_true_eq, decide_eq_false_iff_not] at this
    obtain ⟨m1, m2⟩ := a43 hf
    exact ⟨p, m1, m2, this⟩
  ·intro t h h3
   have := (hT t h).2.2.1
   unfold bz9 at this
   rw [if_neg h3] at this
   exact of_decide_eq_true this
  ·intro t h h2
   have := (hT t h).2.2.2.1
   unfold co3 at this
   simp only [h2, decide_true, Bool.not_true, Bool.false_or, Bool.and_eq_true, decide_eq_true_eq] at this
   exact this.1
  ·intro t h x hx h2 x2 e1 e2 e3
   have := (hT t h).2.2.2.1
   unfold co3 at this
   simp only [h2, decide_true, Bool.not_true, Bool.false_or, Bool.and_eq_true, Bool.not_eq_true', List.any_eq_false] at this
   have q := this.2 x hx
   unfold bz7 at q
   simpa [e1, x2, e2, e3] using q
  ·intro t h h0
   obtain ⟨x, hx, hm⟩ := ((bO9 hi).1 (ho t h h0)).1
   exact ⟨x, hx, hm⟩
  ·intro x hx y hy c hcx hcy
   obtain ⟨u, hu, rfl, _, h0, _⟩ := hc x hx c hcx
   exact ((bO9 hi).1 (ho u hu h0)).2 x hx y hy hcx hcy
 ·intro g
  refine ⟨⟨g.db, g.n1, g.n9, g.len⟩, ⟨g.tk.inc, fun t h => ⟨by have := (g.idr t h).1; omega, (g.idr t h).2⟩⟩, fun t h => ?_⟩
  have G := g.tk
  unfold ba3
  simp only [Bool.and_eq_true]
  refine ⟨bU8.2 (G.rng t h), ?_, ?_, ?_, ?_⟩
  ·unfold bkB
   simp only [Bool.and_eq_true, Bool.not_eq_true', Bool.or_eq_false_iff, Bool.and_eq_false_iff, decide_eq_false_iff_not, Bool.not_eq_false', decide_eq_true_eq]
   refine ⟨⟨by have := G.blen t h; omega, ?_⟩, bU9.2 ⟨G.bnd t h, fun c hc => ⟨by simp, ?_⟩⟩⟩
   ·by_cases h2 : t.State = 2
    ·exact .inl h2
    ·exact .inr (fun q => q (G.bst t h h2))
   ·obtain ⟨u, hu, rfl, q⟩ := G.bc t h c hc
    exact ⟨u, ba4 G.inc hu, q⟩
  ·unfold bz9
   by_cases h3 : t.State = 3
   ·rw [if_pos h3]
    obtain ⟨p, hp, e, q1, q2, q3⟩ := G.pe t h h3
    rw [← e] at q1 ⊢
    rw [ba4 G.inc hp]
    simp [q1, q2, q3]
   ·rw [if_neg h3]; exact decide_eq_true (G.p0 t h h3)
  ·unfold co3
   by_cases h2 : t.State = 2
   ·simp only [h2, decide_true, Bool.not_true, Bool.false_or, Bool.and_eq_true, decide_eq_true_eq, Bool.not_eq_true', List.any_eq_false]
    refine ⟨G.an t h h2, fun x hx => ?_⟩
    unfold bz7
    intro q
    simp only [Bool.and_eq_true, decide_eq_true_eq, Bool.not_eq_true', decide_eq_false_iff_not] at q
    obtain ⟨q1, q2, q3, q4, q5⟩ := q
    exact q5 (G.au t h x hx h2 q2 q1 q3 q4)
   ·simp [h2]
  ·unfold opB
   apply decide_eq_true
   by_cases h0 : t.Opens = 0
   ·right
    obtain ⟨x, hx, hm⟩ := G.w1 t h h0
    exact ⟨h0, (bO9 G.inc).2 ⟨⟨x, hx, hm⟩, fun x hx y hy => G.w2 x hx y hy t.Id⟩⟩
   ·left
    refine ⟨by have := (G.rng t h).o0; omega, ck4.2 fun x hx hm => ?_⟩
    obtain ⟨u, hu, e, _, q, _⟩ := G.bc x hx _ hm
    rw [af4 G.inc u hu t h e] at q
    exact h0 q
def upT (l : List aa0) (id : Int) (f : aa0 → aa0) : List aa0 := l.map fun t => if t.Id = id then f t else t
def hgT (t : aa0) : aa0 := { t with State := 4, Peer := 0 }
def hg1 (R : List Int) (t : aa0) : aa0 := if t.State = 3 ∧ (t.Id ∈ R ∨ t.Peer ∈ R) then hgT t else t
def hgL (l : List aa0) (R : List Int) : List aa0 := l.map (hg1 R)
def dpL (l : List aa0) (R : List Int) : List aa0 := l.filter fun t => decide (t.Id ∉ R)
def cutS (l : List aa0) (R : List Int) : List aa0 := dpL (hgL l R) R
def clT (t : aa0) : aa0 := { t with State := 4, Backlog := [] }
theorem ah8 (R : List Int) (t : aa0) : (hg1 R t).Id = t.Id ∧ (hg1 R t).Host = t.Host ∧ (hg1 R t).Owner = t.Owner ∧ (hg1 R t).Local = t.Local ∧ (hg1 R t).Remote = t.Remote ∧ (hg1 R t).Data = t.Data ∧ (hg1 R t).Backlog = t.Backlog ∧ (hg1 R t).Opens = t.Opens := by
 unfold hg1 hgT; split <;> simp
theorem aL6 (R : List Int) (t : aa0) : ((t.State = 3 ∧ (t.Id ∈ R ∨ t.Peer ∈ R)) ∧ (hg1 R t).State = 4 ∧ (hg1 R t).Peer = 0) ∨ (¬ (t.State = 3 ∧ (t.Id ∈ R ∨ t.Peer ∈ R)) ∧ hg1 R t = t) := by
 unfold hg1 hgT
 by_cases h : t.State = 3 ∧ (t.Id ∈ R ∨ t.Peer ∈ R)
 ·left; rw [if_pos h]; exact ⟨h, rfl, rfl⟩
 ·right; rw [if_neg h]; exact ⟨h, rfl⟩
theorem aY6 {l : List aa0} {g : aa0 → aa0} (hg : ∀ t, (g t).Id = t.Id) (h : l.Pairwise fun a b => a.Id < b.Id) : (l.map g).Pairwise fun a b => a.Id < b.Id := by
 rw [List.pairwise_map]; simpa only [hg] using h
theorem GoodT.hang {l : List aa0} (G : GoodT l) (R : List Int) : GoodT (hgL l R) := by
 have K := ah8 R
 have C := aL6 R
 unfold hgL
 refine { inc := aY6 (fun t => (K t).1) G.inc, rng := ?_, blen := ?_, bst := ?_, bnd := ?_, bc := ?_, pe := ?_, p0 := ?_, an := ?_, au := ?_, w1 := ?_, w2 := ?_ }
 ·intro t' ht'
  obtain ⟨t, ht, rfl⟩ := List.mem_map.1 ht'
  have r := G.rng t ht
  rcases C t with ⟨_, s, _⟩ | ⟨_, e⟩
  ·obtain ⟨k1, k2, k3, k4, k5, k6, k7, k8⟩ := K t
   exact ⟨by omega, by omega, by rw [k8]; exact r.o0, by rw [k8]; exact r.o9, by rw [k6]; exact r.dt, by rw [k3]; exact r.ow, fun h => by omega⟩
  ·rw [e]; exact r
 ·intro t' ht'
  obtain ⟨t, ht, rfl⟩ := List.mem_map.1 ht'
  rw [(K t).2.2.2.2.2.2.1]; exact G.blen t ht
 ·intro t' ht' h
  obtain ⟨t, ht, rfl⟩ := List.mem_map.1 ht'
  rw [(K t).2.2.2.2.2.2.1]
  rcases C t with ⟨q, s, _⟩ | ⟨_, e⟩
  ·exact G.bst t ht (by omega)
  ·rw [e] at h; exact G.bst t ht h
 ·intro t' ht'
  obtain ⟨t, ht, rfl⟩ := List.mem_map.1 ht'
  rw [(K t).2.2.2.2.2.2.1]; exact G.bnd t ht
 ·intro t' ht' c hc
  obtain ⟨t, ht, rfl⟩ := List.mem_map.1 ht'
  rw [(K t).2.2.2.2.2.2.1] at hc
  obtain ⟨u, hu, e1, e2, e3, e4⟩ := G.bc t ht c hc
  refine ⟨hg1 R u, List.mem_map_of_mem hu, by rw [(K u).1]; exact e1, by rw [(K u).2.1, (K t).2.1]; exact e2, by rw [(K u).2.2.2.2.2.2.2]; exact e3, ?_⟩
  rcases C u with ⟨q, s, _⟩ | ⟨_, e⟩
  ·exact .inr s
  ·rw [e]; exact e4
 ·intro t' ht' h3
  obtain ⟨t, ht, rfl⟩ := List.mem_map.1 ht'
  rcases C t with ⟨q, s, _⟩ | ⟨q, e⟩
  ·omega
  ·rw [e] at h3 ⊢
   obtain ⟨p, hp, e1, e2, e3, e4⟩ := G.pe t ht h3
   refine ⟨hg1 R p, List.mem_map_of_mem hp, ?_⟩
   rcases C p with ⟨q', s, _⟩ | ⟨_, e'⟩
   ·exfalso; apply q; rw [e1, e4] at q'; exact ⟨h3, q'.2.symm⟩
   ·rw [e']; exact ⟨e1, e2, e3, e4⟩
 ·intro t' ht' h3
  obtain ⟨t, ht, rfl⟩ := List.mem_map.1 ht'
  rcases C t with ⟨q, s, s2⟩ | ⟨q, e⟩
  ·exact s2
  ·rw [e] at h3 ⊢; exact G.p0 t ht h3
 ·intro t' ht' h2
  obtain ⟨t, ht, rfl⟩ := List.mem_map.1 ht'
  rcases C t with ⟨q, s, s2⟩ | ⟨q, e⟩
  ·omega
  ·rw [e] at h2 ⊢; exact G.an t ht h2
 ·intro t' ht' x' hx' h2 x2
  obtain ⟨t, ht, rfl⟩ := List.mem_map.1 ht'
  obtain ⟨x, hx, rfl⟩ := List.mem_map.1 hx'
  rcases C t with ⟨q, s, s2⟩ | ⟨q, e⟩
  ·omega
  rcases C x with ⟨q', s, s2⟩ | ⟨q', e'⟩
  ·omega
  rw [e] at h2 ⊢; rw [e'] at x2 ⊢; exact G.au t ht x hx h2 x2
 ·intro t' ht' h0
  obtain ⟨t, ht, rfl⟩ := List.mem_map.1 ht'
  rw [(K t).2.2.2.2.2.2.2] at h0
  obtain ⟨x, hx, hm⟩ := G.w1 t ht h0
  exact ⟨hg1 R x, List.mem_map_of_mem hx, by rw [(K x).2.2.2.2.2.2.1, (K t).1]; exact hm⟩
 ·intro x' hx' y' hy' c hcx hcy
  obtain ⟨x, hx, rfl⟩ := List.mem_map.1 hx'
  obtain ⟨y, hy, rfl⟩ := List.mem_map.1 hy'
  rw [(K x).2.2.2.2.2.2.1] at hcx; rw [(K y).2.2.2.2.2.2.1] at hcy
  rw [(K x).1, (K y).1]; exact G.w2 x hx y hy c hcx hcy
theorem an8 {l : List aa0} {R : List Int} {g : aa0 → aa0} {t' : aa0} : t' ∈ (dpL l R).map g ↔ ∃ t ∈ l, t.Id ∉ R ∧ g t = t' := by
 unfold dpL
 simp only [List.mem_map, List.mem_filter, decide_eq_true_eq]
 exact ⟨fun ⟨t, ⟨h1, h2⟩, h3⟩ => ⟨t, h1, h2, h3⟩, fun ⟨t, h1, h2, h3⟩ => ⟨t, ⟨h1, h2⟩, h3⟩⟩
theorem GoodT.drop {l : List aa0} (G : GoodT l) (R : List Int) (id : Int) (ho : ∀ t ∈ l, t.Id ∈ R → t.State ≠ 3) (hi : ∀ t ∈ l, t.Id = id → t.State = 2) (hcl : ∀ x ∈ l, ∀ c ∈ x.Backlog, (x.Id ∈ R ∨ x.Id = id) ↔ c ∈ R) :
  GoodT (upT (dpL l R) id clT) := by
 let g : aa0 → aa0 := fun t => if t.Id = id then clT t else t
 have C : ∀ t, (t.Id = id ∧ g t = clT t) ∨ (t.Id ≠ id ∧ g t = t) := by
  intro t
  by_cases h : t.Id = id
  ·exact .inl ⟨h, if_pos h⟩
  ·exact .inr ⟨h, if_neg h⟩
 have K : ∀ t, (g t).Id = t.Id ∧ (g t).Host = t.Host ∧ (g t).Opens = t.Opens ∧ (g t).Peer = t.Peer ∧ (g t).Local = t.Local := by
  intro t; rcases C t with ⟨_, e⟩ | ⟨_, e⟩ <;> rw [e] <;> exact ⟨rfl, rfl, rfl, rfl, rfl⟩
 have B : ∀ t, ∀ c ∈ (g t).Backlog, t.Id ≠ id ∧ c ∈ t.Backlog := by
  intro t c hc
  rcases C t with ⟨_, e⟩ | ⟨h, e⟩
  ·rw [e] at hc; cases hc
  ·rw [e] at hc; exact ⟨h, hc⟩
 have hin : (dpL l R).Pairwise fun a b => a.Id < b.Id := G.inc.filter _
 show GoodT ((dpL l R).map g)
 refine { inc := aY6 (fun t => (K t).1) hin, rng := ?_, blen := ?_, bst := ?_, bnd := ?_, bc := ?_, pe := ?_, p0 := ?_, an := ?_, au := ?_, w1 := ?_, w2 := ?_ }
 ·intro t' ht'
  obtain ⟨t, ht, hr, rfl⟩ := an8.1 ht'
  have r := G.rng t ht
  rcases C t with ⟨_, e⟩ | ⟨_, e⟩ <;> rw [e]
  ·exact ⟨by show (1 : Int) ≤ 4; decide, by show (4 : Int) ≤ 4; decide, r.o0, r.o9, r.dt, r.ow, fun h => absurd (show (4 : Int) ≤ 2 from h) (by decide)⟩
  ·exact r
 ·intro t' ht'
  obtain ⟨t, ht, hr, rfl⟩ := an8.1 ht'
  rcases C t with ⟨_, e⟩ | ⟨_, e⟩ <;> rw [e]
  ·exact Nat.zero_le _
  ·exact G.blen t ht
 ·intro t' ht' h
  obtain ⟨t, ht, hr, rfl⟩ := an8.1 ht'
  rcases C t with ⟨_, e⟩ | ⟨_, e⟩
  ·rw [e]; rfl
  ·rw [e] at h ⊢; exact G.bst t ht h
 ·intro t' ht'
  obtain ⟨t, ht, hr, rfl⟩ := an8.1 ht'
  rcases C t with ⟨_, e⟩ | ⟨_, e⟩ <;> rw [e]
  ·exact List.nodup_nil
  ·exact G.bnd t ht
 ·intro t' ht' c hc
  obtain ⟨t, ht, hr, rfl⟩ := an8.1 ht'
  obtain ⟨hne, hc⟩ := B t c hc
  obtain ⟨u, hu, e1, e2, e3, e4⟩ := G.bc t ht c hc
  have hcR : c ∉ R := fun q => by
   rcases (hcl t ht c hc).2 q with q | q
   ·exact hr q
   ·exact hne q
  refine ⟨g u, an8.2 ⟨u, hu, by rw [e1]; exact hcR, rfl⟩, by rw [(K u).1]; exact e1, by rw [(K u).2.1, (K t).2.1]; exact e2, by rw [(K u).2.2.1]; exact e3, ?_⟩
  rcases C u with ⟨q, e⟩ | ⟨q, e⟩
  ·have := hi u hu q; omega
  ·rw [e]; exact e4
 ·intro t' ht' h3
  obtain ⟨t, ht, hr, rfl⟩ := an8.1 ht'
  rcases C t with ⟨q, e⟩ | ⟨q, e⟩
  ·rw [e] at h3; exact absurd (show (4 : Int) = 3 from h3) (by decide)
  ·rw [e] at h3 ⊢
   obtain ⟨p, hp, e1, e2, e3, e4⟩ := G.pe t ht h3
   refine ⟨g p, an8.2 ⟨p, hp, fun q => ho p hp q e3, rfl⟩, ?_⟩
   rcases C p with ⟨q', e'⟩ | ⟨q', e'⟩
   ·have := hi p hp q'; omega
   ·rw [e']; exact ⟨e1, e2, e3, e4⟩
 ·intro t' ht' h3
  obtain ⟨t, ht, hr, rfl⟩ := an8.1 ht'
  rw [(K t).2.2.2.1]
  rcases C t with ⟨q, e⟩ | ⟨q, e⟩
  ·exact G.p0 t ht (by have := hi t ht q; omega)
  ·rw [e] at h3; exact G.p0 t ht h3
 ·intro t' ht' h2
  obtain ⟨t, ht, hr, rfl⟩ := an8.1 ht'
  rcases C t with ⟨q, e⟩ | ⟨q, e⟩
  ·rw [e] at h2; exact absurd (show (4 : Int) = 2 from h2) (by decide)
  ·rw [e] at h2 ⊢; exact G.an t ht h2
 ·intro t' ht' x' hx' h2 x2
  obtain ⟨t, ht, hr, rfl⟩ := an8.1 ht'
  obtain ⟨x, hx, hr', rfl⟩ := an8.1 hx'
  rcases C t with ⟨q, e⟩ | ⟨q, e⟩
  ·rw [e] at h2; exact absurd (show (4 : Int) = 2 from h2) (by decide)
  rcases C x with ⟨q', e'⟩ | ⟨q', e'⟩
  ·rw [e'] at x2; exact absurd (show (4 : Int) = 2 from x2) (by decide)
  rw [e] at h2 ⊢; rw [e'] at x2 ⊢; exact G.au t ht x hx h2 x2
 ·intro t' ht' h0
  obtain ⟨t, ht, hr, rfl⟩ := an8.1 ht'
  rw [(K t).2.2.1] at h0
  obtain ⟨x, hx, hm⟩ := G.w1 t ht h0
  have hn : ¬ (x.Id ∈ R ∨ x.Id = id) := fun q => hr ((hcl x hx _ hm).1 q)
  refine ⟨g x, an8.2 ⟨x, hx, fun q => hn (.inl q), rfl⟩, ?_⟩
  rw [(K t).1]
  rcases C x with ⟨q, e⟩ | ⟨q, e⟩
  ·exact absurd (.inr q) hn
  ·rw [e]; exact hm
 ·intro x' hx' y' hy' c hcx hcy
  obtain ⟨x, hx, _, rfl⟩ := an8.1 hx'
  obtain ⟨y, hy, _, rfl⟩ := an8.1 hy'
  rw [(K x).1, (K y).1]; exact G.w2 x hx y hy c (B x c hcx).2 (B y c hcy).2
theorem GoodT.same {l : List aa0} (G : GoodT l) (g : aa0 → aa0) (K : ∀ t, (g t).Id = t.Id ∧ (g t).Host = t.Host ∧ (g t).State = t.State ∧ (g t).Peer = t.Peer ∧ (g t).Local = t.Local ∧ (g t).Backlog = t.Backlog)
  (ho : ∀ t ∈ l, (g t).Opens = 0 ↔ t.Opens = 0) (hr : ∀ t ∈ l, Rng (g t)) : GoodT (l.map g) := by
 refine { inc := aY6 (fun t => (K t).1) G.inc, rng := ?_, blen := ?_, bst := ?_, bnd := ?_, bc := ?_, pe := ?_, p0 := ?_, an := ?_, au := ?_, w1 := ?_, w2 := ?_ }
 ·intro t' ht'
  obtain ⟨t, ht, rfl⟩ := List.mem_map.1 ht'
  exact hr t ht
 ·intro t' ht'
  obtain ⟨t, ht, rfl⟩ := List.mem_map.1 ht'
  rw [(K t).2.2.2.2.2]; exact G.blen t ht
 ·intro t' ht' h
  obtain ⟨t, ht, rfl⟩ := List.mem_map.1 ht'
  rw [(K t).2.2.2.2.2]; rw [(K t).2.2.1] at h; exact G.bst t ht h
 ·intro t' ht'
  obtain ⟨t, ht, rfl⟩ := List.mem_map.1 ht'
  rw [(K t).2.2.2.2.2]; exact G.bnd t ht
 ·intro t' ht' c hc
  obtain ⟨t, ht, rfl⟩ := List.mem_map.1 ht'
  rw [(K t).2.2.2.2.2] at hc
  obtain ⟨u, hu, e1, e2, e3, e4⟩ := G.bc t ht c hc
  exact ⟨g u, List.mem_map_of_mem hu, by rw [(K u).1]; exact e1, by rw [(K u).2.1, (K t).2.1]; exact e2, (ho u hu).2 e3, by rw [(K u).2.2.1]; exact e4⟩
 ·intro t' ht' h3
  obtain ⟨t, ht, rfl⟩ := List.mem_map.1 ht'
  rw [(K t).2.2.1] at h3
  obtain ⟨p, hp, e1, e2, e3, e4⟩ := G.pe t ht h3
  exact ⟨g p, List.mem_map_of_mem hp, by rw [(K p).1, (K t).2.2.2.1]; exact e1, by rw [(K t).1, (K t).2.2.2.1]; exact e2, by rw [(K p).2.2.1]; exact e3, by rw [(K p).2.2.2.1, (K t).1]; exact e4⟩
 ·intro t' ht' h3
  obtain ⟨t, ht, rfl⟩ := List.mem_map.1 ht'
  rw [(K t).2.2.2.1]; rw [(K t).2.2.1] at h3; exact G.p0 t ht h3
 ·intro t' ht' h2
  obtain ⟨t, ht, rfl⟩ := List.mem_map.1 ht'
  rw [(K t).2.2.2.2.1, (K t).2.1]; rw [(K t).2.2.1] at h2; exact G.an t ht h2
 ·intro t' ht' x' hx' h2 x2
  obtain ⟨t, ht, rfl⟩ := List.mem_map.1 ht'
  obtain ⟨x, hx, rfl⟩ := List.mem_map.1 hx'
  rw [(K t).2.2.1] at h2; rw [(K x).2.2.1] at x2
  rw [(K t).2.1, (K x).2.1, (K t).2.2.2.2.1, (K x).2.2.2.2.1, (K t).1, (K x).1]
  exact G.au t ht x hx h2 x2
 ·intro t' ht' h0
  obtain ⟨t, ht, rfl⟩ := List.mem_map.1 ht'
  obtain ⟨x, hx, hm⟩ := G.w1 t ht ((ho t ht).1 h0)
  exact ⟨g x, List.mem_map_of_mem hx, by rw [(K x).2.2.2.2.2, (K t).1]; exact hm⟩
 ·intro x' hx' y' hy' c hcx hcy
  obtain ⟨x, hx, rfl⟩ := List.mem_map.1 hx'
  obtain ⟨y, hy, rfl⟩ := List.mem_map.1 hy'
  rw [(K x).2.2.2.2.2] at hcx; rw [(K y).2.2.2.2.2] at hcy
  rw [(K x).1, (K y).1]; exact G.w2 x hx y hy c hcx hcy
theorem ax0 (id : Int) (f : aa0 → aa0) (t : aa0) : (t.Id = id ∧ (if t.Id = id then f t else t) = f t) ∨ (t.Id ≠ id ∧ (if t.Id = id then f t else t) = t) := by
 by_cases h : t.Id = id
 ·exact .inl ⟨h, if_pos h⟩
 ·exact .inr ⟨h, if_neg h⟩
def anT (a : aa2) (t : aa0) : aa0 := { t with State := 2, Local := a }
theorem GoodT.ann {l : List aa0} (G : GoodT l) {t0 : aa0} (h0 : t0 ∈ l) (hs : t0.State = 1) {a : aa2} (ha : a.Host = t0.Host) (hu : l.any (bz7 t0.Id t0.Host a) = false) : GoodT (upT l t0.Id (anT a)) := by
 let g : aa0 → aa0 := fun t => if t.Id = t0.Id then anT a t else t
 have U : ∀ t ∈ l, t.Id = t0.Id → t = t0 := fun t ht e => af4 G.inc t ht t0 h0 e
 have C : ∀ t ∈ l, (t = t0 ∧ g t = anT a t0) ∨ (t.Id ≠ t0.Id ∧ g t = t) := by
  intro t ht
  rcases ax0 t0.Id (anT a) t with ⟨q, e⟩ | ⟨q, e⟩
  ·have := U t ht q; subst this; exact .inl ⟨rfl, e⟩
  ·exact .inr ⟨q, e⟩
 have K : ∀ t, (g t).Id = t.Id ∧ (g t).Host = t.Host ∧ (g t).Opens = t.Opens ∧ (g t).Backlog = t.Backlog ∧ (g t).Peer = t.Peer := by
  intro t; rcases ax0 t0.Id (anT a) t with ⟨q, e⟩ | ⟨q, e⟩ <;> (show (if t.Id = t0.Id then anT a t else t).Id = _ ∧ _) <;> rw [show g t = _ from e, e] <;> exact ⟨rfl, rfl, rfl, rfl, rfl⟩
 have hA : ∀ x ∈ l, x.State = 2 → x.Host = t0.Host → x.Local.Net = a.Net → x.Local.Service = a.Service → x.Id = t0.Id := by
  intro x hx q1 q2 q3 q4
  have := List.any_eq_false.1 hu x hx
  unfold bz7 at this
  simpa [q1, q2, q3, q4] using this
 show GoodT (l.map g)
 refine { inc := aY6 (fun t => (K t).1) G.inc, rng := ?_, blen := ?_, bst := ?_, bnd := ?_, bc := ?_, pe := ?_, p0 := ?_, an := ?_, au := ?_, w1 := ?_, w2 := ?_ }
 ·intro t' ht'
  obtain ⟨t, ht, rfl⟩ := List.mem_map.1 ht'
  have r := G.rng t ht
  rcases C t ht with ⟨rfl, e⟩ | ⟨_, e⟩ <;> rw [e]
  ·exact ⟨by show (1 : Int) ≤ 2; decide, by show (2 : Int) ≤ 4; decide, r.o0, r.o9, r.dt, r.ow, fun _ => r.d0 (by omega)⟩
  ·exact r
 ·intro t' ht'
  obtain ⟨t, ht, rfl⟩ := List.mem_map.1 ht'
  rw [(K t).2.2.2.1]; exact G.blen t ht
 ·intro t' ht' h
  obtain ⟨t, ht, rfl⟩ := List.mem_map.1 ht'
  rw [(K t).2.2.2.1]
  rcases C t ht with ⟨rfl, e⟩ | ⟨_, e⟩
  ·exact G.bst _ ht (by omega)
  ·rw [e] at h; exact G.bst t ht h
 ·intro t' ht'
  obtain ⟨t, ht, rfl⟩ := List.mem_map.1 ht'
  rw [(K t).2.2.2.1]; exact G.bnd t ht
 ·intro t' ht' c hc
  obtain ⟨t, ht, rfl⟩ := List.mem_map.1 ht'
  rw [(K t).2.2.2.1] at hc
  obtain ⟨u, hu, e1, e2, e3, e4⟩ := G.bc t ht c hc
  refine ⟨g u, List.mem_map_of_mem hu, by rw [(K u).1]; exact e1, by rw [(K u).2.1, (K t).2.1]; exact e2, by rw [(K u).2.2.1]; exact e3, ?_⟩
  rcases C u hu with ⟨rfl, e⟩ | ⟨_, e⟩
  ·omega
  ·rw [e]; exact e4
 ·intro t' ht' h3
  obtain ⟨t, ht, rfl⟩ := List.mem_map.1 ht'
  rcases C t ht with ⟨rfl, e⟩ | ⟨_, e⟩
  ·rw [e] at h3; exact absurd (show (2 : Int) = 3 from h3) (by decide)
  rw [e] at h3 ⊢
  obtain ⟨p, hp, e1, e2, e3, e4⟩ := G.pe t ht h3
  refine ⟨g p, List.mem_map_of_mem hp, ?_⟩
  rcases C p hp with ⟨rfl, e'⟩ | ⟨_, e'⟩
  ·omega
  ·rw [e']; exact ⟨e1, e2, e3, e4⟩
 ·intro t' ht' h3
  obtain ⟨t, ht, rfl⟩ := List.mem_map.1 ht'
  rw [(K t).2.2.2.2]
  rcases C t ht with ⟨rfl, e⟩ | ⟨_, e⟩
  ·exact G.p0 _ ht (by omega)
  ·rw [e] at h3; exact G.p0 t ht h3
 ·intro t' ht' h2
  obtain ⟨t, ht, rfl⟩ := List.mem_map.1 ht'
  rcases C t ht with ⟨rfl, e⟩ | ⟨_, e⟩
  ·rw [e]; exact ha
  ·rw [e] at h2 ⊢; exact G.an t ht h2
 ·intro t' ht' x' hx' h2 x2
  obtain ⟨t, ht, rfl⟩ := List.mem_map.1 ht'
  obtain ⟨x, hx, rfl⟩ := List.mem_map.1 hx'
  rw [(K t).2.1, (K x).2.1, (K t).1, (K x).1]
  rcases C t ht with ⟨rfl, e⟩ | ⟨q, e⟩ <;> rcases C x hx with ⟨q', e'⟩ | ⟨q', e'⟩
  ·intro _ _ _; rw [q']
  ·rw [e']; rw [e'] at x2; intro q1 q2 q3
   rw [e] at q2 q3
   exact hA x hx x2 q1 q2 q3
  ·subst q'
   rw [e'] ; rw [e] at h2 ⊢; intro q1 q2 q3
   exact (hA t ht h2 q1.symm q2.symm q3.symm).symm
  ·rw [e'] at x2 ⊢; rw [e] at h2 ⊢; exact G.au t ht x hx h2 x2
 ·intro t' ht' h0
  obtain ⟨t, ht, rfl⟩ := List.mem_map.1 ht'
  rw [(K t).2.2.1] at h0
  obtain ⟨x, hx, hm⟩ := G.w1 t ht h0
  exact ⟨g x, List.mem_map_of_mem hx, by rw [(K x).2.2.2.1, (K t).1]; exact hm⟩
 ·intro x' hx' y' hy' c hcx hcy
  obtain ⟨x, hx, rfl⟩ := List.mem_map.1 hx'
  obtain ⟨y, hy, rfl⟩ := List.mem_map.1 hy'
  rw [(K x).2.2.2.1] at hcx; rw [(K y).2.2.2.1] at hcy
  rw [(K x).1, (K y).1]; exact G.w2 x hx y hy c hcx hcy
def bg0 : aa2 := ⟨[], [], []⟩
def a71 (nx : Int) (host user : Str) : aa0 := aa0.mk nx host user 1 bg0 bg0 0 [] [] 1
theorem GoodT.add {l : List aa0} (G : GoodT l) {nx : Int} (hn : ∀ t ∈ l, t.Id < nx) (host : Str) {user : Str} (hu : user.length ≤ 32) : GoodT (l ++ [a71 nx host user]) := by
 have M : ∀ t', t' ∈ l ++ [a71 nx host user] → t' ∈ l ∨ t' = a71 nx host user := by intro t' h; simpa using h
 have I : ∀ {t}, t ∈ l → t ∈ l ++ [a71 nx host user] := fun h => List.mem_append_left _ h
 refine { inc := ?_, rng := ?_, blen := ?_, bst := ?_, bnd := ?_, bc := ?_, pe := ?_, p0 := ?_, an := ?_, au := ?_, w1 := ?_, w2 := ?_ }
 ·rw [List.pairwise_append]
  refine ⟨G.inc, List.pairwise_singleton _ _, fun a ha b hb => ?_⟩
  rw [List.mem_singleton.1 hb]; exact hn a ha
 ·intro t' h
  rcases M t' h with h | rfl
  ·exact G.rng t' h
  ·exact ⟨by show (1 : Int) ≤ 1; decide, by show (1 : Int) ≤ 4; decide, by show (0 : Int) ≤ 1; decide, by show (1 : Int) ≤ 9007199254740991; decide, Nat.zero_le _, hu, fun _ => rfl⟩
 ·intro t' h
  rcases M t' h with h | rfl
  ·exact G.blen t' h
  ·exact Nat.zero_le _
 ·intro t' h hs
  rcases M t' h with h | rfl
  ·exact G.bst t' h hs
  ·rfl
 ·intro t' h
  rcases M t' h with h | rfl
  ·exact G.bnd t' h
  ·exact List.nodup_nil
 ·intro t' h c hc
  rcases M t' h with h | rfl
  ·obtain ⟨u, hu, q⟩ := G.bc t' h c hc
   exact ⟨u, I hu, q⟩
  ·cases hc
 ·intro t' h hs
  rcases M t' h with h | rfl
  ·obtain ⟨u, hu, q⟩ := G.pe t' h hs
   exact ⟨u, I hu, q⟩
  ·exact absurd (show (1 : Int) = 3 from hs) (by decide)
 ·intro t' h hs
  rcases M t' h with h | rfl
  ·exact G.p0 t' h hs
  ·rfl
 ·intro t' h hs
  rcases M t' h with h | rfl
  ·exact G.an t' h hs
  ·exact absurd (show (1 : Int) = 2 from hs) (by decide)
 ·intro t' h x' hx hs hs'
  rcases M t' h with h | rfl
  ·rcases M x' hx with hx | rfl
   ·exact G.au t' h x' hx hs hs'
   ·exact absurd (show (1 : Int) = 2 from hs') (by decide)
  ·exact absurd (show (1 : Int) = 2 from hs) (by decide)
 ·intro t' h h0
  rcases M t' h with h | rfl
  ·obtain ⟨u, hu, q⟩ := G.w1 t' h h0
   exact ⟨u, I hu, q⟩
  ·exact absurd (show (1 : Int) = 0 from h0) (by decide)
 ·intro x' hx y' hy c hcx hcy
  rcases M x' hx with hx | rfl
  ·rcases M y' hy with hy | rfl
   ·exact G.w2 x' hx y' hy c hcx hcy
   ·cases hcy
  ·cases hcx
def bo4 (i c : Int) (r : List Int) (t : aa0) : aa0 := if t.Id = i then { t with Backlog := r } else if t.Id = c then { t with Opens := 1 } else t
theorem GoodT.lis {l : List aa0} (G : GoodT l) {t0 : aa0} (h0 : t0 ∈ l) {c : Int} {r : List Int} (hb : t0.Backlog = c :: r) : GoodT (l.map (bo4 t0.Id c r)) := by
 have U : ∀ t ∈ l, t.Id = t0.Id → t = t0 := fun t ht e => af4 G.inc t ht t0 h0 e
 have hs2 : t0.State = 2 := by
  apply Classical.byContradiction
  intro q; rw [G.bst t0 h0 q] at hb; cases hb
 have hci : ∀ t ∈ l, t.Id = c → t.State = 3 ∨ t.State = 4 := by
  intro t ht e
  obtain ⟨u, hu, e1, _, _, e4⟩ := G.bc t0 h0 c (by rw [hb]; simp)
  rw [af4 G.inc t ht u hu (by rw [e, e1])]; exact e4
 have C : ∀ t ∈ l, (t = t0 ∧ bo4 t0.Id c r t = { t0 with Backlog := r }) ∨ (t.Id ≠ t0.Id ∧ t.Id = c ∧ bo4 t0.Id c r t = { t with Opens := 1 }) ∨ (t.Id ≠ t0.Id ∧ t.Id ≠ c ∧ bo4 t0.Id c r t = t) := by
  intro t ht
  unfold bo4
  by_cases h1 : t.Id = t0.Id
  ·have := U t ht h1; subst this; left; rw [if_pos rfl]; exact ⟨rfl, rfl⟩
  ·by_cases h2 : t.Id = c
   ·right; left; rw [if_neg h1, if_pos h2]; exact ⟨h1, h2, rfl⟩
   ·right; right; rw [if_neg h1, if_neg h2]; exact ⟨h1, h2, rfl⟩
 have K : ∀ t, (bo4 t0.Id c r t).Id = t.Id ∧ (bo4 t0.Id c r t).Host = t.Host ∧ (bo4 t0.Id c r t).State = t.State ∧ (bo4 t0.Id c r t).Peer = t.Peer ∧ (bo4 t0.Id c r t).Local = t.Local := by
  intro t; unfold bo4; split
  ·exact ⟨rfl, rfl, rfl, rfl, rfl⟩
  ·split <;> exact ⟨rfl, rfl, rfl, rfl, rfl⟩
 have nd := G.bnd t0 h0
 rw [hb, List.nodup_cons] at nd
 have B : ∀ t ∈ l, ∀ x ∈ (bo4 t0.Id c r t).Backlog, x ∈ t.Backlog ∧ x ≠ c := by
  intro t ht x hx
  rcases C t ht with ⟨rfl, e⟩ | ⟨q1, q2, e⟩ | ⟨q1, q2, e⟩ <;> rw [e] at hx
  ·have hx : x ∈ r := hx
   exact ⟨by rw [hb]; exact List.mem_cons_of_mem _ hx, fun q => nd.1 (q ▸ hx)⟩
  ·have hx : x ∈ t.Backlog := hx
   have := hci t ht q2
   rw [G.bst t ht (by omega)] at hx; cases hx
  ·refine ⟨hx, fun q => q1 (G.w2 t ht t0 h0 c (q ▸ hx) (by rw [hb]; simp))⟩
 refine { inc := aY6 (fun t => (K t).1) G.inc, rng := ?_, blen := ?_, bst := ?_, bnd := ?_, bc := ?_, pe := ?_, p0 := ?_, an := ?_, au := ?_, w1 := ?_, w2 := ?_ }
 ·intro t' ht'
  obtain ⟨t, ht, rfl⟩ := List.mem_map.1 ht'
  have q := G.rng t ht
  rcases C t ht with ⟨rfl, e⟩ | ⟨_, _, e⟩ | ⟨_, _, e⟩ <;> rw [e]
  ·exact ⟨q.s1, q.s4, q.o0, q.o9, q.dt, q.ow, q.d0⟩
  ·exact ⟨q.s1, q.s4, by show (0 : Int) ≤ 1; decide, by show (1 : Int) ≤ 9007199254740991; decide, q.dt, q.ow, q.d0⟩
  ·exact q
 ·intro t' ht'
  obtain ⟨t, ht, rfl⟩ := List.mem_map.1 ht'
  have q := G.blen t ht
  rcases C t ht with ⟨rfl, e⟩ | ⟨_, _, e⟩ | ⟨_, _, e⟩ <;> rw [e]
  ·rw [hb, List.length_cons] at q; show r.length ≤ 8; omega
  ·exact q
  ·exact q
 ·intro t' ht' h
  obtain ⟨t, ht, rfl⟩ := List.mem_map.1 ht'
  rw [(K t).2.2.1] at h
  rcases C t ht with ⟨rfl, e⟩ | ⟨_, _, e⟩ | ⟨_, _, e⟩
  ·exact absurd hs2 h
  ·rw [e]; exact G.bst t ht h
  ·rw [e]; exact G.bst t ht h
 ·intro t' ht'
  obtain ⟨t, ht, rfl⟩ := List.mem_map.1 ht'
  rcases C t ht with ⟨rfl, e⟩ | ⟨_, _, e⟩ | ⟨_, _, e⟩ <;> rw [e]
  ·exact nd.2
  ·exact G.bnd t ht
  ·exact G.bnd t ht
 ·intro t' ht' x hx
  obtain ⟨t, ht, rfl⟩ := List.mem_map.1 ht'
  obtain ⟨hx, hne⟩ := B t ht x hx
  obtain ⟨u, hu, e1, e2, e3, e4⟩ := G.bc t ht x hx
  refine ⟨bo4 t0.Id c r u, List.mem_map_of_mem hu, by rw [(K u).1]; exact e1, by rw [(K u).2.1, (K t).2.1]; exact e2, ?_, by rw [(K u).2.2.1]; exact e4⟩
  rcases C u hu with ⟨rfl, e⟩ | ⟨_, q, e⟩ | ⟨_, _, e⟩
  ·omega
  ·exact absurd (e1 ▸ q) hne
  ·rw [e]; exact e3
 ·intro t' ht' h3
  obtain ⟨t, ht, rfl⟩ := List.mem_map.1 ht'
  rw [(K t).2.2.1] at h3
  obtain ⟨p, hp, e1, e2, e3, e4⟩ := G.pe t ht h3
  exact ⟨bo4 t0.Id c r p, List.mem_map_of_mem hp, by rw [(K p).1, (K t).2.2.2.1]; exact e1, by rw [(K t).1, (K t).2.2.2.1]; exact e2, by rw [(K p).2.2.1]; exact e3, by rw [(K p).2.2.2.1, (K t).1]; exact e4⟩
 ·intro t' ht' h3
  obtain ⟨t, ht, rfl⟩ := List.mem_map.1 ht'
  rw [(K t).2.2.2.1]; rw [(K t).2.2.1] at h3; exact G.p0 t ht h3
 ·intro t' ht' h2
  obtain ⟨t, ht, rfl⟩ := List.mem_map.1 ht'
  rw [(K t).2.2.2.2, (K t).2.1]; rw [(K t).2.2.1] at h2; exact G.an t ht h2
 ·intro t' ht' x' hx' h2 x2
  obtain ⟨t, ht, rfl⟩ := List.mem_map.1 ht'
  obtain ⟨x, hx, rfl⟩ := List.mem_map.1 hx'
  rw [(K t).2.2.1] at h2; rw [(K x).2.2.1] at x2
  rw [(K t).2.1, (K x).2.1, (K t).2.2.2.2, (K x).2.2.2.2, (K t).1, (K x).1]
  exact G.au t ht x hx h2 x2
 ·intro t' ht' ho
  obtain ⟨t, ht, rfl⟩ := List.mem_map.1 ht'
  have hne : t.Id ≠ c ∧ t.Opens = 0 := by
   rcases C t ht with ⟨rfl, e⟩ | ⟨_, q, e⟩ | ⟨_, q, e⟩ <;> rw [e] at ho
   ·refine ⟨fun q => ?_, ho⟩
    have := hci _ ht q; omega
   ·exact absurd (show (1 : Int) = 0 from ho) (by decide)
   ·exact ⟨q, ho⟩
  obtain ⟨x, hx, hm⟩ := G.w1 t ht hne.2
  refine ⟨bo4 t0.Id c r x, List.mem_map_of_mem hx, ?_⟩
  rw [(K t).1]
  rcases C x hx with ⟨rfl, e⟩ | ⟨_, q, e⟩ | ⟨_, q, e⟩ <;> rw [e]
  ·rw [hb] at hm
   rcases List.mem_cons.1 hm with q | q
   ·exact absurd q hne.1
   ·exact q
  ·exact hm
  ·exact hm
 ·intro x' hx' y' hy' d hcx hcy
  obtain ⟨x, hx, rfl⟩ := List.mem_map.1 hx'
  obtain ⟨y, hy, rfl⟩ := List.mem_map.1 hy'
  rw [(K x).1, (K y).1]; exact G.w2 x hx y hy d (B x hx d hcx).1 (B y hy d hcy).1
def opT (nx : Int) (a b : aa2) (t : aa0) : aa0 := { t with State := 3, Local := b, Remote := a, Peer := nx }
def a22 (i k nx : Int) (a b : aa2) (t : aa0) : aa0 := if t.Id = i then opT nx a b t else if t.Id = k then { t with Backlog := t.Backlog ++ [nx] } else t
def bq9 (nx i : Int) (b : aa2) (s : aa0) : aa0 := aa0.mk nx s.Host s.Owner 3 s.Local b i [] [] 0
theorem GoodT.con {l : List aa0} (G : GoodT l) {nx : Int} (hn : ∀ t ∈ l, t.Id < nx) {ti tk : aa0} (hi : ti ∈ l) (hk : tk ∈ l) (si : ti.State = 1) (sk : tk.State = 2) (hb : tk.Backlog.length < 8) (a b : aa2) :
  GoodT (l.map (a22 ti.Id tk.Id nx a b) ++ [bq9 nx ti.Id b tk]) := by
 have hik : tk.Id ≠ ti.Id := fun e => by rw [af4 G.inc tk hk ti hi e] at sk; omega
 have C : ∀ t ∈ l, (t = ti ∧ a22 ti.Id tk.Id nx a b t = opT nx a b ti) ∨ (t = tk ∧ t.Id ≠ ti.Id ∧ a22 ti.Id tk.Id nx a b t = { tk with Backlog := tk.Backlog ++ [nx] }) ∨ (t.Id ≠ ti.Id ∧ t.Id ≠ tk.Id ∧ a22 ti.Id tk.Id nx a b t = t) := by
  intro t ht
  unfold a22
  by_cases h1 : t.Id = ti.Id
  ·have := af4 G.inc t ht ti hi h1; subst this; left; rw [if_pos rfl]; exact ⟨rfl, rfl⟩
  ·by_cases h2 : t.Id = tk.Id
   ·have := af4 G.inc t ht tk hk h2; subst this; right; left; rw [if_neg h1, if_pos rfl]; exact ⟨rfl, h1, rfl⟩
   ·right; right; rw [if_neg h1, if_neg h2]; exact ⟨h1, h2, rfl⟩
 have K : ∀ t, (a22 ti.Id tk.Id nx a b t).Id = t.Id ∧ (a22 ti.Id tk.Id nx a b t).Host = t.Host ∧ (a22 ti.Id tk.Id nx a b t).Opens = t.Opens := by
  intro t; unfold a22 opT; split
  ·exact ⟨rfl, rfl, rfl⟩
  ·split <;> exact ⟨rfl, rfl, rfl⟩
 have hnb : ∀ t ∈ l, nx ∉ t.Backlog := by
  intro t ht q
  obtain ⟨u, hu, e, _⟩ := G.bc t ht nx q
  have := hn u hu; omega
 have B : ∀ t ∈ l, ∀ x ∈ (a22 ti.Id tk.Id nx a b t).Backlog, x ∈ t.Backlog ∨ (t = tk ∧ x = nx) := by
  intro t ht x hx
  rcases C t ht with ⟨rfl, e⟩ | ⟨rfl, _, e⟩ | ⟨_, _, e⟩ <;> rw [e] at hx
  ·exact .inl hx
  ·have hx : x ∈ t.Backlog ++ [nx] := hx
   rcases List.mem_append.1 hx with hx | hx
   ·exact .inl hx
   ·exact .inr ⟨rfl, List.mem_singleton.1 hx⟩
  ·exact .inl hx
 have B' : ∀ t ∈ l, ∀ x ∈ t.Backlog, x ∈ (a22 ti.Id tk.Id nx a b t).Backlog := by
  intro t ht x hx
  rcases C t ht with ⟨rfl, e⟩ | ⟨rfl, _, e⟩ | ⟨_, _, e⟩ <;> rw [e]
  ·exact hx
  ·exact List.mem_append_left _ hx
  ·exact hx
 have M : ∀ t', t' ∈ l.map (a22 ti.Id tk.Id nx a b) ++ [bq9 nx ti.Id b tk] → (∃ t ∈ l, a22 ti.Id tk.Id nx a b t = t') ∨ t' = bq9 nx ti.Id b tk := by
  intro t' h
  rcases List.mem_append.1 h with h | h
  ·exact .inl (List.mem_map.1 h)
  ·exact .inr (List.mem_singleton.1 h)
 have I : ∀ {t}, t ∈ l → a22 ti.Id tk.Id nx a b t ∈ l.map (a22 ti.Id tk.Id nx a b) ++ [bq9 nx ti.Id b tk] := fun h => List.mem_append_left _ (List.mem_map_of_mem h)
 have J : bq9 nx ti.Id b tk ∈ l.map (a22 ti.Id tk.Id nx a b) ++ [bq9 nx ti.Id b tk] := List.mem_append_right _ (by simp)
 refine { inc := ?_, rng := ?_, blen := ?_, bst := ?_, bnd := ?_, bc := ?_, pe := ?_, p0 := ?_, an := ?_, au := ?_, w1 := ?_, w2 := ?_ }
 ·rw [List.pairwise_append]
  refine ⟨aY6 (fun t => (K t).1) G.inc, List.pairwise_singleton _ _, fun x hx y hy => ?_⟩
  obtain ⟨t, ht, rfl⟩ := List.mem_map.1 hx
  rw [List.mem_singleton.1 hy, (K t).1]; exact hn t ht
 ·intro t' h
  rcases M t' h with ⟨t, ht, rfl⟩ | rfl
  ·have q := G.rng t ht
   rcases C t ht with ⟨rfl, e⟩ | ⟨rfl, _, e⟩ | ⟨_, _, e⟩ <;> rw [e]
   ·exact ⟨by show (1 : Int) ≤ 3; decide, by show (3 : Int) ≤ 4; decide, q.o0, q.o9, q.dt, q.ow, fun h => absurd (show (3 : Int) ≤ 2 from h) (by decide)⟩
   ·exact ⟨q.s1, q.s4, q.o0, q.o9, q.dt, q.ow, q.d0⟩
   ·exact q
  ·exact ⟨by show (1 : Int) ≤ 3; decide, by show (3 : Int) ≤ 4; decide, by show (0 : Int) ≤ 0; decide, by show (0 : Int) ≤ 9007199254740991; decide, Nat.zero_le _, (G.rng tk hk).ow, fun _ => rfl⟩
 ·intro t' h
  rcases M t' h with ⟨t, ht, rfl⟩ | rfl
  ·have q := G.blen t ht
   rcases C t ht with ⟨rfl, e⟩ | ⟨rfl, _, e⟩ | ⟨_, _, e⟩ <;> rw [e]
   ·exact q
   ·show (t.Backlog ++ [nx]).length ≤ 8; simp; omega
   ·exact q
  ·exact Nat.zero_le _
 ·intro t' h hs
  rcases M t' h with ⟨t, ht, rfl⟩ | rfl
  ·rcases C t ht with ⟨rfl, e⟩ | ⟨rfl, _, e⟩ | ⟨_, _, e⟩ <;> rw [e] at hs ⊢
   ·exact G.bst t ht (by omega)
   ·exact absurd sk hs
   ·exact G.bst t ht hs
  ·rfl
 ·intro t' h
  rcases M t' h with ⟨t, ht, rfl⟩ | rfl
  ·rcases C t ht with ⟨rfl, e⟩ | ⟨rfl, _, e⟩ | ⟨_, _, e⟩ <;> rw [e]
   ·exact G.bnd t ht
   ·show (t.Backlog ++ [nx]).Nodup
    rw [List.nodup_append]
    refine ⟨G.bnd t ht, by simp, fun x hx y hy => ?_⟩
    rw [List.mem_singleton.1 hy]
    exact fun q => hnb t ht (q ▸ hx)
   ·exact G.bnd t ht
  ·exact List.nodup_nil
 ·intro t' h c hc
  rcases M t' h with ⟨t, ht, rfl⟩ | rfl
  ·rcases B t ht c hc with hc | ⟨rfl, rfl⟩
   ·obtain ⟨u, hu, e1, e2, e3, e4⟩ := G.bc t ht c hc
    refine ⟨_, I hu, by rw [(K u).1]; exact e1, by rw [(K u).2.1, (K t).2.1]; exact e2, by rw [(K u).2.2]; exact e3, ?_⟩
    rcases C u hu with ⟨rfl, e⟩ | ⟨rfl, _, e⟩ | ⟨_, _, e⟩ <;> rw [e]
    ·exact .inl rfl
    ·exact e4
    ·exact e4
   ·exact ⟨_, J, rfl, by rw [(K t).2.1]; rfl, rfl, .inl rfl⟩
  ·cases hc
 ·intro t' h hs
  rcases M t' h with ⟨t, ht, rfl⟩ | rfl
  ·rcases C t ht with ⟨rfl, e⟩ | ⟨rfl, q, e⟩ | ⟨q, _, e⟩
   ·rw [e]
    exact ⟨_, J, rfl, by show nx ≠ t.Id; have := hn t ht; omega, rfl, rfl⟩
   ·rw [e] at hs; have hs : t.State = 3 := hs; omega
   ·rw [e] at hs ⊢
    obtain ⟨p, hp, e1, e2, e3, e4⟩ := G.pe t ht hs
    refine ⟨_, I hp, by rw [(K p).1]; exact e1, e2, ?_⟩
    rcases C p hp with ⟨rfl, e⟩ | ⟨rfl, _, e⟩ | ⟨_, _, e⟩ <;> rw [e]
    ·omega
    ·omega
    ·exact ⟨e3, e4⟩
  ·refine ⟨_, I hi, by rw [(K ti).1]; rfl, by show ti.Id ≠ nx; have := hn ti hi; omega, ?_⟩
   rcases C ti hi with ⟨_, e⟩ | ⟨_, q, e⟩ | ⟨q, _, e⟩
   ·rw [e]; exact ⟨rfl, rfl⟩
   ·exact absurd rfl q
   ·exact absurd rfl q
 ·intro t' h hs
  rcases M t' h with ⟨t, ht, rfl⟩ | rfl
  ·rcases C t ht with ⟨rfl, e⟩ | ⟨rfl, _, e⟩ | ⟨_, _, e⟩ <;> rw [e] at hs ⊢
   ·exact absurd rfl hs
   ·exact G.p0 t ht hs
   ·exact G.p0 t ht hs
  ·exact absurd rfl hs
 ·intro t' h hs
  rcases M t' h with ⟨t, ht, rfl⟩ | rfl
  ·rcases C t ht with ⟨rfl, e⟩ | ⟨rfl, _, e⟩ | ⟨_, _, e⟩ <;> rw [e] at hs ⊢
   ·exact absurd (show (3 : Int) = 2 from hs) (by decide)
   ·exact G.an t ht hs
   ·exact G.an t ht hs
  ·exact absurd (show (3 : Int) = 2 from hs) (by decide)
 ·intro t' h x' hx' hs hs'
  have key : ∀ t ∈ l, (a22 ti.Id tk.Id nx a b t).State = 2 → t.State = 2 ∧ (a22 ti.Id tk.Id nx a b t).Local = t.Local := by
   intro t ht h2
   rcases C t ht with ⟨rfl, e⟩ | ⟨rfl, _, e⟩ | ⟨_, _, e⟩ <;> rw [e] at h2 ⊢
   ·exact absurd (show (3 : Int) = 2 from h2) (by decide)
   ·exact ⟨h2, rfl⟩
   ·exact ⟨h2, rfl⟩
  rcases M t' h with ⟨t, ht, rfl⟩ | rfl
  ·rcases M x' hx' with ⟨x, hx, rfl⟩ | rfl
   ·obtain ⟨q1, q2⟩ := key t ht hs
    obtain ⟨r1, r2⟩ := key x hx hs'
    rw [q2, r2, (K t).2.1, (K x).2.1, (K t).1, (K x).1]
    exact G.au t ht x hx q1 r1
   ·exact absurd (show (3 : Int) = 2 from hs') (by decide)
  ·exact absurd (show (3 : Int) = 2 from hs) (by decide)
 ·intro t' h h0
  rcases M t' h with ⟨t, ht, rfl⟩ | rfl
  ·rw [(K t).2.2] at h0
   obtain ⟨x, hx, hm⟩ := G.w1 t ht h0
   exact ⟨_, I hx, by rw [(K t).1]; exact B' x hx _ hm⟩
  ·refine ⟨_, I hk, ?_⟩
   rcases C tk hk with ⟨e0, _⟩ | ⟨_, _, e⟩ | ⟨_, q, e⟩
   ·exact absurd (congrArg aa0.Id e0) hik
   ·rw [e]; exact List.mem_append_right _ (by simp [bq9])
   ·exact absurd rfl q
 ·intro x' hx' y' hy' c hcx hcy
  rcases M x' hx' with ⟨x, hx, rfl⟩ | rfl
  ·rcases M y' hy' with ⟨y, hy, rfl⟩ | rfl
   ·rw [(K x).1, (K y).1]
    rcases B x hx c hcx with q | ⟨q, e⟩ <;> rcases B y hy c hcy with q' | ⟨q', e'⟩
    ·exact G.w2 x hx y hy c q q'
    ·exact absurd (e' ▸ q) (hnb x hx)
    ·exact absurd (e ▸ q') (hnb y hy)
    ·rw [q, q']
   ·cases hcy
  ·cases hcx
theorem ah9 {n : aa1} (h : Mod n) : ah1 n = some n := by
 have hdb := h.db
 have hl := h.len
 have hT : ay5 n n.Db = some n := by
  unfold ay5 ad7
  rw [ac2 (by simp; omega) (by simp; omega), Option.bind_some, Option.bind_some]
  show ab0 (fun s => aj6 n n.Db n.Talks s.1 s.2) (0, n.Talks) = some n
  refine ac5 (σ := Unit) (τ := Int × List aa0) n.Talks.length (fun _ i => (i, n.Talks)) _ (fun _ _ => n) (fun _ _ => True) (s0 := ()) trivial (fun s i hi _ => ?_) (fun s _ => ?_)
  ·left
   refine ⟨(), ?_, rfl, trivial⟩
   show aj6 n n.Db n.Talks (i : Int) n.Talks = _
   unfold aj6 ae7
   have hb := h.bl _ (List.getElem_mem hi)
   have c1 : ar7 8 ([] : List Int) n.Talks[i].Backlog = some n.Talks[i].Backlog := by rw [ac2 (by simp; omega) (by simp; omega)]; rfl
   have hs : List.set n.Talks i n.Talks[i] = n.Talks := List.set_getElem_self hi
   have hs' : List.set n.Talks i (aa0.mk n.Talks[i].Id n.Talks[i].Host n.Talks[i].Owner n.Talks[i].State n.Talks[i].Local n.Talks[i].Remote n.Talks[i].Peer n.Talks[i].Data n.Talks[i].Backlog n.Talks[i].Opens) = n.Talks := hs
   simp only [dlt hi, if_true, aa6 hi, Option.bind_some, c1, Int.toNat_natCast, hs', aa8 (show i ≤ 1000000 by omega)]
  ·show aj6 n n.Db n.Talks _ n.Talks = _
   unfold aj6
   simp
 unfold ah1 ac7
 have h3 := hdb.1
 rw [ac2 (by simp; omega) (by simp; omega), Option.bind_some, Option.bind_some]
 show ab0 (fun s => ak6 n n.Db s.1 s.2) (0, n.Db) = some n
 refine ac5 (σ := Unit) (τ := Int × List aa3) n.Db.length (fun _ i => (i, n.Db)) _ (fun _ _ => n) (fun _ _ => True) (s0 := ()) trivial (fun s i hi _ => ?_) (fun s _ => ?_)
 ·left
  refine ⟨(), ?_, rfl, trivial⟩
  show ak6 n n.Db (i : Int) n.Db = _
  unfold ak6 ad6
  have hb := (hdb.2 _ (List.getElem_mem hi)).1
  have c1 : ar7 40 ([] : List aa4) n.Db[i].Attrs = some n.Db[i].Attrs := by rw [ac2 (by simp; omega) (by simp; omega)]; rfl
  have hs : List.set n.Db i n.Db[i] = n.Db := List.set_getElem_self hi
  have hs' : List.set n.Db i (aa3.mk n.Db[i].Attrs) = n.Db := hs
  simp only [dlt hi, if_true, aa6 hi, Option.bind_some, c1, Int.toNat_natCast, hs', aa8 (show i ≤ 1000000 by omega)]
 ·show ak6 n n.Db _ n.Db = _
  unfold ak6
  simp [hT]
structure Inv (l : List aa0) : Prop where
 inc : l.Pairwise fun a b => a.Id < b.Id
 len : l.length ≤ 100000
 bl : ∀ t ∈ l, t.Backlog.length ≤ 100000
 pe : ∀ t ∈ l, t.State = 3 → ∃ p ∈ l, p.Id = t.Peer ∧ t.Peer ≠ t.Id ∧ p.State = 3 ∧ p.Peer = t.Id
theorem Good.inv {n : aa1} (g : Good n) : Inv n.Talks := ⟨g.tk.inc, by have := g.len; omega, fun t h => by have := g.tk.blen t h; omega, g.tk.pe⟩
theorem Inv.cut {l : List aa0} (I : Inv l) (R : List Int) : Inv (cutS l R) := by
 have K := ah8 R
 have M : ∀ t', t' ∈ cutS l R ↔ ∃ t ∈ l, t.Id ∉ R ∧ hg1 R t = t' := by
  intro t'
  unfold cutS dpL hgL
  simp only [List.mem_filter, List.mem_map, decide_eq_true_eq]
  constructor
  ·rintro ⟨⟨t, h1, rfl⟩, h2⟩; exact ⟨t, h1, by rw [← (K t).1]; exact h2, rfl⟩
  ·rintro ⟨t, h1, h2, rfl⟩; exact ⟨⟨t, h1, rfl⟩, by rw [(K t).1]; exact h2⟩
 refine ⟨(aY6 (fun t => (K t).1) I.inc).filter _, ?_, ?_, ?_⟩
 ·unfold cutS dpL hgL
  exact Nat.le_trans (List.length_filter_le _ _) (by rw [List.length_map]; exact I.len)
 ·intro t' h
  obtain ⟨t, ht, _, rfl⟩ := (M t').1 h
  rw [(K t).2.2.2.2.2.2.1]; exact I.bl t ht
 ·intro t' h h3
  obtain ⟨t, ht, hr, rfl⟩ := (M t').1 h
  rcases aL6 R t with ⟨q, s, _⟩ | ⟨q, e⟩
  ·omega
  rw [e] at h3 ⊢
  obtain ⟨p, hp, e1, e2, e3, e4⟩ := I.pe t ht h3
  have hp' : p.Id ∉ R := fun q' => q ⟨h3, .inr (e1 ▸ q')⟩
  refine ⟨hg1 R p, (M _).2 ⟨p, hp, hp', rfl⟩, ?_⟩
  rcases aL6 R p with ⟨q', s, _⟩ | ⟨_, e'⟩
  ·exfalso
   rcases q'.2 with q' | q'
   ·exact hp' q'
   ·exact hr (e4 ▸ q')
  ·rw [e']; exact ⟨e1, e2, e3, e4⟩
theorem bP0 (l : List aa0) (R : List Int) (c : Int) : cutS (cutS l R) [c] = cutS l (R ++ [c]) := by
 induction l with
 | nil => rfl
 | cons t r ih =>
  have hc : ∀ (R : List Int) (t : aa0) (r : List aa0), cutS (t :: r) R = if t.Id ∉ R then hg1 R t :: cutS r R else cutS r R := by
   intro R t r
   unfold cutS dpL hgL
   rw [List.map_cons, List.filter_cons]
   simp only [(ah8 R t).1, decide_eq_true_eq]
  rw [hc, hc]
  by_cases h1 : t.Id ∈ R
  ·simp [h1, ih]
  ·rw [if_pos h1, hc, (ah8 R t).1]
   by_cases h2 : t.Id = c
   ·simp [h2, ih]
   ·have e1 : t.Id ∉ [c] := by simpa using h2
    have e2 : t.Id ∉ R ++ [c] := by simp [h1, h2]
    rw [if_pos e1, if_pos e2, ih]
    congr 1
    unfold hg1 hgT
    by_cases h3 : t.State = 3
    ·by_cases h4 : t.Peer ∈ R
     ·simp [h3, h1, h2, h4]
     ·by_cases h5 : t.Peer = c
      ·have h6 : c ∉ R := h5 ▸ h4
       simp [h3, h1, h2, h5, h6]
      ·simp [h3, h1, h2, h4, h5]
    ·simp [h3]
theorem as1 {f : aa0 → aa0} : ∀ {l : List aa0} {i : Nat} {t : aa0}, (l.Pairwise fun a b => a.Id < b.Id) → l[i]? = some t → l.set i (f t) = upT l t.Id f
 | [], i, t, _, h => by simp at h
 | a :: r, 0, t, hi, h => by
  obtain rfl := Option.some.inj h
  unfold upT
  rw [List.set_cons_zero, List.map_cons, if_pos rfl]
  congr 1
  symm
  conv => rhs; rw [← List.map_id r]
  apply List.map_congr_left
  intro y hy
  have := (List.pairwise_cons.1 hi).1 y hy
  rw [if_neg (by omega)]; rfl
 | a :: r, i + 1, t, hi, h => by
  have h' : r[i]? = some t := by simpa using h
  unfold upT
  have hm : t ∈ r := List.mem_of_getElem? h'
  have := (List.pairwise_cons.1 hi).1 t hm
  rw [List.set_cons_succ, List.map_cons, if_neg (by omega), as1 (List.pairwise_cons.1 hi).2 h']; rfl
theorem bi8 {α : Type} {l : List α} {i : Nat} {x : α} (h : i < l.length) : aa9 (l.set i x) (i : Int) = some x := ae3 (by rw [List.getElem?_set_self h])
theorem bg1 {l : List aa0} {id : Int} {f : aa0 → aa0} (hf : ∀ t, (f t).Id = t.Id) (h : l.Pairwise fun a b => a.Id < b.Id) : (upT l id f).Pairwise fun a b => a.Id < b.Id := by
 unfold upT
 refine aY6 (fun t => ?_) h
 split
 ·exact hf t
 ·rfl
theorem ca4 {l : List aa0} {id : Int} {f : aa0 → aa0} {i : Nat} {t : aa0} (h : l[i]? = some t) : (upT l id f)[i]? = some (if t.Id = id then f t else t) := by
 unfold upT; rw [List.getElem?_map, h]; rfl
theorem co4 : ∀ {l : List aa0} {i : Nat} {t : aa0}, (l.Pairwise fun a b => a.Id < b.Id) → l[i]? = some t → l.take i ++ l.drop (i + 1) = dpL l [t.Id]
 | [], i, t, _, h => by simp at h
 | a :: r, 0, t, hi, h => by
  obtain rfl := Option.some.inj h
  unfold dpL
  rw [List.take_zero, List.drop_succ_cons, List.drop_zero, List.nil_append, List.filter_cons_of_neg (by simp)]
  symm
  rw [List.filter_eq_self]
  intro y hy
  have := (List.pairwise_cons.1 hi).1 y hy
  simp; omega
 | a :: r, i + 1, t, hi, h => by
  have h' : r[i]? = some t := by simpa using h
  have hm : t ∈ r := List.mem_of_getElem? h'
  have := (List.pairwise_cons.1 hi).1 t hm
  unfold dpL
  rw [List.take_succ_cons, List.drop_succ_cons, List.cons_append, List.filter_cons_of_pos (by simp; omega), co4 (List.pairwise_cons.1 hi).2 h']; rfl
theorem ba5 {l : List aa0} (I : Inv l) {c : Int} (h : ∀ t ∈ l, t.Id = c → t.State ≠ 3) : hgL l [c] = l := by
 unfold hgL
 conv => rhs; rw [← List.map_id l]
 apply List.map_congr_left
 intro t ht
 rcases aL6 [c] t with ⟨⟨q1, q2⟩, _⟩ | ⟨_, e⟩
 ·exfalso
  rcases q2 with q2 | q2
  ·exact h t ht (by simpa using q2) q1
  ·obtain ⟨p, hp, e1, e2, e3, e4⟩ := I.pe t ht q1
   exact h p hp (by rw [e1]; simpa using q2) e3
 ·rw [e]; rfl
theorem ca5 {l : List aa0} (I : Inv l) {t p : aa0} (ht : t ∈ l) (hp : p ∈ l) (h3 : t.State = 3) (e1 : p.Id = t.Peer) (e2 : t.Peer ≠ t.Id) (e3 : p.State = 3) (e4 : p.Peer = t.Id) : upT (upT l p.Id hgT) t.Id hgT = hgL l [t.Id] := by
 unfold upT hgL
 rw [List.map_map]
 apply List.map_congr_left
 intro x hx
 show (if (if x.Id = p.Id then hgT x else x).Id = t.Id then hgT (if x.Id = p.Id then hgT x else x) else (if x.Id = p.Id then hgT x else x)) = hg1 [t.Id] x
 unfold hg1
 by_cases q1 : x.Id = t.Id
 ·have := af4 I.inc x hx t ht q1; subst this
  have q2 : x.Id ≠ p.Id := by omega
  rw [if_neg q2, if_pos rfl, if_pos ⟨h3, .inl (by simp)⟩]
 ·by_cases q2 : x.Id = p.Id
  ·have := af4 I.inc x hx p hp q2; subst this
   rw [if_pos rfl, if_neg (by show ¬ x.Id = t.Id; exact q1), if_pos ⟨e3, .inr (by simp [e4])⟩]
  ·rw [if_neg q2, if_neg q1, if_neg]
   rintro ⟨q3, q4⟩
   rcases q4 with q4 | q4
   ·exact q1 (by simpa using q4)
   ·have q4 : x.Peer = t.Id := by simpa using q4
    obtain ⟨y, hy, f1, f2, f3, f4⟩ := I.pe x hx q3
    have := af4 I.inc y hy t ht (by omega); subst this
    exact q2 (by omega)
theorem co5 {n : aa1} {L : List aa0} (hi : L.Pairwise fun a b => a.Id < b.Id) {i : Nat} {t : aa0} (h : L[i]? = some t) : am2 n (i : Int) L = some (aa1.mk n.Db n.Next (upT L t.Id hgT)) := by
 unfold am2
 have hlt : i < L.length := (List.getElem?_eq_some_iff.1 h).1
 rw [ae3 h, Option.bind_some, Int.toNat_natCast, bi8 hlt, Option.bind_some, List.set_set]
 have := as1 (f := hgT) hi h
 rw [← this]; rfl
theorem ct4 {n : aa1} {L : List aa0} (hi : L.Pairwise fun a b => a.Id < b.Id) {i : Nat} {t : aa0} (h : L[i]? = some t) : as9 n (i : Int) L = some (aa1.mk n.Db n.Next (upT L t.Id hgT)) := co5 hi h
theorem bG3 {n : aa1} (I : Inv n.Talks) {t : aa0} (ht : t ∈ n.Talks) (h3 : t.State = 3) {K : Int → List aa0 → Option aa1}
  (hK : ∀ {L : List aa0} {i : Nat} {t : aa0}, (L.Pairwise fun a b => a.Id < b.Id) → L[i]? = some t → K (i : Int) L = some (aa1.mk n.Db n.Next (upT L t.Id hgT))) {i : Nat} (hi : n.Talks[i]? = some t) :
  ((ag5 n t.Peer).bind fun x8 => if (decide (0 ≤ x8)) = true then (aa9 n.Talks x8).bind fun x10 => (aa9 (List.set n.Talks (Int.toNat x8) (aa0.mk x10.Id x10.Host x10.Owner 4 x10.Local x10.Remote x10.Peer x10.Data x10.Backlog x10.Opens)) x8).bind fun x11 => K (i : Int) (List.set (List.set n.Talks (Int.toNat x8) (aa0.mk x10.Id x10.Host x10.Owner 4 x10.Local x10.Remote x10.Peer x10.Data x10.Backlog x10.Opens)) (Int.toNat x8) (aa0.mk x11.Id x11.Host x11.Owner x11.State x11.Local x11.Remote 0 x11.Data x11.Backlog x11.Opens)) else K (i : Int) n.Talks) = some (aa1.mk n.Db n.Next (hgL n.Talks [t.Id])) := by
 obtain ⟨p, hp, e1, e2, e3, e4⟩ := I.pe t ht h3
 have hf : fdT n.Talks t.Peer = some p := by rw [← e1]; exact ba4 I.inc hp
 obtain ⟨k, k1, k2, k3, k4⟩ := ah7 hf
 have h0 : decide ((0 : Int) ≤ (k : Int)) = true := by simp
 rw [aD7 I.len, Option.bind_some, k2]
 simp only [h0, if_true, ae3 k3, Option.bind_some, Int.toNat_natCast, bi8 k1, List.set_set]
 have e : List.set n.Talks k (aa0.mk p.Id p.Host p.Owner 4 p.Local p.Remote 0 p.Data p.Backlog p.Opens) = upT n.Talks p.Id hgT := as1 (f := hgT) I.inc k3
 rw [e]
 have hii : (upT n.Talks p.Id hgT)[i]? = some t := by rw [ca4 hi, if_neg (by omega)]
 rw [hK (bg1 (f := hgT) (fun _ => rfl) I.inc) hii, ca5 I ht hp h3 e1 e2 e3 e4]
theorem ct5 (n : aa1) : aa1.mk n.Db n.Next n.Talks = n := rfl
theorem ck5 {n : aa1} (I : Inv n.Talks) {t : aa0} (ht : t ∈ n.Talks) (h2 : t.State ≠ 2) : aA6 n t.Id = some (aa1.mk n.Db n.Next (hgL n.Talks [t.Id])) := by
 obtain ⟨i, i1, i2, i3, i4⟩ := ah7 (ba4 I.inc ht)
 unfold aA6
 rw [aD7 I.len, Option.bind_some, i2, ae3 i3, Option.bind_some]
 by_cases h3 : t.State = 3
 ·rw [if_pos (by simp [h3])]
  exact bG3 I ht h3 (fun hi h => co5 hi h) i3
 ·rw [if_neg (by simp [h3]), if_neg (by simp [h2]), ba5 I (fun x hx e => by rw [af4 I.inc x hx t ht e]; exact h3)]
theorem bG4 {l : List aa0} (I : Inv l) {c : Int} (h : ∀ t ∈ l, t.Id ≠ c) : cutS l [c] = l := by
 unfold cutS
 rw [ba5 I (fun t ht e => absurd e (h t ht))]
 unfold dpL
 rw [List.filter_eq_self]
 intro t ht; simpa using h t ht
theorem bG5 {n : aa1} {L : List aa0} (hl : L.length ≤ 100000) (hi : L.Pairwise fun a b => a.Id < b.Id) {t : aa0} (ht : t ∈ L) :
  ((ag5 (aa1.mk n.Db n.Next L) t.Id).bind fun x4 => (ac4 (aa1.mk n.Db n.Next L).Talks x4 (IntKind.wrap .i64 (x4 + 1))).bind fun x5 => some (aa1.mk (aa1.mk n.Db n.Next L).Db (aa1.mk n.Db n.Next L).Next x5)) = some (aa1.mk n.Db n.Next (dpL L [t.Id])) := by
 obtain ⟨i, i1, i2, i3, i4⟩ := ah7 (ba4 hi ht)
 rw [aD7 (n := aa1.mk n.Db n.Next L) hl, Option.bind_some]
 show ((ac4 L (ixT L t.Id) (IntKind.wrap .i64 (ixT L t.Id + 1))).bind fun x5 => some (aa1.mk n.Db n.Next x5)) = _
 rw [i2, aa8 (by omega)]
 unfold ac4 delL
 rw [if_pos ⟨by omega, by omega, by omega⟩, Option.bind_some]
 have : Int.toNat ((i : Int) + 1) = i + 1 := by omega
 rw [this, Int.toNat_natCast, co4 hi i3]
theorem ck6 {n : aa1} (I : Inv n.Talks) {c : Int} (h : ∀ t ∈ n.Talks, t.Id = c → t.State ≠ 2) : au1 n c = some (aa1.mk n.Db n.Next (cutS n.Talks [c])) := by
 unfold au1
 rw [aD7 I.len, Option.bind_some]
 cases hf : fdT n.Talks c with
 | none => rw [aE8 hf, if_pos (by decide), bG4 I (bO8 hf)]
 | some t =>
  obtain ⟨ht, rfl⟩ := a43 hf
  obtain ⟨i, i1, i2, i3, i4⟩ := ah7 hf
  rw [i2, if_neg (by simp), ck5 I ht (h t ht rfl), Option.bind_some]
  have hm : hg1 [t.Id] t ∈ hgL n.Talks [t.Id] := List.mem_map_of_mem ht
  have := bG5 (n := n) (L := hgL n.Talks [t.Id]) (by unfold hgL; rw [List.length_map]; exact I.len) (aY6 (fun t => (ah8 _ t).1) I.inc) hm
  rw [(ah8 [t.Id] t).1] at this
  exact this
theorem ca6 {n : aa1} (B : List Int) (L : List aa0) (I : Inv L) (hB : B.length ≤ 100000) (h : ∀ t ∈ L, t.Id ∈ B → t.State ≠ 2) {body : Int × (List aa3) × Int × (List aa0) → Option (Step (Int × (List aa3) × Int × (List aa0)) aa1)}
  (hb : ∀ (l : List aa0) i (h : i < B.length), body ((i : Int), n.Db, n.Next, l) = (au1 (aa1.mk n.Db n.Next l) B[i]).bind fun x => some (.cont (IntKind.wrap .i64 ((i : Int) + 1), x.Db, x.Next, x.Talks))) (he : ∀ l, body ((B.length : Int), n.Db, n.Next, l) = some (.done (aa1.mk n.Db n.Next l))) :
  ab0 body (0, n.Db, n.Next, L) = some (aa1.mk n.Db n.Next (cutS L B)) := by
 have e0 : cutS L [] = L := by
  have e1 : hgL L [] = L := by
   unfold hgL
   conv => rhs; rw [← List.map_id L]
   apply List.map_congr_left
   intro t ht
   unfold hg1; simp
  unfold cutS; rw [e1]; unfold dpL; simp
 refine (ac5 B.length (fun (_ : Unit) i => (i, n.Db, n.Next, cutS L (B.take i.toNat))) body (fun _ _ => aa1.mk n.Db n.Next (cutS L B)) (fun _ _ => True) (s0 := ()) trivial ?_ ?_ |> (fun h => by rw [← h]; simp [e0]))
 ·intro _ i hi _
  left
  refine ⟨(), ?_, rfl, trivial⟩
  rw [Int.toNat_natCast, hb _ i hi, ck6 (n := aa1.mk n.Db n.Next (cutS L (B.take i))) (I.cut _) ?_, Option.bind_some]
  ·show some (Step.cont (IntKind.wrap .i64 ((i : Int) + 1), n.Db, n.Next, cutS (cutS L (B.take i)) [B[i]])) = _
   rw [bP0, ← List.take_succ_eq_append_getElem hi, aa8 (by omega)]
   rfl
  ·intro t' ht' e
   have ht' : t' ∈ cutS L (B.take i) := ht'
   unfold cutS dpL hgL at ht'
   obtain ⟨t, ht, rfl⟩ := List.mem_map.1 (List.mem_filter.1 ht').1
   rw [(ah8 _ t).1] at e
   have := h t ht (by rw [e]; exact List.getElem_mem hi)
   rcases aL6 (B.take i) t with ⟨_, s, _⟩ | ⟨_, e'⟩
   ·omega
   ·rw [e']; exact this
 ·intro _ _
  rw [Int.toNat_natCast, List.take_length, he]
theorem Inv.clear {l : List aa0} (I : Inv l) {id : Int} (h : ∀ t ∈ l, t.Id = id → t.State = 2) : Inv (upT l id clT) := by
 refine ⟨bg1 (fun _ => rfl) I.inc, by unfold upT; rw [List.length_map]; exact I.len, ?_, ?_⟩
 ·intro t' h'
  obtain ⟨t, ht, rfl⟩ := List.mem_map.1 h'
  rcases ax0 id clT t with ⟨q, e⟩ | ⟨q, e⟩ <;> rw [e]
  ·exact Nat.zero_le _
  ·exact I.bl t ht
 ·intro t' h' h3
  obtain ⟨t, ht, rfl⟩ := List.mem_map.1 h'
  rcases ax0 id clT t with ⟨q, e⟩ | ⟨q, e⟩ <;> rw [e] at h3 ⊢
  ·exact absurd (show (4 : Int) = 3 from h3) (by decide)
  ·obtain ⟨p, hp, e1, e2, e3, e4⟩ := I.pe t ht h3
   refine ⟨_, List.mem_map_of_mem hp, ?_⟩
   rcases ax0 id clT p with ⟨q', e'⟩ | ⟨q', e'⟩ <;> rw [e']
   ·have := h p hp q'; omega
   ·exact ⟨e1, e2, e3, e4⟩
def hangS (l : List aa0) (t : aa0) : List aa0 := if t.State = 2 then cutS (upT l t.Id clT) t.Backlog else hgL l [t.Id]
def ca7 (l : List aa0) (t : aa0) : Prop := t.State = 2 → ∀ u ∈ l, u.Id ∈ t.Backlog → u.State ≠ 2
theorem bV1 {n : aa1} (I : Inv n.Talks) {t : aa0} (ht : t ∈ n.Talks) (hw : ca7 n.Talks t) : au2 n t.Id = some (aa1.mk n.Db n.Next (hangS n.Talks t)) := by
 obtain ⟨i, i1, i2, i3, i4⟩ := ah7 (ba4 I.inc ht)
 unfold au2 hangS
 rw [aD7 I.len, Option.bind_some, i2, ae3 i3, Option.bind_some]
 by_cases h3 : t.State = 3
 ·rw [if_pos (by simp [h3]), if_neg (by omega)]
  exact bG3 I ht h3 (fun hi h => ct4 hi h) i3
 ·rw [if_neg (by simp [h3])]
  by_cases h2 : t.State = 2
  ·rw [if_pos (by simp [h2]), if_pos h2, Int.toNat_natCast, bi8 i1, Option.bind_some, List.set_set]
   have e : List.set n.Talks i (aa0.mk t.Id t.Host t.Owner 4 t.Local t.Remote t.Peer t.Data ([] : List Int) t.Opens) = upT n.Talks t.Id clT := as1 (f := clT) I.inc i3
   simp only [e]
   refine ca6 (n := n) t.Backlog (upT n.Talks t.Id clT) (I.clear (fun x hx q => by rw [af4 I.inc x hx t ht q]; exact h2)) (I.bl t ht) ?_ ?_ ?_
   ·intro u' hu' hm
    obtain ⟨u, hu, rfl⟩ := List.mem_map.1 hu'
    rcases ax0 t.Id clT u with ⟨q, e⟩ | ⟨q, e⟩ <;> rw [e] at hm ⊢
    ·exact (by decide : (4 : Int) ≠ 2)
    ·exact hw h2 u hu hm
   ·intro l k hk
    simp only [aq9, dlt hk, if_true, aa6 hk, Option.bind_some]
   ·intro l
    simp [aq9]
  ·rw [if_neg (by simp [h2]), if_neg h2, ba5 I (fun x hx e => by rw [af4 I.inc x hx t ht e]; exact h3)]
theorem bo5 {l : List aa0} {R : List Int} {t' : aa0} : t' ∈ cutS l R ↔ ∃ t ∈ l, t.Id ∉ R ∧ hg1 R t = t' := by
 unfold cutS dpL hgL
 simp only [List.mem_filter, List.mem_map, decide_eq_true_eq]
 constructor
 ·rintro ⟨⟨t, h1, rfl⟩, h2⟩; exact ⟨t, h1, by rw [← (ah8 R t).1]; exact h2, rfl⟩
 ·rintro ⟨t, h1, h2, rfl⟩; exact ⟨⟨t, h1, rfl⟩, by rw [(ah8 R t).1]; exact h2⟩
theorem bP1 (l : List aa0) (R : List Int) : (cutS l R).length ≤ l.length := by
 unfold cutS dpL hgL
 exact Nat.le_trans (List.length_filter_le _ _) (by rw [List.length_map]; exact Nat.le_refl _)
theorem aU8 (l : List aa0) (id : Int) (f : aa0 → aa0) : (upT l id f).length = l.length := by unfold upT; rw [List.length_map]
def ct6 (l : List aa0) (t : aa0) : List aa0 := dpL (hangS l t) [t.Id]
theorem ck7 {n : aa1} (I : Inv n.Talks) {t : aa0} (ht : t ∈ n.Talks) (hw : ca7 n.Talks t) (hself : t.State = 2 → t.Id ∉ t.Backlog) : av1 n t.Id = some (aa1.mk n.Db n.Next (ct6 n.Talks t)) := by
 obtain ⟨i, i1, i2, i3, i4⟩ := ah7 (ba4 I.inc ht)
 unfold av1
 rw [aD7 I.len, Option.bind_some, i2, if_neg (by simp), bV1 I ht hw, Option.bind_some]
 have key : (hangS n.Talks t).length ≤ 100000 ∧ (hangS n.Talks t).Pairwise (fun a b => a.Id < b.Id) ∧ ∃ t' ∈ hangS n.Talks t, t'.Id = t.Id := by
  unfold hangS
  by_cases h2 : t.State = 2
  ·rw [if_pos h2]
   have J : Inv (upT n.Talks t.Id clT) := I.clear (fun x hx q => by rw [af4 I.inc x hx t ht q]; exact h2)
   refine ⟨(J.cut _).len, (J.cut _).inc, hg1 t.Backlog (clT t), bo5.2 ⟨clT t, ?_, hself h2, rfl⟩, (ah8 _ _).1⟩
   exact List.mem_map.2 ⟨t, ht, if_pos rfl⟩
  ·rw [if_neg h2]
   exact ⟨by unfold hgL; rw [List.length_map]; exact I.len, aY6 (fun t => (ah8 _ t).1) I.inc, _, List.mem_map_of_mem ht, (ah8 _ t).1⟩
 obtain ⟨k1, k2, t', k3, k4⟩ := key
 have := bG5 (n := n) k1 k2 k3
 rw [k4] at this
 exact this
theorem aG3 {n : aa1} (hl : n.Talks.length ≤ 100000) {i : Nat} (hi : i < n.Talks.length) (t : aa0) : ah3 n (i : Int) t = some (aa1.mk n.Db n.Next (n.Talks.set i t)) := by
 unfold ah3
 rw [ac2 (by simp; omega) (by simp; omega), Option.bind_some, List.nil_append, aa6 hi, Option.bind_some, Int.toNat_natCast]
theorem bu6 {n : aa1} (hl : n.Talks.length ≤ 100000) (id : Int) : aw7 n id = some (aa1.mk n.Db n.Next (dpL n.Talks [id])) := by
 unfold aw7
 refine (ac5 n.Talks.length (fun (_ : Unit) i => (i, dpL (n.Talks.take i.toNat) [id])) _ (fun _ _ => aa1.mk n.Db n.Next (dpL n.Talks [id])) (fun _ _ => True) (s0 := ()) trivial ?_ ?_)
 ·intro _ i hi _
  left
  refine ⟨(), ?_, rfl, trivial⟩
  have hlen : (dpL (n.Talks.take i) [id]).length ≤ i := by
   unfold dpL
   exact Nat.le_trans (List.length_filter_le _ _) (by simp; omega)
  have e : dpL (n.Talks.take (i + 1)) [id] = dpL (n.Talks.take i) [id] ++ (if n.Talks[i].Id = id then [] else [n.Talks[i]]) := by
   unfold dpL
   rw [List.take_succ_eq_append_getElem hi, List.filter_append]
   congr 1
   by_cases q : n.Talks[i].Id = id
   ·rw [if_pos q]; simp [q]
   ·rw [if_neg q]; simp [q]
  have e1 : Int.toNat ((i : Int) + 1) = i + 1 := by omega
  simp only [az0, dlt hi, if_true, aa6 hi, Option.bind_some, Int.toNat_natCast, e1, e]
  by_cases q : n.Talks[i].Id = id
  ·simp only [q, decide_true, Bool.not_true, Bool.false_eq_true, if_false, if_true, List.append_nil]
   rw [aa8 (by omega)]
  ·simp only [q, decide_false, Bool.not_false, if_true, if_false]
   rw [ac2 (by simp; omega) (by simp; omega), Option.bind_some, aa8 (by omega)]
 ·intro _ _
  simp [az0]
theorem bV2 {n : aa1} (I : Inv n.Talks) {i : Nat} {t : aa0} (hi : n.Talks[i]? = some t) : aL0 n (i : Int) = some (aa1.mk n.Db n.Next (hgL n.Talks [t.Id])) := by
 have ht : t ∈ n.Talks := List.mem_of_getElem? hi
 have hlt : i < n.Talks.length := (List.getElem?_eq_some_iff.1 hi).1
 unfold aL0
 rw [ae3 hi, Option.bind_some]
 by_cases h3 : t.State = 3
 ·rw [if_neg (by simp [h3])]
  obtain ⟨p, hp, e1, e2, e3, e4⟩ := I.pe t ht h3
  have hf : fdT n.Talks t.Peer = some p := by rw [← e1]; exact ba4 I.inc hp
  obtain ⟨k, k1, k2, k3, k4⟩ := ah7 hf
  rw [bd8 I.len, Option.bind_some, k2, aG3 I.len hlt, Option.bind_some, if_neg (by simp)]
  have e : List.set n.Talks i (aa0.mk t.Id t.Host t.Owner 4 t.Local t.Remote 0 t.Data t.Backlog t.Opens) = upT n.Talks t.Id hgT := as1 (f := hgT) I.inc hi
  rw [e]
  have hk : (upT n.Talks t.Id hgT)[k]? = some p := by rw [ca4 k3, if_neg (by omega)]
  show ((aa9 (upT n.Talks t.Id hgT) (k : Int)).bind fun x6 => (ah3 (aa1.mk n.Db n.Next (upT n.Talks t.Id hgT)) (k : Int) (aa0.mk x6.Id x6.Host x6.Owner 4 x6.Local x6.Remote 0 x6.Data x6.Backlog x6.Opens)).bind fun x7 => some x7) = _
  rw [ae3 hk, Option.bind_some, aG3 (n := aa1.mk n.Db n.Next (upT n.Talks t.Id hgT)) (by show (upT n.Talks t.Id hgT).length ≤ _; rw [aU8]; exact I.len) (by show k < (upT n.Talks t.Id hgT).length; rw [aU8]; exact k1), Option.bind_some]
  have e' : List.set (upT n.Talks t.Id hgT) k (aa0.mk p.Id p.Host p.Owner 4 p.Local p.Remote 0 p.Data p.Backlog p.Opens) = upT (upT n.Talks t.Id hgT) p.Id hgT := as1 (f := hgT) (bg1 (f := hgT) (fun _ => rfl) I.inc) hk
  show some (aa1.mk n.Db n.Next (List.set (upT n.Talks t.Id hgT) k _)) = _
  rw [e', ← ca5 I ht hp h3 e1 e2 e3 e4]
  congr 2
  unfold upT
  rw [List.map_map, List.map_map]
  apply List.map_congr_left
  intro x hx
  show (if (if x.Id = t.Id then hgT x else x).Id = p.Id then hgT (if x.Id = t.Id then hgT x else x) else (if x.Id = t.Id then hgT x else x)) = (if (if x.Id = p.Id then hgT x else x).Id = t.Id then hgT (if x.Id = p.Id then hgT x else x) else (if x.Id = p.Id then hgT x else x))
  have hid : ∀ x : aa0, (hgT x).Id = x.Id := fun _ => rfl
  by_cases q1 : x.Id = t.Id <;> by_cases q2 : x.Id = p.Id
  ·omega
  ·simp [q1, hid, show ¬ t.Id = p.Id by omega]
  ·simp [q2, hid, show ¬ p.Id = t.Id by omega]
  ·simp [q1, q2]
 ·rw [if_pos (by simp [h3]), ba5 I (fun x hx e => by rw [af4 I.inc x hx t ht e]; exact h3)]
theorem bi9 (R : List Int) (t : aa0) (r : List aa0) : cutS (t :: r) R = if t.Id ∉ R then hg1 R t :: cutS r R else cutS r R := by
 unfold cutS dpL hgL
 rw [List.map_cons, List.filter_cons]
 simp only [(ah8 R t).1, decide_eq_true_eq]
theorem ca8 {f : aa0 → aa0} (hf : ∀ t, (f t).Id = t.Id) {id : Int} {R : List Int} (h : id ∈ R) (l : List aa0) : cutS (upT l id f) R = cutS l R := by
 induction l with
 | nil => rfl
 | cons t r ih =>
  show cutS ((if t.Id = id then f t else t) :: upT r id f) R = _
  rw [bi9, bi9, ih]
  by_cases q : t.Id = id
  ·rw [if_pos q, hf, q, if_neg (by simp [h]), if_neg (by simp [h])]
  ·rw [if_neg q]
theorem bG6 {l : List aa0} {id : Int} {B : List Int} (h2 : ∀ t ∈ l, t.Id = id → t.State = 2) : cutS (upT l id clT) B = upT (cutS l B) id clT := by
 induction l with
 | nil => rfl
 | cons t r ih =>
  have ih := ih fun x hx => h2 x (List.mem_cons_of_mem _ hx)
  have h0 := h2 t (List.mem_cons_self ..)
  show cutS ((if t.Id = id then clT t else t) :: upT r id clT) B = _
  rw [bi9, bi9, ih]
  have e1 : (if t.Id = id then clT t else t).Id = t.Id := by split <;> rfl
  rw [e1]
  by_cases q : t.Id ∈ B
  ·rw [if_neg (by simp [q]), if_neg (by simp [q])]
  ·rw [if_pos q, if_pos q]
   show _ = (if (hg1 B t).Id = id then clT (hg1 B t) else hg1 B t) :: upT (cutS r B) id clT
   rw [(ah8 B t).1]
   congr 1
   by_cases q1 : t.Id = id
   ·have h4 : hg1 B (clT t) = clT t := by unfold hg1; rw [if_neg]; rintro ⟨q, _⟩; exact absurd (show (4 : Int) = 3 from q) (by decide)
    have h5 : hg1 B t = t := by unfold hg1; rw [if_neg]; rintro ⟨q, _⟩; have := h0 q1; omega
    rw [if_pos q1, if_pos q1, h4, h5]
   ·rw [if_neg q1, if_neg q1]
theorem bG7 {n : aa1} (I : Inv n.Talks) {t : aa0} (ht : t ∈ n.Talks) (hw : ca7 n.Talks t) (hself : t.State = 2 → t.Id ∉ t.Backlog) : aF8 n t.Id = some (aa1.mk n.Db n.Next (hangS n.Talks t)) := by
 obtain ⟨i, i1, i2, i3, i4⟩ := ah7 (ba4 I.inc ht)
 unfold aF8 hangS
 rw [bd8 I.len, Option.bind_some, i2, ae3 i3, Option.bind_some]
 by_cases h2 : t.State = 2
 ·rw [if_neg (by simp [h2]), if_pos h2]
  have hu : ∀ x ∈ n.Talks, x.Id = t.Id → x.State = 2 := fun x hx q => by rw [af4 I.inc x hx t ht q]; exact h2
  rw [bG6 hu]
  have hB := I.bl t ht
  have e0 : cutS n.Talks [] = n.Talks := by
   have e1 : hgL n.Talks [] = n.Talks := by
    unfold hgL
    conv => rhs; rw [← List.map_id n.Talks]
    apply List.map_congr_left
    intro t ht
    unfold hg1; simp
   unfold cutS; rw [e1]; unfold dpL; simp
  refine (ac5 t.Backlog.length (fun (_ : Unit) i => (i, aa1.mk n.Db n.Next (cutS n.Talks (t.Backlog.take i.toNat)))) (fun s => as0 t.Id t s.1 s.2) (fun _ _ => aa1.mk n.Db n.Next (upT (cutS n.Talks t.Backlog) t.Id clT)) (fun _ _ => True) (s0 := ()) trivial ?_ ?_ |> (fun h => by rw [← h]; simp [e0]))
  ·intro _ k hk _
   left
   refine ⟨(), ?_, rfl, trivial⟩
   have J : Inv (aa1.mk n.Db n.Next (cutS n.Talks (t.Backlog.take k))).Talks := I.cut _
   have e1 : Int.toNat ((k : Int) + 1) = k + 1 := by omega
   simp only [as0, dlt hk, if_true, aa6 hk, Option.bind_some, Int.toNat_natCast, bd8 J.len, e1]
   rw [List.take_succ_eq_append_getElem hk, ← bP0, aa8 (by omega)]
   cases hf : fdT (cutS n.Talks (t.Backlog.take k)) t.Backlog[k] with
   | none =>
    rw [aE8 hf, if_neg (by decide), bG4 (I.cut _) (bO8 hf)]
   | some u =>
    obtain ⟨j, j1, j2, j3, j4⟩ := ah7 hf
    rw [j2, if_pos (by simp), bV2 J j3, Option.bind_some, bu6 (n := aa1.mk n.Db n.Next (hgL (cutS n.Talks (t.Backlog.take k)) [u.Id])) (by unfold hgL; show (List.map _ _).length ≤ _; rw [List.length_map]; exact J.len), Option.bind_some, ← j4]
    rfl
  ·intro _ _
   have hm : t ∈ cutS n.Talks t.Backlog := by
    refine bo5.2 ⟨t, ht, hself h2, ?_⟩
    unfold hg1; rw [if_neg]; rintro ⟨q, _⟩; omega
   have J : Inv (aa1.mk n.Db n.Next (cutS n.Talks t.Backlog)).Talks := I.cut _
   have hA : az1 t.Id (aa1.mk n.Db n.Next (cutS n.Talks t.Backlog)) = some (aa1.mk n.Db n.Next (upT (cutS n.Talks t.Backlog) t.Id clT)) := by
    obtain ⟨j, j1, j2, j3, j4⟩ := ah7 (ba4 J.inc hm)
    unfold az1
    rw [bd8 J.len, Option.bind_some, j2, if_neg (by simp), ae3 j3, Option.bind_some, aG3 J.len j1, Option.bind_some]
    have := as1 (f := clT) J.inc j3
    show some (aa1.mk n.Db n.Next (List.set (cutS n.Talks t.Backlog) j (clT t))) = _
    rw [this]
   simp [as0, hA]
 ·rw [if_pos (by simp [h2]), if_neg h2, bV2 I i3]; rfl
theorem GoodT.waits {l : List aa0} (G : GoodT l) {t : aa0} (ht : t ∈ l) : ca7 l t := by
 intro _ u hu hm
 obtain ⟨v, hv, e, _, _, q⟩ := G.bc t ht u.Id hm
 rw [af4 G.inc v hv u hu e] at q; omega
theorem GoodT.self {l : List aa0} (G : GoodT l) {t : aa0} (ht : t ∈ l) : t.Id ∉ t.Backlog := by
 intro hm
 have h2 : t.State = 2 := by
  apply Classical.byContradiction
  intro q; rw [G.bst t ht q] at hm; cases hm
 exact G.waits ht h2 t ht hm h2
theorem bV3 {l : List aa0} {R : List Int} {t : aa0} (h : t ∈ hgL l R) (hr : t.Id ∈ R) : t.State ≠ 3 := by
 unfold hgL at h
 obtain ⟨x, hx, rfl⟩ := List.mem_map.1 h
 rw [(ah8 R x).1] at hr
 rcases aL6 R x with ⟨_, s, _⟩ | ⟨q, e⟩
 ·omega
 ·rw [e]; exact fun h3 => q ⟨h3, .inl hr⟩
theorem GoodT.hangS {l : List aa0} (G : GoodT l) {t : aa0} (ht : t ∈ l) : GoodT (hangS l t) := by
 unfold Go.Proofs.YtofpfpkjdigabaaGreatDoor.hangS
 by_cases h2 : t.State = 2
 ·rw [if_pos h2, bG6 (fun x hx q => by rw [af4 G.inc x hx t ht q]; exact h2)]
  have H := G.hang t.Backlog
  have K := ah8 t.Backlog
  refine H.drop t.Backlog t.Id (fun x hx hr => bV3 hx hr) ?_ ?_
  ·intro x' hx' e
   obtain ⟨x, hx, rfl⟩ := List.mem_map.1 hx'
   rw [(K x).1] at e
   have := af4 G.inc x hx t ht e; subst this
   unfold hg1; rw [if_neg (by rintro ⟨q, _⟩; omega)]; exact h2
  ·intro x' hx' c hc
   obtain ⟨x, hx, rfl⟩ := List.mem_map.1 hx'
   rw [(K x).2.2.2.2.2.2.1] at hc
   rw [(K x).1]
   constructor
   ·rintro (q | q)
    ·exfalso
     have s2 := G.waits ht h2 x hx q
     rw [G.bst x hx s2] at hc; cases hc
    ·have := af4 G.inc x hx t ht q; subst this; exact hc
   ·intro q; exact .inr (G.w2 x hx t ht c hc q)
 ·rw [if_neg h2]; exact G.hang _
theorem Inv.up {l : List aa0} (I : Inv l) {id : Int} {f : aa0 → aa0} (hf : ∀ t, (f t).Id = t.Id ∧ (f t).State = t.State ∧ (f t).Backlog = t.Backlog ∧ (f t).Peer = t.Peer) : Inv (upT l id f) := by
 let g : aa0 → aa0 := fun t => if t.Id = id then f t else t
 have K : ∀ t, (g t).Id = t.Id ∧ (g t).State = t.State ∧ (g t).Backlog = t.Backlog ∧ (g t).Peer = t.Peer := by
  intro t
  rcases ax0 id f t with ⟨_, e⟩ | ⟨_, e⟩
  ·rw [show g t = f t from e]; exact hf t
  ·rw [show g t = t from e]; exact ⟨rfl, rfl, rfl, rfl⟩
 show Inv (l.map g)
 refine ⟨aY6 (fun t => (K t).1) I.inc, by rw [List.length_map]; exact I.len, ?_, ?_⟩
 ·intro t' h
  obtain ⟨t, ht, rfl⟩ := List.mem_map.1 h
  rw [(K t).2.2.1]; exact I.bl t ht
 ·intro t' h h3
  obtain ⟨t, ht, rfl⟩ := List.mem_map.1 h
  rw [(K t).2.1] at h3
  obtain ⟨p, hp, e1, e2, e3, e4⟩ := I.pe t ht h3
  exact ⟨g p, List.mem_map_of_mem hp, by rw [(K p).1, (K t).2.2.2]; exact e1, by rw [(K t).2.2.2, (K t).1]; exact e2, by rw [(K p).2.1]; exact e3, by rw [(K p).2.2.2, (K t).1]; exact e4⟩
theorem bV4 {l : List aa0} (G : GoodT l) (I : Inv l) {t : aa0} (ht : t ∈ l) {f : aa0 → aa0} (hf : ∀ t, (f t).Id = t.Id ∧ (f t).State = t.State ∧ (f t).Backlog = t.Backlog ∧ (f t).Peer = t.Peer) : ct6 (upT l t.Id f) (f t) = cutS l (t.Backlog ++ [t.Id]) := by
 obtain ⟨f1, f2, f3, f4⟩ := hf t
 have J : Inv (upT l t.Id f) := I.up hf
 unfold ct6 Go.Proofs.YtofpfpkjdigabaaGreatDoor.hangS
 rw [f1, f2, f3]
 by_cases h2 : t.State = 2
 ·rw [if_pos h2]
  have hu : ∀ x ∈ upT l t.Id f, x.Id = t.Id → x.State = 2 := by
   intro x' hx' e
   obtain ⟨x, hx, rfl⟩ := List.mem_map.1 hx'
   rcases ax0 t.Id f x with ⟨q, e'⟩ | ⟨q, e'⟩ <;> rw [e'] at e ⊢
   ·rw [(hf x).2.1, af4 I.inc x hx t ht q]; exact h2
   ·exact absurd e q
  have J2 : Inv (upT (upT l t.Id f) t.Id clT) := J.clear hu
  have hn : ∀ x ∈ cutS (upT (upT l t.Id f) t.Id clT) t.Backlog, x.Id = t.Id → x.State ≠ 3 := by
   intro x' hx' e
   obtain ⟨x, hx, _, rfl⟩ := bo5.1 hx'
   rw [(ah8 _ x).1] at e
   obtain ⟨y, hy, rfl⟩ := List.mem_map.1 hx
   rcases ax0 t.Id clT y with ⟨q, e'⟩ | ⟨q, e'⟩ <;> rw [e'] at e ⊢
   ·rcases aL6 t.Backlog (clT y) with ⟨_, s, _⟩ | ⟨_, e2⟩
    ·omega
    ·rw [e2]; exact (by decide : (4 : Int) ≠ 3)
   ·exact absurd e q
  have e1 : dpL (cutS (upT (upT l t.Id f) t.Id clT) t.Backlog) [t.Id] = cutS (cutS (upT (upT l t.Id f) t.Id clT) t.Backlog) [t.Id] := by
   show _ = dpL (hgL (cutS (upT (upT l t.Id f) t.Id clT) t.Backlog) [t.Id]) [t.Id]
   rw [ba5 (J2.cut _) hn]
  rw [e1, bP0, ca8 (f := clT) (fun _ => rfl) (by simp), ca8 (f := f) (fun t => (hf t).1) (by simp)]
 ·rw [if_neg h2, G.bst t ht h2, List.nil_append]
  exact ca8 (fun t => (hf t).1) (by simp) l
theorem GoodT.cut {l : List aa0} (G : GoodT l) {t : aa0} (ht : t ∈ l) (ho : t.Opens ≠ 0) : GoodT (cutS l (t.Backlog ++ [t.Id])) := by
 have H := G.hang (t.Backlog ++ [t.Id])
 have K := ah8 (t.Backlog ++ [t.Id])
 have hneg : ∃ id : Int, ∀ x ∈ l, x.Id ≠ id := by
  cases hf : fdT l 0 with
  | none => exact ⟨0, bO8 hf⟩
  | some u =>
   refine ⟨(l.map (·.Id)).foldr max 0 + 1, fun x hx => ?_⟩
   have : ∀ (l : List Int) (x : Int), x ∈ l → x ≤ l.foldr max 0 := by
    intro l
    induction l with
    | nil => intro x h; cases h
    | cons a r ih =>
     intro x h
     rw [List.foldr_cons]
     rcases List.mem_cons.1 h with rfl | h
     ·omega
     ·have := ih x h; omega
   have := this (l.map (·.Id)) x.Id (List.mem_map_of_mem hx)
   omega
 obtain ⟨id, hid⟩ := hneg
 have hid' : ∀ x ∈ hgL l (t.Backlog ++ [t.Id]), x.Id ≠ id := by
  intro x' hx'
  obtain ⟨x, hx, rfl⟩ := List.mem_map.1 hx'
  rw [(K x).1]; exact hid x hx
 have := H.drop (t.Backlog ++ [t.Id]) id (fun x hx hr => bV3 hx hr) (fun x hx e => absurd e (hid' x hx)) ?_
 ·have e : upT (dpL (hgL l (t.Backlog ++ [t.Id])) (t.Backlog ++ [t.Id])) id clT = cutS l (t.Backlog ++ [t.Id]) := by
   show List.map _ (cutS l (t.Backlog ++ [t.Id])) = _
   conv => rhs; rw [← List.map_id (cutS l (t.Backlog ++ [t.Id]))]
   apply List.map_congr_left
   intro x hx
   rw [if_neg (hid' x (List.mem_filter.1 hx).1)]; rfl
  rw [← e]; exact this
 ·intro x' hx' c hc
  obtain ⟨x, hx, rfl⟩ := List.mem_map.1 hx'
  rw [(K x).2.2.2.2.2.2.1] at hc
  rw [(K x).1]
  simp only [List.mem_append, List.mem_singleton]
  constructor
  ·rintro ((q | q) | q)
   ·exfalso
    have h2 : t.State = 2 := by
     apply Classical.byContradiction
     intro h; rw [G.bst t ht h] at q; cases q
    have s2 := G.waits ht h2 x hx q
    rw [G.bst x hx s2] at hc; cases hc
   ·have := af4 G.inc x hx t ht q; subst this; exact .inl hc
   ·exact absurd q (hid x hx)
  ·rintro (q | q)
   ·exact .inl (.inr (G.w2 x hx t ht c hc q))
   ·exfalso
    obtain ⟨u, hu, e, _, h0, _⟩ := G.bc x hx c hc
    rw [af4 G.inc u hu t ht (by omega)] at h0; exact ho h0
theorem Good.mod {n : aa1} (g : Good n) (h : okX n.Db) : Mod n := ⟨h, by have := g.len; omega, fun t ht => by have := g.tk.blen t ht; omega⟩
theorem bu7 {n : aa1} (hl : n.Talks.length ≤ 100000) (host : Str) (id : Int) : aF5 n host id = some (match fdT n.Talks id with
 | none => -1
 | some t => if t.Host = host then ixT n.Talks id else -1) := by
 unfold aF5
 rw [bd8 hl, Option.bind_some]
 cases hf : fdT n.Talks id with
 | none => simp [aE8 hf]
 | some t =>
  obtain ⟨i, i1, i2, i3, i4⟩ := ah7 hf
  have h0 : decide ((i : Int) < 0) = false := by simp
  rw [i2]
  simp only [h0, Bool.false_eq_true, if_false, ae3 i3, Option.bind_some]
  by_cases hh : t.Host = host <;> simp [hh]
structure TFile (n : aa1) (host : Str) (id : Int) (t : aa0) (i : Nat) (k : Int) : Prop where
 at_ : n.Talks[i]? = some t
 host : t.Host = host
 k0 : 0 ≤ k
 k6 : k ≤ 6
 id : id = 16 * t.Id + k
 id1 : 1 ≤ t.Id
 id2 : t.Id ≤ 1048575
theorem co6 {a k : Int} (ha : 1 ≤ a) (h0 : 0 ≤ k) (h6 : k ≤ 6) : Int.tdiv (16 * a + k) 16 = a ∧ Int.tmod (16 * a + k) 16 = k := by
 rw [Int.tdiv_eq_ediv_of_nonneg (by omega), Int.tmod_eq_emod_of_nonneg (by omega)]
 omega
theorem a17 {n : aa1} (g : Good n) (host : Str) {id : Int} (w : -9223372036854775808 ≤ id ∧ id ≤ 9223372036854775807) :
  (id = 1 ∧ ab7 n host id = some (aa5.mk 1 (-1) 0, true) ∧ ab8 n host id = some true) ∨
  (id = 3 ∧ ab7 n host id = some (aa5.mk 3 (-1) 0, true) ∧ ab8 n host id = some true) ∨
  (∃ t i k, TFile n host id t i k ∧ ab7 n host id = some (aa5.mk id (i : Int) k, true) ∧ ab8 n host id = some true) ∨
  ((∃ f, ab7 n host id = some (f, false)) ∧ ab8 n host id = some false) := by
 have hl : n.Talks.length ≤ 100000 := by have := g.len; omega
 by_cases h1 : id = 1
 ·subst h1; exact .inl ⟨rfl, rfl, rfl⟩
 by_cases h3 : id = 3
 ·subst h3; exact .inr (.inl ⟨rfl, rfl, rfl⟩)
 right; right
 have c1 : decide (id = 1) = false := decide_eq_false h1
 have c3 : decide (id = 3) = false := decide_eq_false h3
 by_cases h16 : 16 ≤ id ∧ Int.tmod id 16 ≤ 6
 ·obtain ⟨q1, q2⟩ := h16
  have d : IntKind.wrap .i64 (Int.tdiv id 16) = id / 16 := by
   rw [Int.tdiv_eq_ediv_of_nonneg (by omega)]
   exact ag4 (by omega) (by omega)
  have m : Int.tmod id 16 = id % 16 := Int.tmod_eq_emod_of_nonneg (by omega)
  have e1 : decide (id < 16) = false := by simp; omega
  have e2 : decide (6 < Int.tmod id 16) = false := by simp; omega
  have e3 : decide (16 ≤ id) = true := by simp; omega
  have e4 : decide (Int.tmod id 16 ≤ 6) = true := by simp; omega
  unfold ab7 ab8
  simp only [c1, c3, e1, e2, e3, e4, Bool.or_self, Bool.false_eq_true, if_false, if_true, d, aD7 hl, bu7 hl, Option.bind_some]
  cases hf : fdT n.Talks (id / 16) with
  | none => right; simp [aE8 hf]
  | some t =>
   obtain ⟨i, i1, i2, i3, i4⟩ := ah7 hf
   have h0 : decide ((0 : Int) ≤ (i : Int)) = true := by simp
   rw [i2]
   simp only [h0, if_true, ae3 i3, Option.bind_some]
   by_cases hh : t.Host = host
   ·left
    obtain ⟨r1, r2⟩ := g.idr t (a43 hf).1
    have := g.n9
    refine ⟨t, i, id % 16, ⟨i3, hh, by omega, by omega, by omega, r1, by omega⟩, ?_, ?_⟩
    ·simp [hh, m]
    ·simp [hh]
   ·right; simp [hh]
 ·right
  have e : (decide (id < 16) || decide (6 < Int.tmod id 16)) = true := by
   simp only [Bool.or_eq_true, decide_eq_true_eq]; omega
  unfold ab7 ab8
  simp only [c1, c3, e, Bool.or_self, Bool.false_eq_true, if_false, if_true]
  refine ⟨⟨_, rfl⟩, ?_⟩
  by_cases q : 16 ≤ id
  ·have : ¬ Int.tmod id 16 ≤ 6 := fun h => h16 ⟨q, h⟩
   simp [q, this]
  ·simp [q]
def gr (a g : Int) : Bool := !decide ((IntKind.wrap .i64 ((BitVec.ofInt (IntKind.bits .i64) a &&& ~~~ (BitVec.ofInt (IntKind.bits .i64) g)).toNat : Nat)) = 0)
def gr2 (a g : Int) : Bool := (decide ((Int.tmod (IntKind.wrap .i64 (Int.tdiv g 4)) 2) < (Int.tmod (IntKind.wrap .i64 (Int.tdiv a 4)) 2))) || ((decide ((Int.tmod (IntKind.wrap .i64 (Int.tdiv g 2)) 2) < (Int.tmod (IntKind.wrap .i64 (Int.tdiv a 2)) 2))) || (decide ((Int.tmod g 2) < (Int.tmod a 2))))
noncomputable def openC (m : Int) (x1 : Int × Bool × Bool) : Option (Int × Int) :=
 if ((!x1.2.2) || (!decide (m = (Int.tmod m 1000)))) then some (0, 12) else if (decide (x1.1 = 1)) then aB8 x1 2 else aB8 x1 4
noncomputable def chkM (m : Int) : Bool :=
 match aF2 m, aW5 (fun s => aI2 (Int.tmod m 1000) s) 6 0 with
 | some a, some x1 => match openC m x1 with
  | some b => decide (a.2 = b.2) && (!decide (a.2 = 0) || [5, 6, 0, 4].all fun g => gr a.1 g == gr2 b.1 g)
  | none => false
 | _, _ => false
theorem ct7 : (List.range 91).all (fun k => chkM ((k : Int) - 1)) = true := by decide +kernel
theorem ca9 {m : Int} (h0 : -1 ≤ m) (h1 : m < 90) : ∃ a b e, aF2 m = some (a, e) ∧ aD4 m = some (b, e) ∧ (e = 0 → ∀ g ∈ ([5, 6, 0, 4] : List Int), gr a g = gr2 b g) := by
 have h := List.all_eq_true.1 ct7 (m + 1).toNat (List.mem_range.2 (by omega))
 rw [show (((m + 1).toNat : Nat) : Int) - 1 = m by omega] at h
 unfold chkM at h
 split at h
 ·rename_i a x1 ha hx
  split at h
  ·rename_i b hb
   simp only [Bool.and_eq_true, decide_eq_true_eq] at h
   obtain ⟨h2, h3⟩ := h
   refine ⟨a.1, b.1, a.2, ha, ?_, fun he g hg => ?_⟩
   ·have hB : a12 (Int.tmod m 1000) = some x1 := aI4.2 ⟨6, hx⟩
    unfold aD4
    rw [hB, Option.bind_some, h2]
    exact hb
   ·rw [he] at h3
    simp only [decide_true, Bool.not_true, Bool.false_or, List.all_eq_true, beq_iff_eq] at h3
    exact h3 g hg
  ·cases h
 ·cases h
noncomputable def chkB (x : Int) : Bool := match aW5 (fun s => aI2 x s) 6 0 with
 | some r => (decide (0 ≤ x) && decide (x < 90)) || !r.2.2
 | none => false
theorem ck8 : (List.range 1999).all (fun k => chkB ((k : Int) - 999)) = true := by decide +kernel
theorem cb0 {x : Int} (h0 : -999 ≤ x) (h1 : x ≤ 999) : ∃ r, a12 x = some r ∧ ((0 ≤ x ∧ x < 90) ∨ r.2.2 = false) := by
 have h := List.all_eq_true.1 ck8 (x + 999).toNat (List.mem_range.2 (by omega))
 rw [show (((x + 999).toNat : Nat) : Int) - 999 = x by omega] at h
 unfold chkB at h
 split at h
 ·rename_i r hr
  refine ⟨r, aI4.2 ⟨6, hr⟩, ?_⟩
  simpa using h
 ·cases h
theorem cb1 {m b : Int} (hb : b = 16 ∨ b = 64) (w : -9223372036854775808 ≤ m ∧ m ≤ 9223372036854775807) : a00 m b = some (decide (0 ≤ m) && decide (m / b % 2 = 1)) := by
 unfold a00
 by_cases h : 0 ≤ m
 ·have hne : b ≠ 0 := by omega
  have e : IntKind.wrap .i64 (Int.tdiv m b) = m / b := by
   rw [Int.tdiv_eq_ediv_of_nonneg h]
   refine ag4 ?_ ?_ <;> rcases hb with rfl | rfl <;> omega
  have e2 : Int.tmod (m / b) 2 = m / b % 2 := Int.tmod_eq_emod_of_nonneg (by rcases hb with rfl | rfl <;> omega)
  simp only [h, decide_true, if_true, ce5, if_neg hne, e, Option.bind_some, e2, Bool.true_and]
 ·simp [h]
theorem ck9 {m : Int} (w : -9223372036854775808 ≤ m ∧ m ≤ 9223372036854775807) (h : ¬ (-1 ≤ m ∧ m < 90)) : aF2 m = some (0, 12) ∧ aD4 m = some (0, 12) := by
 constructor
 ·have k3 : ∀ p : Int, (p < 0 ∨ 3 < p) → aF1 m p = some (0, 12) := by
   intro p hp
   unfold aF1
   rw [if_pos (by simpa using hp)]
  unfold aF2 aM1
  simp only [cb1 (.inl rfl) w, cb1 (.inr rfl) w, Option.bind_some]
  by_cases h0 : 0 ≤ m
  ·simp only [h0, decide_true, Bool.true_and]
   rw [ag4 (n := m - 16) (by omega) (by omega), ag4 (n := m - 64) (by omega) (by omega), ag4 (n := m - 16 - 64) (by omega) (by omega)]
   split <;> split <;> apply k3 <;> omega
  ·simp only [h0, decide_false, Bool.false_and, Bool.false_eq_true, if_false]
   exact k3 m (.inl (by omega))
 ·have ht : -999 ≤ Int.tmod m 1000 ∧ Int.tmod m 1000 ≤ 999 := by
   rcases Int.le_total 0 m with q | q
   ·rw [Int.tmod_eq_emod_of_nonneg q]; omega
   ·have : Int.tmod m 1000 = -((-m) % 1000) := by
     rw [← Int.tmod_eq_emod_of_nonneg (by omega), Int.neg_tmod, Int.neg_neg]
    omega
  obtain ⟨r, hr, hc⟩ := cb0 ht.1 ht.2
  unfold aD4
  rw [hr, Option.bind_some, if_pos]
  rw [Bool.or_eq_true]
  rcases hc with hc | hc
  ·right
   have : m ≠ Int.tmod m 1000 := fun e => by omega
   simp [this]
  ·left; simp [hc]
theorem bV5 {m : Int} (w : -9223372036854775808 ≤ m ∧ m ≤ 9223372036854775807) : ∃ a b e, aF2 m = some (a, e) ∧ aD4 m = some (b, e) ∧ (e = 0 → ∀ g ∈ ([5, 6, 0, 4] : List Int), gr a g = gr2 b g) := by
 by_cases h : -1 ≤ m ∧ m < 90
 ·exact ca9 h.1 h.2
 ·obtain ⟨h1, h2⟩ := ck9 w h
  exact ⟨0, 0, 12, h1, h2, fun e => absurd e (by decide)⟩
def bG8 (k : Int) : Int := if k = 0 then 2147484013 else if k ≤ 3 then 384 else 292
variable {n : aa1} {host : Str} {id k : Int} {t : aa0} {i : Nat}
theorem TFile.big (F : TFile n host id t i k) : 16 ≤ id ∧ id ≤ 16777206 := by
 have := F.id; have := F.id1; have := F.id2; have := F.k0; have := F.k6; omega
theorem TFile.tdiv (F : TFile n host id t i k) : IntKind.wrap .i64 (Int.tdiv id 16) = t.Id := by
 have h := (co6 F.id1 F.k0 F.k6).1
 rw [F.id, h]
 exact ag4 (by have := F.id1; omega) (by have := F.id2; omega)
theorem TFile.tmod (F : TFile n host id t i k) : Int.tmod id 16 = k := by
 rw [F.id]; exact (co6 F.id1 F.k0 F.k6).2
theorem TFile.isDir (F : TFile n host id t i k) : ab5 (aa5.mk id (i : Int) k) = some (decide (k = 0)) := by
 unfold ab5
 have h1 : ¬ id = 1 := by have := F.big; omega
 simp [h1]
theorem TFile.dir (F : TFile n host id t i k) : ab4 id = some (decide (k = 0)) := by
 unfold ab4
 have h := F.big
 have h1 : ¬ id = 1 := by omega
 rw [F.tmod]
 simp [h1, h.1]
theorem TFile.mode (F : TFile n host id t i k) : ak7 (aa5.mk id (i : Int) k) = some (bG8 k) := by
 have h := F.big
 have h3 : ¬ id = 3 := by omega
 unfold ak7 bG8
 rw [F.isDir, Option.bind_some]
 by_cases h0 : k = 0
 ·simp [h0]
 ·by_cases h4 : k ≤ 3 <;> simp [h0, h3, h4]
theorem TFile.rmode (F : TFile n host id t i k) : aD5 id = some (bG8 k) := by
 have h := F.big
 have h3 : ¬ id = 3 := by omega
 unfold aD5 bG8
 rw [F.dir, Option.bind_some, F.tmod]
 by_cases h0 : k = 0
 ·simp [h0]
 ·by_cases h4 : k ≤ 3 <;> simp [h0, h3, h4]
theorem TFile.fd (g : Good n) (F : TFile n host id t i k) : fdT n.Talks t.Id = some t := ba4 g.tk.inc (List.mem_of_getElem? F.at_)
theorem TFile.ix (g : Good n) (F : TFile n host id t i k) : ixT n.Talks t.Id = (i : Int) := by
 obtain ⟨j, j1, j2, j3, j4⟩ := ah7 (F.fd g)
 rw [j2]
 have hi : i < n.Talks.length := (List.getElem?_eq_some_iff.1 F.at_).1
 by_cases e : i = j
 ·rw [e]
 ·exfalso
  have p := List.pairwise_iff_getElem.1 g.tk.inc
  have a1 := (List.getElem?_eq_some_iff.1 F.at_).2
  have a2 := (List.getElem?_eq_some_iff.1 j3).2
  rcases Nat.lt_or_gt_of_ne e with h | h
  ·have := p i j hi j1 h; rw [a1, a2] at this; omega
  ·have := p j i j1 hi h; rw [a1, a2] at this; omega
def cB7 (k : Int) : Str := if k = 1 then [99, 116, 108] else if k = 2 then [100, 97, 116, 97] else if k = 3 then [108, 105, 115, 116, 101, 110] else if k = 4 then [115, 116, 97, 116, 117, 115] else if k = 5 then [108, 111, 99, 97, 108] else [114, 101, 109, 111, 116, 101]
def ct8 (id k : Int) : Str := if k = 0 then Go.Lib.itoa id else cB7 k
theorem ct9 {x : Str} {k : Int} (h0 : 0 ≤ k) (h6 : k ≤ 6) : aa9 [x, [99, 116, 108], [100, 97, 116, 97], [108, 105, 115, 116, 101, 110], [115, 116, 97, 116, 117, 115], [108, 111, 99, 97, 108], [114, 101, 109, 111, 116, 101]] k = some (if k = 0 then x else cB7 k) := by
 rcases (by omega : k = 0 ∨ k = 1 ∨ k = 2 ∨ k = 3 ∨ k = 4 ∨ k = 5 ∨ k = 6) with rfl | rfl | rfl | rfl | rfl | rfl | rfl <;> rfl
theorem TFile.name (F : TFile n host id t i k) (j : Int) : at9 (aa5.mk id j k) = some (ct8 t.Id k) := by
 have h := F.big
 have h1 : ¬ id = 1 := by omega
 have h3 : ¬ id = 3 := by omega
 unfold at9 ct8
 simp only [h1, h3, decide_false, Bool.false_eq_true, if_false, F.tdiv]
 rw [a65 (by have := F.id1; omega) (by have := F.id2; omega), Option.bind_some, ct9 F.k0 F.k6, Option.bind_some]
def dirT (id k : Int) (t : aa0) : ab3 := ab3.mk 7 0 (aJ4.mk (if k = 0 then 128 else 0) 0 id) (bG8 k) 0 0 0 (ct8 t.Id k) t.Owner t.Owner []
def dirR : ab3 := ab3.mk 7 0 (aJ4.mk 128 0 1) 2147484013 0 0 0 [47] [] [] []
def dirC : ab3 := ab3.mk 7 0 (aJ4.mk 0 0 3) 438 0 0 0 [99, 108, 111, 110, 101] [] [] []
theorem b04 : aq5 n (aa5.mk 1 (-1) 0) = some dirR := rfl
theorem bP2 (j : Int) : aq5 n (aa5.mk 3 (-1) 0) = some dirC := rfl
theorem TFile.dirOf (F : TFile n host id t i k) : aq5 n (aa5.mk id (i : Int) k) = some (dirT id k t) := by
 unfold aq5 dirT
 rw [F.mode, F.name, F.isDir]
 have h0 : decide ((0 : Int) ≤ (i : Int)) = true := by simp
 simp only [Option.bind_some, aE1, h0, if_true, ae3 F.at_]
 by_cases h : k = 0 <;> simp [h]
theorem cb2 {α ρ : Type} (l : List α) (pr : α → Bool) (f : α → ρ) (bad : ρ) (body : Int → Option (Step Int ρ)) (hb : ∀ (i : Nat) (h : i < l.length), body i = some (if pr l[i] = true then .done (f l[i]) else .cont ((i : Int) + 1)))
  (he : body l.length = some (.done bad)) : ab0 body 0 = some (((l.find? pr).map f).getD bad) := by
 have := ac5 (σ := Unit) l.length (fun _ i => i) body (fun i _ => (((l.drop i).find? pr).map f).getD bad) (fun _ _ => True) (s0 := ()) trivial (fun s i hi _ => by
  have h := hb i hi
  cases hp : pr l[i] with
  | true => right; rw [h, hp, List.drop_eq_getElem_cons hi, List.find?_cons, hp]; rfl
  | false => left; exact ⟨(), by rw [h, hp]; rfl, by rw [List.drop_eq_getElem_cons hi, List.find?_cons, hp], trivial⟩) (fun s _ => by rw [he, List.drop_length]; rfl)
 simpa using this
theorem Good.hl (g : Good n) : n.Talks.length ≤ 100000 := by have := g.len; omega
theorem TFile.ex (g : Good n) (F : TFile n host id t i k) : ab8 n host id = some true := by
 have h := F.big
 have h1 : ¬ id = 1 := by omega
 have h3 : ¬ id = 3 := by omega
 have h6 : decide (k ≤ 6) = true := decide_eq_true F.k6
 have h16 : decide (16 ≤ id) = true := decide_eq_true h.1
 unfold ab8
 simp only [h1, h3, decide_false, Bool.or_self, Bool.false_eq_true, if_false, h16, F.tmod, h6, if_true, F.tdiv, bu7 g.hl, F.fd g, F.host, F.ix g, Option.bind_some]
 simp
theorem TFile.look (g : Good n) (F : TFile n host id t i k) : ab7 n host id = some (aa5.mk id (i : Int) k, true) := by
 have h := F.big
 have h1 : ¬ id = 1 := by omega
 have h3 : ¬ id = 3 := by omega
 have h6 : decide (6 < k) = false := by have := F.k6; simp; omega
 have h16 : decide (id < 16) = false := by simp; omega
 unfold ab7
 simp only [h1, h3, decide_false, Bool.or_self, Bool.false_eq_true, if_false, h16, F.tmod, h6, F.tdiv, aD7 g.hl, F.ix g, Option.bind_some, ae3 F.at_, F.host]
 simp
theorem TFile.of (g : Good n) {t : aa0} {i : Nat} (h : n.Talks[i]? = some t) {k : Int} (h0 : 0 ≤ k) (h6 : k ≤ 6) : TFile n t.Host (16 * t.Id + k) t i k := by
 obtain ⟨r1, r2⟩ := g.idr t (List.mem_of_getElem? h)
 have := g.n9
 exact ⟨h, rfl, h0, h6, rfl, r1, by omega⟩
end Go.Proofs.YtofpfpkjdigabaaGreatDoor
