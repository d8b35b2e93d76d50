import Derived.Test.YtpnaccnofbkhiaaGreatDoorPA
namespace Go.Proofs.YtpnaccnofbkhiaaGreatDoor
open Go.Vm
set_option autoImplicit false
set_option linter.unusedVariables false
set_option linter.unusedSimpArgs false
set_option maxRecDepth 100000
theorem bR4 {α : Type} {p : α → Bool} {l : List α} (h : l.find? p = none) : aO2 p l = -1 := by
 have h1 := (bz1 p l)
 have h2 := bs5 p l
 by_cases h3 : 0 ≤ aO2 p l
 ·obtain ⟨x, hx, hp⟩ := List.any_eq_true.1 (h1.1 h3)
  have := List.find?_eq_none.1 h x hx
  exact absurd hp this
 ·omega
theorem bt9 {α : Type} {p : α → Bool} : ∀ {l : List α} {x : α}, l.find? p = some x → ∃ i : Nat, i < l.length ∧ aO2 p l = (i : Int) ∧ l[i]? = some x ∧ p x = true
 | a :: r, x, h => by
  by_cases hp : p a = true
  ·rw [List.find?_cons_of_pos hp] at h
   obtain rfl := Option.some.inj h
   exact ⟨0, by simp, by rw [bf4 hp]; rfl, rfl, hp⟩
  ·rw [List.find?_cons_of_neg hp] at h
   obtain ⟨i, h1, h2, h3, h4⟩ := bt9 h
   refine ⟨i + 1, by simp; omega, ?_, by simpa using h3, h4⟩
   rw [aQ6 hp, h2, if_neg (by omega)]; omega
theorem ak1 {α : Type} {l : List α} {i : Nat} {x : α} (h : l[i]? = some x) : ad5 l (i : Int) = some x := by
 obtain ⟨hi, rfl⟩ := List.getElem?_eq_some_iff.1 h
 exact ac1 hi
def isT (id : Int) (t : aa0) : Bool := decide (t.Id = id)
def ixT (l : List aa0) (id : Int) : Int := aO2 (isT id) l
def fdT (l : List aa0) (id : Int) : Option aa0 := l.find? (isT id)
theorem aQ9 {l : List aa0} {id : Int} (h : fdT l id = none) : ixT l id = -1 := bR4 h
theorem as8 {l : List aa0} {id : Int} {t : aa0} (h : fdT l id = some t) : ∃ i : Nat, i < l.length ∧ ixT l id = (i : Int) ∧ l[i]? = some t ∧ t.Id = id := by
 obtain ⟨i, h1, h2, h3, h4⟩ := bt9 h
 exact ⟨i, h1, h2, h3, of_decide_eq_true h4⟩
structure Mod (n : aa1) : Prop where
 db : okX n.Db
 len : n.Talks.length ≤ 100000
 bl : ∀ t ∈ n.Talks, t.Backlog.length ≤ 100000
theorem aG6 {n : aa1} (h : n.Talks.length ≤ 100000) (id : Int) : af6 n id = some (ixT n.Talks id) := by
 unfold af6
 rw [a35]
 unfold ae2
 refine aG5 (by omega) ?_ ?_
 ·intro i hi
  simp only [ab6, dlt hi, if_true, ac1 hi, Option.bind_some, aI7]
  rfl
 ·simp [ab6]
theorem ch2 {n : aa1} (h : n.Talks.length ≤ 100000) (id : Int) : aQ3 n id = some (ixT n.Talks id) := by
 unfold aQ3
 refine aG5 (by omega) ?_ ?_
 ·intro i hi
  simp only [aG1, dlt hi, if_true, ac1 hi, Option.bind_some]
  rfl
 ·simp [aG1]
theorem bR5 {α : Type} {p : α → Bool} {l : List α} {body : Int → Option (Step Int Bool)} (hl : l.length ≤ 1000000)
  (hb : ∀ i (h : i < l.length), body (i : Int) = if p l[i] then some (.done true) else some (.cont (IntKind.wrap .i64 ((i : Int) + 1)))) (he : body (l.length : Int) = some (.done false)) : ae5 body 0 = some (l.any p) := by
 refine (af8 l.length (fun (_ : Unit) i => i) body (fun i _ => (l.drop i).any p) (fun _ _ => True) (s0 := ()) trivial ?_ ?_).trans (by simp)
 ·intro _ i hi _
  rw [hb i hi, List.drop_eq_getElem_cons hi, List.any_cons]
  by_cases hp : p l[i] = true
  ·right; rw [if_pos hp, hp]; rfl
  ·left
   refine ⟨(), ?_, ?_, trivial⟩
   ·rw [if_neg hp, ad2 (by omega)]
   ·rw [Bool.not_eq_true] at hp; rw [hp]; rfl
 ·intro _ _; rw [he]; simp
theorem ch3 {l : List Int} {v : Int} (h : l.length ≤ 1000000) : aQ2 l v = some (l.contains v) := by
 unfold aQ2
 have := bR5 (p := fun y => decide (y = v)) (l := l) (body := fun s => az7 l v s) h ?_ ?_
 ·rw [this]
  congr 1
  rw [Bool.eq_iff_iff, List.any_eq_true, List.contains_iff_mem]
  constructor
  ·rintro ⟨x, hx, he⟩
   rw [← of_decide_eq_true he]; exact hx
  ·exact fun hx => ⟨v, hx, by simp⟩
 ·intro i hi
  simp only [az7, dlt hi, if_true, ac1 hi, Option.bind_some]
 ·simp [az7]
def bI7 (l : List aa0) (id : Int) : Nat := l.countP fun t => t.Backlog.contains id
theorem ca8 {l : List aa0} {id : Int} {body : Int × Int → Option (Step (Int × Int) Int)} (hl : l.length ≤ 100000)
  (hb : ∀ (k : Nat) i (h : i < l.length), k ≤ i → body ((k : Int), (i : Int)) = if l[i].Backlog.contains id then some (.cont (IntKind.wrap .i64 ((k : Int) + 1), IntKind.wrap .i64 ((i : Int) + 1))) else some (.cont ((k : Int), IntKind.wrap .i64 ((i : Int) + 1))))
  (he : ∀ k : Int, body (k, (l.length : Int)) = some (.done k)) : ae5 body (0, 0) = some (bI7 l id : Int) := by
 refine (af8 l.length (fun (k : Nat) i => ((k : Int), i)) body (fun i k => ((k + bI7 (l.drop i) id : Nat) : Int)) (fun i k => k ≤ i) (s0 := 0) (Nat.le_refl _) ?_ ?_).trans (by simp)
 ·intro k i hi hk
  left
  rw [hb k i hi hk, List.drop_eq_getElem_cons hi]
  by_cases hp : l[i].Backlog.contains id = true
  ·refine ⟨k + 1, ?_, ?_, by omega⟩
   ·rw [if_pos hp, ad2 (by omega), ad2 (by omega)]; rfl
   ·unfold bI7; simp only [List.countP_cons, hp, if_true]; congr 1; omega
  ·refine ⟨k, ?_, ?_, by omega⟩
   ·rw [if_neg hp, ad2 (by omega)]
   ·unfold bI7; simp only [List.countP_cons, hp, if_false, Nat.add_zero, Bool.false_eq_true]
 ·intro k hk
  rw [he]; simp [bI7]
theorem b10 {n : aa1} (h : Mod n) (id : Int) : aG0 n id = some (bI7 n.Talks id : Int) := by
 unfold aG0
 refine ca8 h.len ?_ ?_
 ·intro k i hi _
  simp only [au8, dlt hi, if_true, ac1 hi, Option.bind_some, ch3 (Nat.le_trans (h.bl _ (List.getElem_mem hi)) (by omega))]
 ·intro k; simp [au8]
def bI8 (id : Int) (host : Str) (a : aa3) (x : aa0) : Bool := decide (x.Host = host) && (decide (x.State = 2) && (decide (x.Local.Net = a.Net) && (decide (x.Local.Service = a.Service) && !decide (x.Id = id))))
theorem ch4 (x : aa0) (host : Str) (a : aa3) (t : aa0) : aj3 x host a t = some (bI8 t.Id host a x) := by
 unfold aj3 aw8 bI8
 cases decide (x.Host = host) <;> cases decide (x.State = 2) <;> cases decide (x.Local.Net = a.Net) <;> cases decide (x.Local.Service = a.Service) <;> cases decide (x.Id = t.Id) <;> rfl
theorem b11 {n : aa1} (h : n.Talks.length ≤ 100000) (host : Str) (a : aa3) (t : aa0) : ai3 n host a t = some (aO2 (bI8 t.Id host a) n.Talks) := by
 unfold ai3
 rw [a35]
 unfold ad0
 refine aG5 (by omega) ?_ ?_
 ·intro i hi
  simp only [aa9, dlt hi, if_true, ac1 hi, Option.bind_some, ch4]
 ·simp [aa9]
theorem b12 (x : aa0) (t : aa0) (a : aa3) : ((!decide (x.Id = t.Id)) && ((decide (x.Host = t.Host)) && ((decide (x.State = 2)) && ((decide (x.Local.Net = a.Net)) && (decide (x.Local.Service = a.Service)))))) = bI8 t.Id t.Host a x := by
 unfold bI8
 cases decide (x.Host = t.Host) <;> cases decide (x.State = 2) <;> cases decide (x.Local.Net = a.Net) <;> cases decide (x.Local.Service = a.Service) <;> cases decide (x.Id = t.Id) <;> rfl
theorem bR6 {n : aa1} (h : n.Talks.length ≤ 100000) (t : aa0) (a : aa3) : as0 n t a = some (n.Talks.any (bI8 t.Id t.Host a)) := by
 unfold as0
 refine bR5 (by omega) ?_ ?_
 ·intro i hi
  simp only [am2, dlt hi, if_true, ac1 hi, Option.bind_some, b12]
 ·simp [am2]
def bu0 (l : List aa0) (t : aa0) (pre : List Int) (id : Int) : Bool := match fdT l id with
 | none => false
 | some c => !pre.contains id && (decide (c.Host = t.Host) && (decide (c.Opens = 0) && (decide (c.State = 3) || decide (c.State = 4))))
theorem bH0 {l : List aa0} {t : aa0} {pre : List Int} {id : Int} (h : fdT l id = none) : bu0 l t pre id = false := by unfold bu0; rw [h]
theorem bH1 {l : List aa0} {t c : aa0} {pre : List Int} {id : Int} (h : fdT l id = some c) : bu0 l t pre id = (!pre.contains id && (decide (c.Host = t.Host) && (decide (c.Opens = 0) && (decide (c.State = 3) || decide (c.State = 4))))) := by unfold bu0; rw [h]
def ca9 (l : List aa0) (t : aa0) : List Int → List Int → Bool
 | _, [] => true
 | pre, id :: r => bu0 l t pre id && ca9 l t (pre ++ [id]) r
def bkB (l : List aa0) (t : aa0) : Bool := !(decide (8 < t.Backlog.length) || (!decide (t.State = 2) && decide (t.Backlog ≠ []))) && ca9 l t [] t.Backlog
theorem ch5 {l : List aa0} {t : aa0} {body : Int → Option (Step Int Bool)} (hl : t.Backlog.length ≤ 100000)
  (hb : ∀ i (h : i < t.Backlog.length), body (i : Int) = if bu0 l t (t.Backlog.take i) t.Backlog[i] then some (.cont (IntKind.wrap .i64 ((i : Int) + 1))) else some (.done false)) (he : body (t.Backlog.length : Int) = some (.done true)) :
  ae5 body 0 = some (ca9 l t [] t.Backlog) := by
 refine (af8 t.Backlog.length (fun (_ : Unit) i => i) body (fun i _ => ca9 l t (t.Backlog.take i) (t.Backlog.drop i)) (fun _ _ => True) (s0 := ()) trivial ?_ ?_).trans (by simp)
 ·intro _ i hi _
  rw [hb i hi, List.drop_eq_getElem_cons hi, ca9]
  by_cases hp : bu0 l t (t.Backlog.take i) t.Backlog[i] = true
  ·left
   refine ⟨(), ?_, ?_, trivial⟩
   ·rw [if_pos hp, ad2 (by omega)]
   ·rw [hp, List.take_succ_eq_append_getElem hi]; rfl
  ·right; rw [if_neg hp]; rw [Bool.not_eq_true] at hp; rw [hp]; rfl
 ·intro _ _; rw [he]; simp [ca9]
theorem ch6 {α : Type} (l : List α) : decide ((0 : Int) < (l.length : Int)) = decide (l ≠ []) := by
 cases l <;> simp
theorem bg1 {n : aa1} (h : Mod n) {t : aa0} (ht : t.Backlog.length ≤ 100000) : ax3 n t = some (bkB n.Talks t) := by
 have hloop : ae5 (fun s => al1 n t s) 0 = some (ca9 n.Talks t [] t.Backlog) := by
  refine ch5 ht ?_ ?_
  ·intro i hi
   have hc : cut t.Backlog 0 (i : Int) = some (t.Backlog.take i) := bb2 (Nat.le_of_lt hi)
   simp only [al1, dlt hi, if_true, ac1 hi, Option.bind_some, ch2 h.len, hc]
   cases hf : fdT n.Talks t.Backlog[i] with
   | none => rw [bH0 hf]; simp [aQ9 hf]
   | some c =>
    obtain ⟨k, h1, h2, h3, h4⟩ := as8 hf
    rw [bH1 hf]
    have hk : ¬ ((k : Int) < 0) := by omega
    simp only [h2, hk, decide_false, Bool.false_eq_true, if_false, ch3 (show (t.Backlog.take i).length ≤ 1000000 by simp; omega), Option.bind_some, ak1 h3]
    cases (t.Backlog.take i).contains t.Backlog[i] <;> cases decide (c.Host = t.Host) <;> cases decide (c.Opens = 0) <;> cases decide (c.State = 3) <;> cases decide (c.State = 4) <;> rfl
  ·simp [al1]
 unfold ax3 bkB
 rw [hloop, ch6]
 have e8 : decide ((8 : Int) < (List.length t.Backlog : Int)) = decide (8 < t.Backlog.length) := by simp; omega
 rw [e8]
 cases decide (t.Backlog ≠ []) <;> cases decide (8 < t.Backlog.length) <;> cases decide (t.State = 2) <;> simp
def b13 (l : List aa0) (t : aa0) : Bool := if t.State = 3 then (match fdT l t.Peer with
 | none => false
 | some p => !decide (t.Peer = t.Id) && (decide (p.State = 3) && decide (p.Peer = t.Id))) else decide (t.Peer = 0)
def annB (l : List aa0) (t : aa0) : Bool := !decide (t.State = 2) || (decide (t.Local.Host = t.Host) && !l.any (bI8 t.Id t.Host t.Local))
def opB (l : List aa0) (t : aa0) : Bool := decide ((0 < t.Opens ∧ bI7 l t.Id = 0) ∨ (t.Opens = 0 ∧ bI7 l t.Id = 1))
def rngB (t : aa0) : Bool := decide (1 ≤ t.State ∧ t.State ≤ 4 ∧ 0 ≤ t.Opens ∧ t.Opens ≤ 9007199254740991 ∧ t.Data.length ≤ 8192 ∧ t.Owner.length ≤ 32 ∧ (t.State ≤ 2 → t.Data = []))
def bH2 (l : List aa0) (t : aa0) : Bool := rngB t && (bkB l t && (b13 l t && (annB l t && opB l t)))
theorem bm0 {n : aa1} (h : Mod n) {t : aa0} (ht : t.Backlog.length ≤ 100000) : aG3 n t = some (bH2 n.Talks t) := by
 unfold aG3 bH2
 have hpeer : aG2 n t = some (b13 n.Talks t) := by
  unfold aG2 b13
  by_cases h3 : t.State = 3
  ·simp only [h3, decide_true, Bool.not_true, Bool.false_eq_true, if_false, ch2 h.len, Option.bind_some, if_true]
   cases hf : fdT n.Talks t.Peer with
   | none => simp [aQ9 hf]
   | some p =>
    obtain ⟨k, k1, k2, k3, k4⟩ := as8 hf
    have h0 : decide ((0 : Int) ≤ (k : Int)) = true := by simp
    simp only [k2, h0, if_true, ak1 k3, Option.bind_some]
    cases decide (t.Peer = t.Id) <;> cases decide (p.State = 3) <;> cases decide (p.Peer = t.Id) <;> rfl
  ·simp [h3]
 rw [bR6 h.len, b10 h, hpeer, bg1 h ht]
 simp only [Option.bind_some, a35]
 by_cases h1 : rngB t = true
 ·have h2 := of_decide_eq_true h1
  obtain ⟨a1, a2, a3, a4, a5, a6, a7⟩ := h2
  have c1 : decide (t.State < 1) = false := by simp; omega
  have c2 : decide (4 < t.State) = false := by simp; omega
  have c3 : decide (t.Opens < 0) = false := by simp; omega
  have c4 : decide (9007199254740991 < t.Opens) = false := by simp; omega
  have c5 : decide ((8192 : Int) < (List.length t.Data : Int)) = false := by simp; omega
  have c6 : decide ((32 : Int) < (List.length t.Owner : Int)) = false := by simp; omega
  have c7 : (decide ((0 : Int) < (List.length t.Data : Int)) && decide (t.State < 3)) = false := by
   by_cases q : t.State < 3
   ·rw [a7 (by omega)]; simp
   ·simp [q]
  simp only [c1, c2, c3, c4, c5, c6, c7, Bool.or_self, Bool.false_eq_true, if_false, h1, Bool.true_and]
  have ho : (if (decide (0 < t.Opens)) = true then if (decide ((bI7 n.Talks t.Id : Int) = 0)) = true then some true else if (decide (t.Opens = 0)) = true then some (decide ((bI7 n.Talks t.Id : Int) = 1)) else some false else if (decide (t.Opens = 0)) = true then some (decide ((bI7 n.Talks t.Id : Int) = 1)) else some false) = some (opB n.Talks t) := by
   unfold opB
   by_cases hp : 0 < t.Opens
   ·have h1 : ¬ t.Opens = 0 := by omega
    by_cases hc : bI7 n.Talks t.Id = 0 <;> simp [hp, h1, hc]
   ·have h1 : t.Opens = 0 := by omega
    simp [hp, h1]; try omega
  rw [ho]
  unfold annB
  cases decide (t.State = 2) <;> cases decide (t.Local.Host = t.Host) <;> cases n.Talks.any (bI8 t.Id t.Host t.Local) <;> cases opB n.Talks t <;> cases b13 n.Talks t <;> cases bkB n.Talks t <;> rfl
 ·have hr : rngB t = false := by simpa using h1
  rw [hr, Bool.false_and]
  have h2 : ¬ _ := of_decide_eq_false hr
  by_cases q1 : 32 < t.Owner.length ∨ t.State < 1 ∨ 4 < t.State
  ·rw [if_pos]
   simp only [Bool.or_eq_true, decide_eq_true_eq]
   omega
  ·rw [if_neg (by simp only [Bool.or_eq_true, decide_eq_true_eq]; omega), if_pos]
   simp only [Bool.or_eq_true, Bool.and_eq_true, decide_eq_true_eq]
   by_cases q2 : t.Opens < 0 ∨ 9007199254740991 < t.Opens ∨ 8192 < t.Data.length
   ·omega
   ·right; right; right
    by_cases q3 : t.Data = []
    ·exact absurd ⟨by omega, by omega, by omega, by omega, by omega, by omega, fun _ => q3⟩ h2
    ·have : 0 < t.Data.length := List.length_pos_iff.2 q3
     refine ⟨by omega, ?_⟩
     by_cases q4 : t.State ≤ 2
     ·omega
     ·exact absurd ⟨by omega, by omega, by omega, by omega, by omega, by omega, fun q => absurd q q4⟩ h2
def cb0 (nx : Int) : Int → List aa0 → Bool
 | _, [] => true
 | last, t :: r => (decide (last < t.Id) && decide (t.Id < nx)) && cb0 nx t.Id r
def bR7 (n : aa1) : Bool := (decide ((aN6 n.Db).2 = 0) && (decide (1 ≤ n.Next) && (decide (n.Next ≤ 1048576) && decide (n.Talks.length ≤ 64)))) && (cb0 n.Next 0 n.Talks && n.Talks.all (bH2 n.Talks))
theorem b14 (n : aa1) : ((!decide ((aN6 n.Db).2 = 0)) || ((decide (n.Next < 1)) || ((decide (1048576 < n.Next)) || (decide ((64 : Int) < (List.length n.Talks : Int)))))) = !(decide ((aN6 n.Db).2 = 0) && (decide (1 ≤ n.Next) && (decide (n.Next ≤ 1048576) && decide (n.Talks.length ≤ 64)))) := by
 have e1 : decide (n.Next < 1) = !decide (1 ≤ n.Next) := by rw [← decide_not]; congr 1; simp <;> try omega
 have e2 : decide (1048576 < n.Next) = !decide (n.Next ≤ 1048576) := by rw [← decide_not]; congr 1; simp
 have e3 : decide ((64 : Int) < (List.length n.Talks : Int)) = !decide (n.Talks.length ≤ 64) := by rw [← decide_not]; congr 1; simp <;> try omega
 rw [e1, e2, e3, Bool.not_and, Bool.not_and, Bool.not_and]
theorem bm1 {n : aa1} (h : Mod n) : aq6 n = some (bR7 n) := by
 have hloop : ∀ last, ae5 (fun s => ao4 n s.1 s.2) (last, 0) = some (cb0 n.Next last n.Talks && n.Talks.all (bH2 n.Talks)) := by
  intro last
  refine (af8 n.Talks.length (fun (s : Int) i => (s, i)) _ (fun i s => cb0 n.Next s (n.Talks.drop i) && (n.Talks.drop i).all (bH2 n.Talks)) (fun _ _ => True) (s0 := last) trivial ?_ ?_).trans (by simp)
  ·intro s i hi _
   rw [List.drop_eq_getElem_cons hi, cb0, List.all_cons]
   simp only [ao4, dlt hi, if_true, ac1 hi, Option.bind_some, bm0 h (h.bl _ (List.getElem_mem hi))]
   by_cases hp : s < n.Talks[i].Id ∧ n.Talks[i].Id < n.Next
   ·have e1 : decide (n.Talks[i].Id ≤ s) = false := by simp; omega
    have e2 : decide (n.Next ≤ n.Talks[i].Id) = false := by simp; omega
    have e3 : (decide (s < n.Talks[i].Id) && decide (n.Talks[i].Id < n.Next)) = true := by simp [hp.1, hp.2]
    simp only [e1, e2, e3, Bool.false_eq_true, if_false, Option.bind_some, Bool.true_and]
    cases ht : bH2 n.Talks n.Talks[i] with
    | true =>
     left
     refine ⟨n.Talks[i].Id, ?_, by simp, trivial⟩
     simp only [Bool.not_true, Bool.false_eq_true, if_false]
     rw [ad2 (by have := h.len; omega)]
    | false => right; simp
   ·right
    have e2 : (decide (s < n.Talks[i].Id) && decide (n.Talks[i].Id < n.Next)) = false := by rw [Bool.eq_false_iff]; simp only [ne_eq, Bool.and_eq_true, decide_eq_true_eq]; exact hp
    rw [e2]
    by_cases q : n.Talks[i].Id ≤ s
    ·simp [q]
    ·have q2 : n.Next ≤ n.Talks[i].Id := by omega
     simp [q, q2]
  ·intro s _
   simp [ao4, cb0]
 unfold aq6 bR7
 rw [bG8 h.db]
 simp only [Option.bind_some, hloop, b14]
 cases (decide ((aN6 n.Db).2 = 0) && (decide (1 ≤ n.Next) && (decide (n.Next ≤ 1048576) && decide (n.Talks.length ≤ 64)))) <;> simp
structure Rng (t : aa0) : Prop where
 s1 : 1 ≤ t.State
 s4 : t.State ≤ 4
 o0 : 0 ≤ t.Opens
 o9 : t.Opens ≤ 9007199254740991
 dt : t.Data.length ≤ 8192
 ow : t.Owner.length ≤ 32
 d0 : t.State ≤ 2 → t.Data = []
structure GoodT (l : List aa0) : Prop where
 inc : l.Pairwise fun a b => a.Id < b.Id
 rng : ∀ t ∈ l, Rng t
 blen : ∀ t ∈ l, t.Backlog.length ≤ 8
 bst : ∀ t ∈ l, t.State ≠ 2 → t.Backlog = []
 bnd : ∀ t ∈ l, t.Backlog.Nodup
 bc : ∀ t ∈ l, ∀ c ∈ t.Backlog, ∃ u ∈ l, u.Id = c ∧ u.Host = t.Host ∧ u.Opens = 0 ∧ (u.State = 3 ∨ u.State = 4)
 pe : ∀ t ∈ l, t.State = 3 → ∃ p ∈ l, p.Id = t.Peer ∧ t.Peer ≠ t.Id ∧ p.State = 3 ∧ p.Peer = t.Id
 p0 : ∀ t ∈ l, t.State ≠ 3 → t.Peer = 0
 an : ∀ t ∈ l, t.State = 2 → t.Local.Host = t.Host
 au : ∀ t ∈ l, ∀ x ∈ l, t.State = 2 → x.State = 2 → x.Host = t.Host → x.Local.Net = t.Local.Net → x.Local.Service = t.Local.Service → x.Id = t.Id
 w1 : ∀ t ∈ l, t.Opens = 0 → ∃ x ∈ l, t.Id ∈ x.Backlog
 w2 : ∀ x ∈ l, ∀ y ∈ l, ∀ c, c ∈ x.Backlog → c ∈ y.Backlog → x.Id = y.Id
structure Good (n : aa1) : Prop where
 db : (aN6 n.Db).2 = 0
 n1 : 1 ≤ n.Next
 n9 : n.Next ≤ 1048576
 len : n.Talks.length ≤ 64
 idr : ∀ t ∈ n.Talks, 1 ≤ t.Id ∧ t.Id < n.Next
 tk : GoodT n.Talks
theorem af1 {l : List aa0} (h : l.Pairwise fun a b => a.Id < b.Id) : ∀ x ∈ l, ∀ y ∈ l, x.Id = y.Id → x = y := by
 induction l with
 | nil => intro x hx; cases hx
 | cons a r ih =>
  obtain ⟨h1, h2⟩ := List.pairwise_cons.1 h
  intro x hx y hy e
  rcases List.mem_cons.1 hx with e1 | hx1 <;> rcases List.mem_cons.1 hy with e2 | hy1
  ·rw [e1, e2]
  ·have := h1 y hy1; rw [e1] at e; omega
  ·have := h1 x hx1; rw [e2] at e; omega
  ·exact ih h2 x hx1 y hy1 e
theorem bm2 {l : List aa0} {id : Int} {t : aa0} (h : fdT l id = some t) : t ∈ l ∧ t.Id = id :=
 ⟨List.mem_of_find?_eq_some h, of_decide_eq_true (List.find?_some (p := isT id) h)⟩
theorem bu1 {l : List aa0} (hi : l.Pairwise fun a b => a.Id < b.Id) {t : aa0} (h : t ∈ l) : fdT l t.Id = some t := by
 cases hf : fdT l t.Id with
 | none => exact absurd (decide_eq_true rfl : isT t.Id t = true) (List.find?_eq_none.1 hf t h)
 | some u => obtain ⟨h1, h2⟩ := bm2 hf; rw [af1 hi u h1 t h h2]
theorem bR8 {l : List aa0} {id : Int} (h : fdT l id = none) : ∀ t ∈ l, t.Id ≠ id := fun t ht e => List.find?_eq_none.1 h t ht (decide_eq_true e)
def upT (l : List aa0) (id : Int) (f : aa0 → aa0) : List aa0 := l.map fun t => if t.Id = id then f t else t
def hgT (t : aa0) : aa0 := { t with State := 4, Peer := 0 }
def hg1 (R : List Int) (t : aa0) : aa0 := if t.State = 3 ∧ (t.Id ∈ R ∨ t.Peer ∈ R) then hgT t else t
def hgL (l : List aa0) (R : List Int) : List aa0 := l.map (hg1 R)
def dpL (l : List aa0) (R : List Int) : List aa0 := l.filter fun t => decide (t.Id ∉ R)
def cutS (l : List aa0) (R : List Int) : List aa0 := dpL (hgL l R) R
def clT (t : aa0) : aa0 := { t with State := 4, Backlog := [] }
theorem ah5 (R : List Int) (t : aa0) : (hg1 R t).Id = t.Id ∧ (hg1 R t).Host = t.Host ∧ (hg1 R t).Owner = t.Owner ∧ (hg1 R t).Local = t.Local ∧ (hg1 R t).Remote = t.Remote ∧ (hg1 R t).Data = t.Data ∧ (hg1 R t).Backlog = t.Backlog ∧ (hg1 R t).Opens = t.Opens := by
 unfold hg1 hgT; split <;> simp
theorem aE5 (R : List Int) (t : aa0) : ((t.State = 3 ∧ (t.Id ∈ R ∨ t.Peer ∈ R)) ∧ (hg1 R t).State = 4 ∧ (hg1 R t).Peer = 0) ∨ (¬ (t.State = 3 ∧ (t.Id ∈ R ∨ t.Peer ∈ R)) ∧ hg1 R t = t) := by
 unfold hg1 hgT
 by_cases h : t.State = 3 ∧ (t.Id ∈ R ∨ t.Peer ∈ R)
 ·left; rw [if_pos h]; exact ⟨h, rfl, rfl⟩
 ·right; rw [if_neg h]; exact ⟨h, rfl⟩
theorem aM3 {l : List aa0} {g : aa0 → aa0} (hg : ∀ t, (g t).Id = t.Id) (h : l.Pairwise fun a b => a.Id < b.Id) : (l.map g).Pairwise fun a b => a.Id < b.Id := by
 rw [List.pairwise_map]; simpa only [hg] using h
theorem GoodT.hang {l : List aa0} (G : GoodT l) (R : List Int) : GoodT (hgL l R) := by
 have K := ah5 R
 have C := aE5 R
 unfold hgL
 refine { inc := aM3 (fun t => (K t).1) G.inc, rng := ?_, blen := ?_, bst := ?_, bnd := ?_, bc := ?_, pe := ?_, p0 := ?_, an := ?_, au := ?_, w1 := ?_, w2 := ?_ }
 ·intro t' ht'
  obtain ⟨t, ht, rfl⟩ := List.mem_map.1 ht'
  have r := G.rng t ht
  rcases C t with ⟨_, s, _⟩ | ⟨_, e⟩
  ·obtain ⟨k1, k2, k3, k4, k5, k6, k7, k8⟩ := K t
   exact ⟨by omega, by omega, by rw [k8]; exact r.o0, by rw [k8]; exact r.o9, by rw [k6]; exact r.dt, by rw [k3]; exact r.ow, fun h => by omega⟩
  ·rw [e]; exact r
 ·intro t' ht'
  obtain ⟨t, ht, rfl⟩ := List.mem_map.1 ht'
  rw [(K t).2.2.2.2.2.2.1]; exact G.blen t ht
 ·intro t' ht' h
  obtain ⟨t, ht, rfl⟩ := List.mem_map.1 ht'
  rw [(K t).2.2.2.2.2.2.1]
  rcases C t with ⟨q, s, _⟩ | ⟨_, e⟩
  ·exact G.bst t ht (by omega)
  ·rw [e] at h; exact G.bst t ht h
 ·intro t' ht'
  obtain ⟨t, ht, rfl⟩ := List.mem_map.1 ht'
  rw [(K t).2.2.2.2.2.2.1]; exact G.bnd t ht
 ·intro t' ht' c hc
  obtain ⟨t, ht, rfl⟩ := List.mem_map.1 ht'
  rw [(K t).2.2.2.2.2.2.1] at hc
  obtain ⟨u, hu, e1, e2, e3, e4⟩ := G.bc t ht c hc
  refine ⟨hg1 R u, List.mem_map_of_mem hu, by rw [(K u).1]; exact e1, by rw [(K u).2.1, (K t).2.1]; exact e2, by rw [(K u).2.2.2.2.2.2.2]; exact e3, ?_⟩
  rcases C u with ⟨q, s, _⟩ | ⟨_, e⟩
  ·exact .inr s
  ·rw [e]; exact e4
 ·intro t' ht' h3
  obtain ⟨t, ht, rfl⟩ := List.mem_map.1 ht'
  rcases C t with ⟨q, s, _⟩ | ⟨q, e⟩
  ·omega
  ·rw [e] at h3 ⊢
   obtain ⟨p, hp, e1, e2, e3, e4⟩ := G.pe t ht h3
   refine ⟨hg1 R p, List.mem_map_of_mem hp, ?_⟩
   rcases C p with ⟨q', s, _⟩ | ⟨_, e'⟩
   ·exfalso; apply q; rw [e1, e4] at q'; exact ⟨h3, q'.2.symm⟩
   ·rw [e']; exact ⟨e1, e2, e3, e4⟩
 ·intro t' ht' h3
  obtain ⟨t, ht, rfl⟩ := List.mem_map.1 ht'
  rcases C t with ⟨q, s, s2⟩ | ⟨q, e⟩
  ·exact s2
  ·rw [e] at h3 ⊢; exact G.p0 t ht h3
 ·intro t' ht' h2
  obtain ⟨t, ht, rfl⟩ := List.mem_map.1 ht'
  rcases C t with ⟨q, s, s2⟩ | ⟨q, e⟩
  ·omega
  ·rw [e] at h2 ⊢; exact G.an t ht h2
 ·intro t' ht' x' hx' h2 x2
  obtain ⟨t, ht, rfl⟩ := List.mem_map.1 ht'
  obtain ⟨x, hx, rfl⟩ := List.mem_map.1 hx'
  rcases C t with ⟨q, s, s2⟩ | ⟨q, e⟩
  ·omega
  rcases C x with ⟨q', s, s2⟩ | ⟨q', e'⟩
  ·omega
  rw [e] at h2 ⊢; rw [e'] at x2 ⊢; exact G.au t ht x hx h2 x2
 ·intro t' ht' h0
  obtain ⟨t, ht, rfl⟩ := List.mem_map.1 ht'
  rw [(K t).2.2.2.2.2.2.2] at h0
  obtain ⟨x, hx, hm⟩ := G.w1 t ht h0
  exact ⟨hg1 R x, List.mem_map_of_mem hx, by rw [(K x).2.2.2.2.2.2.1, (K t).1]; exact hm⟩
 ·intro x' hx' y' hy' c hcx hcy
  obtain ⟨x, hx, rfl⟩ := List.mem_map.1 hx'
  obtain ⟨y, hy, rfl⟩ := List.mem_map.1 hy'
  rw [(K x).2.2.2.2.2.2.1] at hcx; rw [(K y).2.2.2.2.2.2.1] at hcy
  rw [(K x).1, (K y).1]; exact G.w2 x hx y hy c hcx hcy
theorem ak5 {l : List aa0} {R : List Int} {g : aa0 → aa0} {t' : aa0} : t' ∈ (dpL l R).map g ↔ ∃ t ∈ l, t.Id ∉ R ∧ g t = t' := by
 unfold dpL
 simp only [List.mem_map, List.mem_filter, decide_eq_true_eq]
 exact ⟨fun ⟨t, ⟨h1, h2⟩, h3⟩ => ⟨t, h1, h2, h3⟩, fun ⟨t, h1, h2, h3⟩ => ⟨t, ⟨h1, h2⟩, h3⟩⟩
theorem GoodT.drop {l : List aa0} (G : GoodT l) (R : List Int) (id : Int) (ho : ∀ t ∈ l, t.Id ∈ R → t.State ≠ 3) (hi : ∀ t ∈ l, t.Id = id → t.State = 2) (hcl : ∀ x ∈ l, ∀ c ∈ x.Backlog, (x.Id ∈ R ∨ x.Id = id) ↔ c ∈ R) :
  GoodT (upT (dpL l R) id clT) := by
 let g : aa0 → aa0 := fun t => if t.Id = id then clT t else t
 have C : ∀ t, (t.Id = id ∧ g t = clT t) ∨ (t.Id ≠ id ∧ g t = t) := by
  intro t
  by_cases h : t.Id = id
  ·exact .inl ⟨h, if_pos h⟩
  ·exact .inr ⟨h, if_neg h⟩
 have K : ∀ t, (g t).Id = t.Id ∧ (g t).Host = t.Host ∧ (g t).Opens = t.Opens ∧ (g t).Peer = t.Peer ∧ (g t).Local = t.Local := by
  intro t; rcases C t with ⟨_, e⟩ | ⟨_, e⟩ <;> rw [e] <;> exact ⟨rfl, rfl, rfl, rfl, rfl⟩
 have B : ∀ t, ∀ c ∈ (g t).Backlog, t.Id ≠ id ∧ c ∈ t.Backlog := by
  intro t c hc
  rcases C t with ⟨_, e⟩ | ⟨h, e⟩
  ·rw [e] at hc; cases hc
  ·rw [e] at hc; exact ⟨h, hc⟩
 have hin : (dpL l R).Pairwise fun a b => a.Id < b.Id := G.inc.filter _
 show GoodT ((dpL l R).map g)
 refine { inc := aM3 (fun t => (K t).1) hin, rng := ?_, blen := ?_, bst := ?_, bnd := ?_, bc := ?_, pe := ?_, p0 := ?_, an := ?_, au := ?_, w1 := ?_, w2 := ?_ }
 ·intro t' ht'
  obtain ⟨t, ht, hr, rfl⟩ := ak5.1 ht'
  have r := G.rng t ht
  rcases C t with ⟨_, e⟩ | ⟨_, e⟩ <;> rw [e]
  ·exact ⟨by show (1 : Int) ≤ 4; decide, by show (4 : Int) ≤ 4; decide, r.o0, r.o9, r.dt, r.ow, fun h => absurd (show (4 : Int) ≤ 2 from h) (by decide)⟩
  ·exact r
 ·intro t' ht'
  obtain ⟨t, ht, hr, rfl⟩ := ak5.1 ht'
  rcases C t with ⟨_, e⟩ | ⟨_, e⟩ <;> rw [e]
  ·exact Nat.zero_le _
  ·exact G.blen t ht
 ·intro t' ht' h
  obtain ⟨t, ht, hr, rfl⟩ := ak5.1 ht'
  rcases C t with ⟨_, e⟩ | ⟨_, e⟩
  ·rw [e]; rfl
  ·rw [e] at h ⊢; exact G.bst t ht h
 ·intro t' ht'
  obtain ⟨t, ht, hr, rfl⟩ := ak5.1 ht'
  rcases C t with ⟨_, e⟩ | ⟨_, e⟩ <;> rw [e]
  ·exact List.nodup_nil
  ·exact G.bnd t ht
 ·intro t' ht' c hc
  obtain ⟨t, ht, hr, rfl⟩ := ak5.1 ht'
  obtain ⟨hne, hc⟩ := B t c hc
  obtain ⟨u, hu, e1, e2, e3, e4⟩ := G.bc t ht c hc
  have hcR : c ∉ R := fun q => by
   rcases (hcl t ht c hc).2 q with q | q
   ·exact hr q
   ·exact hne q
  refine ⟨g u, ak5.2 ⟨u, hu, by rw [e1]; exact hcR, rfl⟩, by rw [(K u).1]; exact e1, by rw [(K u).2.1, (K t).2.1]; exact e2, by rw [(K u).2.2.1]; exact e3, ?_⟩
  rcases C u with ⟨q, e⟩ | ⟨q, e⟩
  ·have := hi u hu q; omega
  ·rw [e]; exact e4
 ·intro t' ht' h3
  obtain ⟨t, ht, hr, rfl⟩ := ak5.1 ht'
  rcases C t with ⟨q, e⟩ | ⟨q, e⟩
  ·rw [e] at h3; exact absurd (show (4 : Int) = 3 from h3) (by decide)
  ·rw [e] at h3 ⊢
   obtain ⟨p, hp, e1, e2, e3, e4⟩ := G.pe t ht h3
   refine ⟨g p, ak5.2 ⟨p, hp, fun q => ho p hp q e3, rfl⟩, ?_⟩
   rcases C p with ⟨q', e'⟩ | ⟨q', e'⟩
   ·have := hi p hp q'; omega
   ·rw [e']; exact ⟨e1, e2, e3, e4⟩
 ·intro t' ht' h3
  obtain ⟨t, ht, hr, rfl⟩ := ak5.1 ht'
  rw [(K t).2.2.2.1]
  rcases C t with ⟨q, e⟩ | ⟨q, e⟩
  ·exact G.p0 t ht (by have := hi t ht q; omega)
  ·rw [e] at h3; exact G.p0 t ht h3
 ·intro t' ht' h2
  obtain ⟨t, ht, hr, rfl⟩ := ak5.1 ht'
  rcases C t with ⟨q, e⟩ | ⟨q, e⟩
  ·rw [e] at h2; exact absurd (show (4 : Int) = 2 from h2) (by decide)
  ·rw [e] at h2 ⊢; exact G.an t ht h2
 ·intro t' ht' x' hx' h2 x2
  obtain ⟨t, ht, hr, rfl⟩ := ak5.1 ht'
  obtain ⟨x, hx, hr', rfl⟩ := ak5.1 hx'
  rcases C t with ⟨q, e⟩ | ⟨q, e⟩
  ·rw [e] at h2; exact absurd (show (4 : Int) = 2 from h2) (by decide)
  rcases C x with ⟨q', e'⟩ | ⟨q', e'⟩
  ·rw [e'] at x2; exact absurd (show (4 : Int) = 2 from x2) (by decide)
  rw [e] at h2 ⊢; rw [e'] at x2 ⊢; exact G.au t ht x hx h2 x2
 ·intro t' ht' h0
  obtain ⟨t, ht, hr, rfl⟩ := ak5.1 ht'
  rw [(K t).2.2.1] at h0
  obtain ⟨x, hx, hm⟩ := G.w1 t ht h0
  have hn : ¬ (x.Id ∈ R ∨ x.Id = id) := fun q => hr ((hcl x hx _ hm).1 q)
  refine ⟨g x, ak5.2 ⟨x, hx, fun q => hn (.inl q), rfl⟩, ?_⟩
  rw [(K t).1]
  rcases C x with ⟨q, e⟩ | ⟨q, e⟩
  ·exact absurd (.inr q) hn
  ·rw [e]; exact hm
 ·intro x' hx' y' hy' c hcx hcy
  obtain ⟨x, hx, _, rfl⟩ := ak5.1 hx'
  obtain ⟨y, hy, _, rfl⟩ := ak5.1 hy'
  rw [(K x).1, (K y).1]; exact G.w2 x hx y hy c (B x c hcx).2 (B y c hcy).2
theorem GoodT.same {l : List aa0} (G : GoodT l) (g : aa0 → aa0) (K : ∀ t, (g t).Id = t.Id ∧ (g t).Host = t.Host ∧ (g t).State = t.State ∧ (g t).Peer = t.Peer ∧ (g t).Local = t.Local ∧ (g t).Backlog = t.Backlog)
  (ho : ∀ t ∈ l, (g t).Opens = 0 ↔ t.Opens = 0) (hr : ∀ t ∈ l, Rng (g t)) : GoodT (l.map g) := by
 refine { inc := aM3 (fun t => (K t).1) G.inc, rng := ?_, blen := ?_, bst := ?_, bnd := ?_, bc := ?_, pe := ?_, p0 := ?_, an := ?_, au := ?_, w1 := ?_, w2 := ?_ }
 ·intro t' ht'
  obtain ⟨t, ht, rfl⟩ := List.mem_map.1 ht'
  exact hr t ht
 ·intro t' ht'
  obtain ⟨t, ht, rfl⟩ := List.mem_map.1 ht'
  rw [(K t).2.2.2.2.2]; exact G.blen t ht
 ·intro t' ht' h
  obtain ⟨t, ht, rfl⟩ := List.mem_map.1 ht'
  rw [(K t).2.2.2.2.2]; rw [(K t).2.2.1] at h; exact G.bst t ht h
 ·intro t' ht'
  obtain ⟨t, ht, rfl⟩ := List.mem_map.1 ht'
  rw [(K t).2.2.2.2.2]; exact G.bnd t ht
 ·intro t' ht' c hc
  obtain ⟨t, ht, rfl⟩ := List.mem_map.1 ht'
  rw [(K t).2.2.2.2.2] at hc
  obtain ⟨u, hu, e1, e2, e3, e4⟩ := G.bc t ht c hc
  exact ⟨g u, List.mem_map_of_mem hu, by rw [(K u).1]; exact e1, by rw [(K u).2.1, (K t).2.1]; exact e2, (ho u hu).2 e3, by rw [(K u).2.2.1]; exact e4⟩
 ·intro t' ht' h3
  obtain ⟨t, ht, rfl⟩ := List.mem_map.1 ht'
  rw [(K t).2.2.1] at h3
  obtain ⟨p, hp, e1, e2, e3, e4⟩ := G.pe t ht h3
  exact ⟨g p, List.mem_map_of_mem hp, by rw [(K p).1, (K t).2.2.2.1]; exact e1, by rw [(K t).1, (K t).2.2.2.1]; exact e2, by rw [(K p).2.2.1]; exact e3, by rw [(K p).2.2.2.1, (K t).1]; exact e4⟩
 ·intro t' ht' h3
  obtain ⟨t, ht, rfl⟩ := List.mem_map.1 ht'
  rw [(K t).2.2.2.1]; rw [(K t).2.2.1] at h3; exact G.p0 t ht h3
 ·intro t' ht' h2
  obtain ⟨t, ht, rfl⟩ := List.mem_map.1 ht'
  rw [(K t).2.2.2.2.1, (K t).2.1]; rw [(K t).2.2.1] at h2; exact G.an t ht h2
 ·intro t' ht' x' hx' h2 x2
  obtain ⟨t, ht, rfl⟩ := List.mem_map.1 ht'
  obtain ⟨x, hx, rfl⟩ := List.mem_map.1 hx'
  rw [(K t).2.2.1] at h2; rw [(K x).2.2.1] at x2
  rw [(K t).2.1, (K x).2.1, (K t).2.2.2.2.1, (K x).2.2.2.2.1, (K t).1, (K x).1]
  exact G.au t ht x hx h2 x2
 ·intro t' ht' h0
  obtain ⟨t, ht, rfl⟩ := List.mem_map.1 ht'
  obtain ⟨x, hx, hm⟩ := G.w1 t ht ((ho t ht).1 h0)
  exact ⟨g x, List.mem_map_of_mem hx, by rw [(K x).2.2.2.2.2, (K t).1]; exact hm⟩
 ·intro x' hx' y' hy' c hcx hcy
  obtain ⟨x, hx, rfl⟩ := List.mem_map.1 hx'
  obtain ⟨y, hy, rfl⟩ := List.mem_map.1 hy'
  rw [(K x).2.2.2.2.2] at hcx; rw [(K y).2.2.2.2.2] at hcy
  rw [(K x).1, (K y).1]; exact G.w2 x hx y hy c hcx hcy
theorem av1 (id : Int) (f : aa0 → aa0) (t : aa0) : (t.Id = id ∧ (if t.Id = id then f t else t) = f t) ∨ (t.Id ≠ id ∧ (if t.Id = id then f t else t) = t) := by
 by_cases h : t.Id = id
 ·exact .inl ⟨h, if_pos h⟩
 ·exact .inr ⟨h, if_neg h⟩
def anT (a : aa3) (t : aa0) : aa0 := { t with State := 2, Local := a }
theorem GoodT.ann {l : List aa0} (G : GoodT l) {t0 : aa0} (h0 : t0 ∈ l) (hs : t0.State = 1) {a : aa3} (ha : a.Host = t0.Host) (hu : l.any (bI8 t0.Id t0.Host a) = false) : GoodT (upT l t0.Id (anT a)) := by
 let g : aa0 → aa0 := fun t => if t.Id = t0.Id then anT a t else t
 have U : ∀ t ∈ l, t.Id = t0.Id → t = t0 := fun t ht e => af1 G.inc t ht t0 h0 e
 have C : ∀ t ∈ l, (t = t0 ∧ g t = anT a t0) ∨ (t.Id ≠ t0.Id ∧ g t = t) := by
  intro t ht
  rcases av1 t0.Id (anT a) t with ⟨q, e⟩ | ⟨q, e⟩
  ·have := U t ht q; subst this; exact .inl ⟨rfl, e⟩
  ·exact .inr ⟨q, e⟩
 have K : ∀ t, (g t).Id = t.Id ∧ (g t).Host = t.Host ∧ (g t).Opens = t.Opens ∧ (g t).Backlog = t.Backlog ∧ (g t).Peer = t.Peer := by
  intro t; rcases av1 t0.Id (anT a) t with ⟨q, e⟩ | ⟨q, e⟩ <;> (show (if t.Id = t0.Id then anT a t else t).Id = _ ∧ _) <;> rw [show g t = _ from e, e] <;> exact ⟨rfl, rfl, rfl, rfl, rfl⟩
 have hA : ∀ x ∈ l, x.State = 2 → x.Host = t0.Host → x.Local.Net = a.Net → x.Local.Service = a.Service → x.Id = t0.Id := by
  intro x hx q1 q2 q3 q4
  have := List.any_eq_false.1 hu x hx
  unfold bI8 at this
  simpa [q1, q2, q3, q4] using this
 show GoodT (l.map g)
 refine { inc := aM3 (fun t => (K t).1) G.inc, rng := ?_, blen := ?_, bst := ?_, bnd := ?_, bc := ?_, pe := ?_, p0 := ?_, an := ?_, au := ?_, w1 := ?_, w2 := ?_ }
 ·intro t' ht'
  obtain ⟨t, ht, rfl⟩ := List.mem_map.1 ht'
  have r := G.rng t ht
  rcases C t ht with ⟨rfl, e⟩ | ⟨_, e⟩ <;> rw [e]
  ·exact ⟨by show (1 : Int) ≤ 2; decide, by show (2 : Int) ≤ 4; decide, r.o0, r.o9, r.dt, r.ow, fun _ => r.d0 (by omega)⟩
  ·exact r
 ·intro t' ht'
  obtain ⟨t, ht, rfl⟩ := List.mem_map.1 ht'
  rw [(K t).2.2.2.1]; exact G.blen t ht
 ·intro t' ht' h
  obtain ⟨t, ht, rfl⟩ := List.mem_map.1 ht'
  rw [(K t).2.2.2.1]
  rcases C t ht with ⟨rfl, e⟩ | ⟨_, e⟩
  ·exact G.bst _ ht (by omega)
  ·rw [e] at h; exact G.bst t ht h
 ·intro t' ht'
  obtain ⟨t, ht, rfl⟩ := List.mem_map.1 ht'
  rw [(K t).2.2.2.1]; exact G.bnd t ht
 ·intro t' ht' c hc
  obtain ⟨t, ht, rfl⟩ := List.mem_map.1 ht'
  rw [(K t).2.2.2.1] at hc
  obtain ⟨u, hu, e1, e2, e3, e4⟩ := G.bc t ht c hc
  refine ⟨g u, List.mem_map_of_mem hu, by rw [(K u).1]; exact e1, by rw [(K u).2.1, (K t).2.1]; exact e2, by rw [(K u).2.2.1]; exact e3, ?_⟩
  rcases C u hu with ⟨rfl, e⟩ | ⟨_, e⟩
  ·omega
  ·rw [e]; exact e4
 ·intro t' ht' h3
  obtain ⟨t, ht, rfl⟩ := List.mem_map.1 ht'
  rcases C t ht with ⟨rfl, e⟩ | ⟨_, e⟩
  ·rw [e] at h3; exact absurd (show (2 : Int) = 3 from h3) (by decide)
  rw [e] at h3 ⊢
  obtain ⟨p, hp, e1, e2, e3, e4⟩ := G.pe t ht h3
  refine ⟨g p, List.mem_map_of_mem hp, ?_⟩
  rcases C p hp with ⟨rfl, e'⟩ | ⟨_, e'⟩
  ·omega
  ·rw [e']; exact ⟨e1, e2, e3, e4⟩
 ·intro t' ht' h3
  obtain ⟨t, ht, rfl⟩ := List.mem_map.1 ht'
  rw [(K t).2.2.2.2]
  rcases C t ht with ⟨rfl, e⟩ | ⟨_, e⟩
  ·exact G.p0 _ ht (by omega)
  ·rw [e] at h3; exact G.p0 t ht h3
 ·intro t' ht' h2
  obtain ⟨t, ht, rfl⟩ := List.mem_map.1 ht'
  rcases C t ht with ⟨rfl, e⟩ | ⟨_, e⟩
  ·rw [e]; exact ha
  ·rw [e] at h2 ⊢; exact G.an t ht h2
 ·intro t' ht' x' hx' h2 x2
  obtain ⟨t, ht, rfl⟩ := List.mem_map.1 ht'
  obtain ⟨x, hx, rfl⟩ := List.mem_map.1 hx'
  rw [(K t).2.1, (K x).2.1, (K t).1, (K x).1]
  rcases C t ht with ⟨rfl, e⟩ | ⟨q, e⟩ <;> rcases C x hx with ⟨q', e'⟩ | ⟨q', e'⟩
  ·intro _ _ _; rw [q']
  ·rw [e']; rw [e'] at x2; intro q1 q2 q3
   rw [e] at q2 q3
   exact hA x hx x2 q1 q2 q3
  ·subst q'
   rw [e'] ; rw [e] at h2 ⊢; intro q1 q2 q3
   exact (hA t ht h2 q1.symm q2.symm q3.symm).symm
  ·rw [e'] at x2 ⊢; rw [e] at h2 ⊢; exact G.au t ht x hx h2 x2
 ·intro t' ht' h0
  obtain ⟨t, ht, rfl⟩ := List.mem_map.1 ht'
  rw [(K t).2.2.1] at h0
  obtain ⟨x, hx, hm⟩ := G.w1 t ht h0
  exact ⟨g x, List.mem_map_of_mem hx, by rw [(K x).2.2.2.1, (K t).1]; exact hm⟩
 ·intro x' hx' y' hy' c hcx hcy
  obtain ⟨x, hx, rfl⟩ := List.mem_map.1 hx'
  obtain ⟨y, hy, rfl⟩ := List.mem_map.1 hy'
  rw [(K x).2.2.2.1] at hcx; rw [(K y).2.2.2.1] at hcy
  rw [(K x).1, (K y).1]; exact G.w2 x hx y hy c hcx hcy
def aV9 : aa3 := ⟨[], [], []⟩
def aR0 (nx : Int) (host user : Str) : aa0 := aa0.mk nx host user 1 aV9 aV9 0 [] [] 1
theorem GoodT.add {l : List aa0} (G : GoodT l) {nx : Int} (hn : ∀ t ∈ l, t.Id < nx) (host : Str) {user : Str} (hu : user.length ≤ 32) : GoodT (l ++ [aR0 nx host user]) := by
 have M : ∀ t', t' ∈ l ++ [aR0 nx host user] → t' ∈ l ∨ t' = aR0 nx host user := by intro t' h; simpa using h
 have I : ∀ {t}, t ∈ l → t ∈ l ++ [aR0 nx host user] := fun h => List.mem_append_left _ h
 refine { inc := ?_, rng := ?_, blen := ?_, bst := ?_, bnd := ?_, bc := ?_, pe := ?_, p0 := ?_, an := ?_, au := ?_, w1 := ?_, w2 := ?_ }
 ·rw [List.pairwise_append]
  refine ⟨G.inc, List.pairwise_singleton _ _, fun a ha b hb => ?_⟩
  rw [List.mem_singleton.1 hb]; exact hn a ha
 ·intro t' h
  rcases M t' h with h | rfl
  ·exact G.rng t' h
  ·exact ⟨by show (1 : Int) ≤ 1; decide, by show (1 : Int) ≤ 4; decide, by show (0 : Int) ≤ 1; decide, by show (1 : Int) ≤ 9007199254740991; decide, Nat.zero_le _, hu, fun _ => rfl⟩
 ·intro t' h
  rcases M t' h with h | rfl
  ·exact G.blen t' h
  ·exact Nat.zero_le _
 ·intro t' h hs
  rcases M t' h with h | rfl
  ·exact G.bst t' h hs
  ·rfl
 ·intro t' h
  rcases M t' h with h | rfl
  ·exact G.bnd t' h
  ·exact List.nodup_nil
 ·intro t' h c hc
  rcases M t' h with h | rfl
  ·obtain ⟨u, hu, q⟩ := G.bc t' h c hc
   exact ⟨u, I hu, q⟩
  ·cases hc
 ·intro t' h hs
  rcases M t' h with h | rfl
  ·obtain ⟨u, hu, q⟩ := G.pe t' h hs
   exact ⟨u, I hu, q⟩
  ·exact absurd (show (1 : Int) = 3 from hs) (by decide)
 ·intro t' h hs
  rcases M t' h with h | rfl
  ·exact G.p0 t' h hs
  ·rfl
 ·intro t' h hs
  rcases M t' h with h | rfl
  ·exact G.an t' h hs
  ·exact absurd (show (1 : Int) = 2 from hs) (by decide)
 ·intro t' h x' hx hs hs'
  rcases M t' h with h | rfl
  ·rcases M x' hx with hx | rfl
   ·exact G.au t' h x' hx hs hs'
   ·exact absurd (show (1 : Int) = 2 from hs') (by decide)
  ·exact absurd (show (1 : Int) = 2 from hs) (by decide)
 ·intro t' h h0
  rcases M t' h with h | rfl
  ·obtain ⟨u, hu, q⟩ := G.w1 t' h h0
   exact ⟨u, I hu, q⟩
  ·exact absurd (show (1 : Int) = 0 from h0) (by decide)
 ·intro x' hx y' hy c hcx hcy
  rcases M x' hx with hx | rfl
  ·rcases M y' hy with hy | rfl
   ·exact G.w2 x' hx y' hy c hcx hcy
   ·cases hcy
  ·cases hcx
def a55 (i c : Int) (r : List Int) (t : aa0) : aa0 := if t.Id = i then { t with Backlog := r } else if t.Id = c then { t with Opens := 1 } else t
theorem GoodT.lis {l : List aa0} (G : GoodT l) {t0 : aa0} (h0 : t0 ∈ l) {c : Int} {r : List Int} (hb : t0.Backlog = c :: r) : GoodT (l.map (a55 t0.Id c r)) := by
 have U : ∀ t ∈ l, t.Id = t0.Id → t = t0 := fun t ht e => af1 G.inc t ht t0 h0 e
 have hs2 : t0.State = 2 := by
  apply Classical.byContradiction
  intro q; rw [G.bst t0 h0 q] at hb; cases hb
 have hci : ∀ t ∈ l, t.Id = c → t.State = 3 ∨ t.State = 4 := by
  intro t ht e
  obtain ⟨u, hu, e1, _, _, e4⟩ := G.bc t0 h0 c (by rw [hb]; simp)
  rw [af1 G.inc t ht u hu (by rw [e, e1])]; exact e4
 have C : ∀ t ∈ l, (t = t0 ∧ a55 t0.Id c r t = { t0 with Backlog := r }) ∨ (t.Id ≠ t0.Id ∧ t.Id = c ∧ a55 t0.Id c r t = { t with Opens := 1 }) ∨ (t.Id ≠ t0.Id ∧ t.Id ≠ c ∧ a55 t0.Id c r t = t) := by
  intro t ht
  unfold a55
  by_cases h1 : t.Id = t0.Id
  ·have := U t ht h1; subst this; left; rw [if_pos rfl]; exact ⟨rfl, rfl⟩
  ·by_cases h2 : t.Id = c
   ·right; left; rw [if_neg h1, if_pos h2]; exact ⟨h1, h2, rfl⟩
   ·right; right; rw [if_neg h1, if_neg h2]; exact ⟨h1, h2, rfl⟩
 have K : ∀ t, (a55 t0.Id c r t).Id = t.Id ∧ (a55 t0.Id c r t).Host = t.Host ∧ (a55 t0.Id c r t).State = t.State ∧ (a55 t0.Id c r t).Peer = t.Peer ∧ (a55 t0.Id c r t).Local = t.Local := by
  intro t; unfold a55; split
  ·exact ⟨rfl, rfl, rfl, rfl, rfl⟩
  ·split <;> exact ⟨rfl, rfl, rfl, rfl, rfl⟩
 have nd := G.bnd t0 h0
 rw [hb, List.nodup_cons] at nd
 have B : ∀ t ∈ l, ∀ x ∈ (a55 t0.Id c r t).Backlog, x ∈ t.Backlog ∧ x ≠ c := by
  intro t ht x hx
  rcases C t ht with ⟨rfl, e⟩ | ⟨q1, q2, e⟩ | ⟨q1, q2, e⟩ <;> rw [e] at hx
  ·have hx : x ∈ r := hx
   exact ⟨by rw [hb]; exact List.mem_cons_of_mem _ hx, fun q => nd.1 (q ▸ hx)⟩
  ·have hx : x ∈ t.Backlog := hx
   have := hci t ht q2
   rw [G.bst t ht (by omega)] at hx; cases hx
  ·refine ⟨hx, fun q => q1 (G.w2 t ht t0 h0 c (q ▸ hx) (by rw [hb]; simp))⟩
 refine { inc := aM3 (fun t => (K t).1) G.inc, rng := ?_, blen := ?_, bst := ?_, bnd := ?_, bc := ?_, pe := ?_, p0 := ?_, an := ?_, au := ?_, w1 := ?_, w2 := ?_ }
 ·intro t' ht'
  obtain ⟨t, ht, rfl⟩ := List.mem_map.1 ht'
  have q := G.rng t ht
  rcases C t ht with ⟨rfl, e⟩ | ⟨_, _, e⟩ | ⟨_, _, e⟩ <;> rw [e]
  ·exact ⟨q.s1, q.s4, q.o0, q.o9, q.dt, q.ow, q.d0⟩
  ·exact ⟨q.s1, q.s4, by show (0 : Int) ≤ 1; decide, by show (1 : Int) ≤ 9007199254740991; decide, q.dt, q.ow, q.d0⟩
  ·exact q
 ·intro t' ht'
  obtain ⟨t, ht, rfl⟩ := List.mem_map.1 ht'
  have q := G.blen t ht
  rcases C t ht with ⟨rfl, e⟩ | ⟨_, _, e⟩ | ⟨_, _, e⟩ <;> rw [e]
  ·rw [hb, List.length_cons] at q; show r.length ≤ 8; omega
  ·exact q
  ·exact q
 ·intro t' ht' h
  obtain ⟨t, ht, rfl⟩ := List.mem_map.1 ht'
  rw [(K t).2.2.1] at h
  rcases C t ht with ⟨rfl, e⟩ | ⟨_, _, e⟩ | ⟨_, _, e⟩
  ·exact absurd hs2 h
  ·rw [e]; exact G.bst t ht h
  ·rw [e]; exact G.bst t ht h
 ·intro t' ht'
  obtain ⟨t, ht, rfl⟩ := List.mem_map.1 ht'
  rcases C t ht with ⟨rfl, e⟩ | ⟨_, _, e⟩ | ⟨_, _, e⟩ <;> rw [e]
  ·exact nd.2
  ·exact G.bnd t ht
  ·exact G.bnd t ht
 ·intro t' ht' x hx
  obtain ⟨t, ht, rfl⟩ := List.mem_map.1 ht'
  obtain ⟨hx, hne⟩ := B t ht x hx
  obtain ⟨u, hu, e1, e2, e3, e4⟩ := G.bc t ht x hx
  refine ⟨a55 t0.Id c r u, List.mem_map_of_mem hu, by rw [(K u).1]; exact e1, by rw [(K u).2.1, (K t).2.1]; exact e2, ?_, by rw [(K u).2.2.1]; exact e4⟩
  rcases C u hu with ⟨rfl, e⟩ | ⟨_, q, e⟩ | ⟨_, _, e⟩
  ·omega
  ·exact absurd (e1 ▸ q) hne
  ·rw [e]; exact e3
 ·intro t' ht' h3
  obtain ⟨t, ht, rfl⟩ := List.mem_map.1 ht'
  rw [(K t).2.2.1] at h3
  obtain ⟨p, hp, e1, e2, e3, e4⟩ := G.pe t ht h3
  exact ⟨a55 t0.Id c r p, List.mem_map_of_mem hp, by rw [(K p).1, (K t).2.2.2.1]; exact e1, by rw [(K t).1, (K t).2.2.2.1]; exact e2, by rw [(K p).2.2.1]; exact e3, by rw [(K p).2.2.2.1, (K t).1]; exact e4⟩
 ·intro t' ht' h3
  obtain ⟨t, ht, rfl⟩ := List.mem_map.1 ht'
  rw [(K t).2.2.2.1]; rw [(K t).2.2.1] at h3; exact G.p0 t ht h3
 ·intro t' ht' h2
  obtain ⟨t, ht, rfl⟩ := List.mem_map.1 ht'
  rw [(K t).2.2.2.2, (K t).2.1]; rw [(K t).2.2.1] at h2; exact G.an t ht h2
 ·intro t' ht' x' hx' h2 x2
  obtain ⟨t, ht, rfl⟩ := List.mem_map.1 ht'
  obtain ⟨x, hx, rfl⟩ := List.mem_map.1 hx'
  rw [(K t).2.2.1] at h2; rw [(K x).2.2.1] at x2
  rw [(K t).2.1, (K x).2.1, (K t).2.2.2.2, (K x).2.2.2.2, (K t).1, (K x).1]
  exact G.au t ht x hx h2 x2
 ·intro t' ht' ho
  obtain ⟨t, ht, rfl⟩ := List.mem_map.1 ht'
  have hne : t.Id ≠ c ∧ t.Opens = 0 := by
   rcases C t ht with ⟨rfl, e⟩ | ⟨_, q, e⟩ | ⟨_, q, e⟩ <;> rw [e] at ho
   ·refine ⟨fun q => ?_, ho⟩
    have := hci _ ht q; omega
   ·exact absurd (show (1 : Int) = 0 from ho) (by decide)
   ·exact ⟨q, ho⟩
  obtain ⟨x, hx, hm⟩ := G.w1 t ht hne.2
  refine ⟨a55 t0.Id c r x, List.mem_map_of_mem hx, ?_⟩
  rw [(K t).1]
  rcases C x hx with ⟨rfl, e⟩ | ⟨_, q, e⟩ | ⟨_, q, e⟩ <;> rw [e]
  ·rw [hb] at hm
   rcases List.mem_cons.1 hm with q | q
   ·exact absurd q hne.1
   ·exact q
  ·exact hm
  ·exact hm
 ·intro x' hx' y' hy' d hcx hcy
  obtain ⟨x, hx, rfl⟩ := List.mem_map.1 hx'
  obtain ⟨y, hy, rfl⟩ := List.mem_map.1 hy'
  rw [(K x).1, (K y).1]; exact G.w2 x hx y hy d (B x hx d hcx).1 (B y hy d hcy).1
def opT (nx : Int) (a b : aa3) (t : aa0) : aa0 := { t with State := 3, Local := b, Remote := a, Peer := nx }
def aR1 (i k nx : Int) (a b : aa3) (t : aa0) : aa0 := if t.Id = i then opT nx a b t else if t.Id = k then { t with Backlog := t.Backlog ++ [nx] } else t
def a78 (nx i : Int) (b : aa3) (s : aa0) : aa0 := aa0.mk nx s.Host s.Owner 3 s.Local b i [] [] 0
theorem GoodT.con {l : List aa0} (G : GoodT l) {nx : Int} (hn : ∀ t ∈ l, t.Id < nx) {ti tk : aa0} (hi : ti ∈ l) (hk : tk ∈ l) (si : ti.State = 1) (sk : tk.State = 2) (hb : tk.Backlog.length < 8) (a b : aa3) :
  GoodT (l.map (aR1 ti.Id tk.Id nx a b) ++ [a78 nx ti.Id b tk]) := by
 have hik : tk.Id ≠ ti.Id := fun e => by rw [af1 G.inc tk hk ti hi e] at sk; omega
 have C : ∀ t ∈ l, (t = ti ∧ aR1 ti.Id tk.Id nx a b t = opT nx a b ti) ∨ (t = tk ∧ t.Id ≠ ti.Id ∧ aR1 ti.Id tk.Id nx a b t = { tk with Backlog := tk.Backlog ++ [nx] }) ∨ (t.Id ≠ ti.Id ∧ t.Id ≠ tk.Id ∧ aR1 ti.Id tk.Id nx a b t = t) := by
  intro t ht
  unfold aR1
  by_cases h1 : t.Id = ti.Id
  ·have := af1 G.inc t ht ti hi h1; subst this; left; rw [if_pos rfl]; exact ⟨rfl, rfl⟩
  ·by_cases h2 : t.Id = tk.Id
   ·have := af1 G.inc t ht tk hk h2; subst this; right; left; rw [if_neg h1, if_pos rfl]; exact ⟨rfl, h1, rfl⟩
   ·right; right; rw [if_neg h1, if_neg h2]; exact ⟨h1, h2, rfl⟩
 have K : ∀ t, (aR1 ti.Id tk.Id nx a b t).Id = t.Id ∧ (aR1 ti.Id tk.Id nx a b t).Host = t.Host ∧ (aR1 ti.Id tk.Id nx a b t).Opens = t.Opens := by
  intro t; unfold aR1 opT; split
  ·exact ⟨rfl, rfl, rfl⟩
  ·split <;> exact ⟨rfl, rfl, rfl⟩
 have hnb : ∀ t ∈ l, nx ∉ t.Backlog := by
  intro t ht q
  obtain ⟨u, hu, e, _⟩ := G.bc t ht nx q
  have := hn u hu; omega
 have B : ∀ t ∈ l, ∀ x ∈ (aR1 ti.Id tk.Id nx a b t).Backlog, x ∈ t.Backlog ∨ (t = tk ∧ x = nx) := by
  intro t ht x hx
  rcases C t ht with ⟨rfl, e⟩ | ⟨rfl, _, e⟩ | ⟨_, _, e⟩ <;> rw [e] at hx
  ·exact .inl hx
  ·have hx : x ∈ t.Backlog ++ [nx] := hx
   rcases List.mem_append.1 hx with hx | hx
   ·exact .inl hx
   ·exact .inr ⟨rfl, List.mem_singleton.1 hx⟩
  ·exact .inl hx
 have B' : ∀ t ∈ l, ∀ x ∈ t.Backlog, x ∈ (aR1 ti.Id tk.Id nx a b t).Backlog := by
  intro t ht x hx
  rcases C t ht with ⟨rfl, e⟩ | ⟨rfl, _, e⟩ | ⟨_, _, e⟩ <;> rw [e]
  ·exact hx
  ·exact List.mem_append_left _ hx
  ·exact hx
 have M : ∀ t', t' ∈ l.map (aR1 ti.Id tk.Id nx a b) ++ [a78 nx ti.Id b tk] → (∃ t ∈ l, aR1 ti.Id tk.Id nx a b t = t') ∨ t' = a78 nx ti.Id b tk := by
  intro t' h
  rcases List.mem_append.1 h with h | h
  ·exact .inl (List.mem_map.1 h)
  ·exact .inr (List.mem_singleton.1 h)
 have I : ∀ {t}, t ∈ l → aR1 ti.Id tk.Id nx a b t ∈ l.map (aR1 ti.Id tk.Id nx a b) ++ [a78 nx ti.Id b tk] := fun h => List.mem_append_left _ (List.mem_map_of_mem h)
 have J : a78 nx ti.Id b tk ∈ l.map (aR1 ti.Id tk.Id nx a b) ++ [a78 nx ti.Id b tk] := List.mem_append_right _ (by simp)
 refine { inc := ?_, rng := ?_, blen := ?_, bst := ?_, bnd := ?_, bc := ?_, pe := ?_, p0 := ?_, an := ?_, au := ?_, w1 := ?_, w2 := ?_ }
 ·rw [List.pairwise_append]
  refine ⟨aM3 (fun t => (K t).1) G.inc, List.pairwise_singleton _ _, fun x hx y hy => ?_⟩
  obtain ⟨t, ht, rfl⟩ := List.mem_map.1 hx
  rw [List.mem_singleton.1 hy, (K t).1]; exact hn t ht
 ·intro t' h
  rcases M t' h with ⟨t, ht, rfl⟩ | rfl
  ·have q := G.rng t ht
   rcases C t ht with ⟨rfl, e⟩ | ⟨rfl, _, e⟩ | ⟨_, _, e⟩ <;> rw [e]
   ·exact ⟨by show (1 : Int) ≤ 3; decide, by show (3 : Int) ≤ 4; decide, q.o0, q.o9, q.dt, q.ow, fun h => absurd (show (3 : Int) ≤ 2 from h) (by decide)⟩
   ·exact ⟨q.s1, q.s4, q.o0, q.o9, q.dt, q.ow, q.d0⟩
   ·exact q
  ·exact ⟨by show (1 : Int) ≤ 3; decide, by show (3 : Int) ≤ 4; decide, by show (0 : Int) ≤ 0; decide, by show (0 : Int) ≤ 9007199254740991; decide, Nat.zero_le _, (G.rng tk hk).ow, fun _ => rfl⟩
 ·intro t' h
  rcases M t' h with ⟨t, ht, rfl⟩ | rfl
  ·have q := G.blen t ht
   rcases C t ht with ⟨rfl, e⟩ | ⟨rfl, _, e⟩ | ⟨_, _, e⟩ <;> rw [e]
   ·exact q
   ·show (t.Backlog ++ [nx]).length ≤ 8; simp; omega
   ·exact q
  ·exact Nat.zero_le _
 ·intro t' h hs
  rcases M t' h with ⟨t, ht, rfl⟩ | rfl
  ·rcases C t ht with ⟨rfl, e⟩ | ⟨rfl, _, e⟩ | ⟨_, _, e⟩ <;> rw [e] at hs ⊢
   ·exact G.bst t ht (by omega)
   ·exact absurd sk hs
   ·exact G.bst t ht hs
  ·rfl
 ·intro t' h
  rcases M t' h with ⟨t, ht, rfl⟩ | rfl
  ·rcases C t ht with ⟨rfl, e⟩ | ⟨rfl, _, e⟩ | ⟨_, _, e⟩ <;> rw [e]
   ·exact G.bnd t ht
   ·show (t.Backlog ++ [nx]).Nodup
    rw [List.nodup_append]
    refine ⟨G.bnd t ht, by simp, fun x hx y hy => ?_⟩
    rw [List.mem_singleton.1 hy]
    exact fun q => hnb t ht (q ▸ hx)
   ·exact G.bnd t ht
  ·exact List.nodup_nil
 ·intro t' h c hc
  rcases M t' h with ⟨t, ht, rfl⟩ | rfl
  ·rcases B t ht c hc with hc | ⟨rfl, rfl⟩
   ·obtain ⟨u, hu, e1, e2, e3, e4⟩ := G.bc t ht c hc
    refine ⟨_, I hu, by rw [(K u).1]; exact e1, by rw [(K u).2.1, (K t).2.1]; exact e2, by rw [(K u).2.2]; exact e3, ?_⟩
    rcases C u hu with ⟨rfl, e⟩ | ⟨rfl, _, e⟩ | ⟨_, _, e⟩ <;> rw [e]
    ·exact .inl rfl
    ·exact e4
    ·exact e4
   ·exact ⟨_, J, rfl, by rw [(K t).2.1]; rfl, rfl, .inl rfl⟩
  ·cases hc
 ·intro t' h hs
  rcases M t' h with ⟨t, ht, rfl⟩ | rfl
  ·rcases C t ht with ⟨rfl, e⟩ | ⟨rfl, q, e⟩ | ⟨q, _, e⟩
   ·rw [e]
    exact ⟨_, J, rfl, by show nx ≠ t.Id; have := hn t ht; omega, rfl, rfl⟩
   ·rw [e] at hs; have hs : t.State = 3 := hs; omega
   ·rw [e] at hs ⊢
    obtain ⟨p, hp, e1, e2, e3, e4⟩ := G.pe t ht hs
    refine ⟨_, I hp, by rw [(K p).1]; exact e1, e2, ?_⟩
    rcases C p hp with ⟨rfl, e⟩ | ⟨rfl, _, e⟩ | ⟨_, _, e⟩ <;> rw [e]
    ·omega
    ·omega
    ·exact ⟨e3, e4⟩
  ·refine ⟨_, I hi, by rw [(K ti).1]; rfl, by show ti.Id ≠ nx; have := hn ti hi; omega, ?_⟩
   rcases C ti hi with ⟨_, e⟩ | ⟨_, q, e⟩ | ⟨q, _, e⟩
   ·rw [e]; exact ⟨rfl, rfl⟩
   ·exact absurd rfl q
   ·exact absurd rfl q
 ·intro t' h hs
  rcases M t' h with ⟨t, ht, rfl⟩ | rfl
  ·rcases C t ht with ⟨rfl, e⟩ | ⟨rfl, _, e⟩ | ⟨_, _, e⟩ <;> rw [e] at hs ⊢
   ·exact absurd rfl hs
   ·exact G.p0 t ht hs
   ·exact G.p0 t ht hs
  ·exact absurd rfl hs
 ·intro t' h hs
  rcases M t' h with ⟨t, ht, rfl⟩ | rfl
  ·rcases C t ht with ⟨rfl, e⟩ | ⟨rfl, _, e⟩ | ⟨_, _, e⟩ <;> rw [e] at hs ⊢
   ·exact absurd (show (3 : Int) = 2 from hs) (by decide)
   ·exact G.an t ht hs
   ·exact G.an t ht hs
  ·exact absurd (show (3 : Int) = 2 from hs) (by decide)
 ·intro t' h x' hx' hs hs'
  have key : ∀ t ∈ l, (aR1 ti.Id tk.Id nx a b t).State = 2 → t.State = 2 ∧ (aR1 ti.Id tk.Id nx a b t).Local = t.Local := by
   intro t ht h2
   rcases C t ht with ⟨rfl, e⟩ | ⟨rfl, _, e⟩ | ⟨_, _, e⟩ <;> rw [e] at h2 ⊢
   ·exact absurd (show (3 : Int) = 2 from h2) (by decide)
   ·exact ⟨h2, rfl⟩
   ·exact ⟨h2, rfl⟩
  rcases M t' h with ⟨t, ht, rfl⟩ | rfl
  ·rcases M x' hx' with ⟨x, hx, rfl⟩ | rfl
   ·obtain ⟨q1, q2⟩ := key t ht hs
    obtain ⟨r1, r2⟩ := key x hx hs'
    rw [q2, r2, (K t).2.1, (K x).2.1, (K t).1, (K x).1]
    exact G.au t ht x hx q1 r1
   ·exact absurd (show (3 : Int) = 2 from hs') (by decide)
  ·exact absurd (show (3 : Int) = 2 from hs) (by decide)
 ·intro t' h h0
  rcases M t' h with ⟨t, ht, rfl⟩ | rfl
  ·rw [(K t).2.2] at h0
   obtain ⟨x, hx, hm⟩ := G.w1 t ht h0
   exact ⟨_, I hx, by rw [(K t).1]; exact B' x hx _ hm⟩
  ·refine ⟨_, I hk, ?_⟩
   rcases C tk hk with ⟨e0, _⟩ | ⟨_, _, e⟩ | ⟨_, q, e⟩
   ·exact absurd (congrArg aa0.Id e0) hik
   ·rw [e]; exact List.mem_append_right _ (by simp [a78])
   ·exact absurd rfl q
 ·intro x' hx' y' hy' c hcx hcy
  rcases M x' hx' with ⟨x, hx, rfl⟩ | rfl
  ·rcases M y' hy' with ⟨y, hy, rfl⟩ | rfl
   ·rw [(K x).1, (K y).1]
    rcases B x hx c hcx with q | ⟨q, e⟩ <;> rcases B y hy c hcy with q' | ⟨q', e'⟩
    ·exact G.w2 x hx y hy c q q'
    ·exact absurd (e' ▸ q) (hnb x hx)
    ·exact absurd (e ▸ q') (hnb y hy)
    ·rw [q, q']
   ·cases hcy
  ·cases hcx
theorem aA7 {n : aa1} (h : Mod n) : af7 n = some n := by
 have hdb := h.db
 have hl := h.len
 have hT : aq2 n n.Db = some n := by
  unfold aq2 ab9
  rw [ag4 (by simp; omega) (by simp; omega), Option.bind_some, Option.bind_some]
  show ae5 (fun s => ah1 n n.Db n.Talks s.1 s.2) (0, n.Talks) = some n
  refine af8 (σ := Unit) (τ := Int × List aa0) n.Talks.length (fun _ i => (i, n.Talks)) _ (fun _ _ => n) (fun _ _ => True) (s0 := ()) trivial (fun s i hi _ => ?_) (fun s _ => ?_)
  ·left
   refine ⟨(), ?_, rfl, trivial⟩
   show ah1 n n.Db n.Talks (i : Int) n.Talks = _
   unfold ah1 ac6
   have hb := h.bl _ (List.getElem_mem hi)
   have c1 : aD4 8 ([] : List Int) n.Talks[i].Backlog = some n.Talks[i].Backlog := by rw [ag4 (by simp; omega) (by simp; omega)]; rfl
   have hs : List.set n.Talks i n.Talks[i] = n.Talks := List.set_getElem_self hi
   have hs' : List.set n.Talks i (aa0.mk n.Talks[i].Id n.Talks[i].Host n.Talks[i].Owner n.Talks[i].State n.Talks[i].Local n.Talks[i].Remote n.Talks[i].Peer n.Talks[i].Data n.Talks[i].Backlog n.Talks[i].Opens) = n.Talks := hs
   simp only [dlt hi, if_true, ac1 hi, Option.bind_some, c1, Int.toNat_natCast, hs', ad2 (show i < 9223372036854775807 by omega)]
  ·show ah1 n n.Db n.Talks _ n.Talks = _
   unfold ah1
   simp
 unfold af7 ab1
 have h3 := hdb.1
 rw [ag4 (by simp; omega) (by simp; omega), Option.bind_some, Option.bind_some]
 show ae5 (fun s => ai0 n n.Db s.1 s.2) (0, n.Db) = some n
 refine af8 (σ := Unit) (τ := Int × List aa2) n.Db.length (fun _ i => (i, n.Db)) _ (fun _ _ => n) (fun _ _ => True) (s0 := ()) trivial (fun s i hi _ => ?_) (fun s _ => ?_)
 ·left
  refine ⟨(), ?_, rfl, trivial⟩
  show ai0 n n.Db (i : Int) n.Db = _
  unfold ai0 ab8
  have hb := (hdb.2 _ (List.getElem_mem hi)).1
  have c1 : aD4 40 ([] : List aa4) n.Db[i].Attrs = some n.Db[i].Attrs := by rw [ag4 (by simp; omega) (by simp; omega)]; rfl
  have hs : List.set n.Db i n.Db[i] = n.Db := List.set_getElem_self hi
  have hs' : List.set n.Db i (aa2.mk n.Db[i].Attrs) = n.Db := hs
  simp only [dlt hi, if_true, ac1 hi, Option.bind_some, c1, Int.toNat_natCast, hs', ad2 (show i < 9223372036854775807 by omega)]
 ·show ai0 n n.Db _ n.Db = _
  unfold ai0
  simp [hT]
structure Inv (l : List aa0) : Prop where
 inc : l.Pairwise fun a b => a.Id < b.Id
 len : l.length ≤ 100000
 bl : ∀ t ∈ l, t.Backlog.length ≤ 100000
 pe : ∀ t ∈ l, t.State = 3 → ∃ p ∈ l, p.Id = t.Peer ∧ t.Peer ≠ t.Id ∧ p.State = 3 ∧ p.Peer = t.Id
theorem Good.inv {n : aa1} (g : Good n) : Inv n.Talks := ⟨g.tk.inc, by have := g.len; omega, fun t h => by have := g.tk.blen t h; omega, g.tk.pe⟩
theorem Inv.cut {l : List aa0} (I : Inv l) (R : List Int) : Inv (cutS l R) := by
 have K := ah5 R
 have M : ∀ t', t' ∈ cutS l R ↔ ∃ t ∈ l, t.Id ∉ R ∧ hg1 R t = t' := by
  intro t'
  unfold cutS dpL hgL
  simp only [List.mem_filter, List.mem_map, decide_eq_true_eq]
  constructor
  ·rintro ⟨⟨t, h1, rfl⟩, h2⟩; exact ⟨t, h1, by rw [← (K t).1]; exact h2, rfl⟩
  ·rintro ⟨t, h1, h2, rfl⟩; exact ⟨⟨t, h1, rfl⟩, by rw [(K t).1]; exact h2⟩
 refine ⟨(aM3 (fun t => (K t).1) I.inc).filter _, ?_, ?_, ?_⟩
 ·unfold cutS dpL hgL
  exact Nat.le_trans (List.length_filter_le _ _) (by rw [List.length_map]; exact I.len)
 ·intro t' h
  obtain ⟨t, ht, _, rfl⟩ := (M t').1 h
  rw [(K t).2.2.2.2.2.2.1]; exact I.bl t ht
 ·intro t' h h3
  obtain ⟨t, ht, hr, rfl⟩ := (M t').1 h
  rcases aE5 R t with ⟨q, s, _⟩ | ⟨q, e⟩
  ·omega
  rw [e] at h3 ⊢
  obtain ⟨p, hp, e1, e2, e3, e4⟩ := I.pe t ht h3
  have hp' : p.Id ∉ R := fun q' => q ⟨h3, .inr (e1 ▸ q')⟩
  refine ⟨hg1 R p, (M _).2 ⟨p, hp, hp', rfl⟩, ?_⟩
  rcases aE5 R p with ⟨q', s, _⟩ | ⟨_, e'⟩
  ·exfalso
   rcases q'.2 with q' | q'
   ·exact hp' q'
   ·exact hr (e4 ▸ q')
  ·rw [e']; exact ⟨e1, e2, e3, e4⟩
theorem cb1 (l : List aa0) (R : List Int) (c : Int) : cutS (cutS l R) [c] = cutS l (R ++ [c]) := by
 induction l with
 | nil => rfl
 | cons t r ih =>
  have hc : ∀ (R : List Int) (t : aa0) (r : List aa0), cutS (t :: r) R = if t.Id ∉ R then hg1 R t :: cutS r R else cutS r R := by
   intro R t r
   unfold cutS dpL hgL
   rw [List.map_cons, List.filter_cons]
   simp only [(ah5 R t).1, decide_eq_true_eq]
  rw [hc, hc]
  by_cases h1 : t.Id ∈ R
  ·simp [h1, ih]
  ·rw [if_pos h1, hc, (ah5 R t).1]
   by_cases h2 : t.Id = c
   ·simp [h2, ih]
   ·have e1 : t.Id ∉ [c] := by simpa using h2
    have e2 : t.Id ∉ R ++ [c] := by simp [h1, h2]
    rw [if_pos e1, if_pos e2, ih]
    congr 1
    unfold hg1 hgT
    by_cases h3 : t.State = 3
    ·by_cases h4 : t.Peer ∈ R
     ·simp [h3, h1, h2, h4]
     ·by_cases h5 : t.Peer = c
      ·have h6 : c ∉ R := h5 ▸ h4
       simp [h3, h1, h2, h5, h6]
      ·simp [h3, h1, h2, h4, h5]
    ·simp [h3]
theorem aG9 {f : aa0 → aa0} : ∀ {l : List aa0} {i : Nat} {t : aa0}, (l.Pairwise fun a b => a.Id < b.Id) → l[i]? = some t → l.set i (f t) = upT l t.Id f
 | [], i, t, _, h => by simp at h
 | a :: r, 0, t, hi, h => by
  obtain rfl := Option.some.inj h
  unfold upT
  rw [List.set_cons_zero, List.map_cons, if_pos rfl]
  congr 1
  symm
  conv => rhs; rw [← List.map_id r]
  apply List.map_congr_left
  intro y hy
  have := (List.pairwise_cons.1 hi).1 y hy
  rw [if_neg (by omega)]; rfl
 | a :: r, i + 1, t, hi, h => by
  have h' : r[i]? = some t := by simpa using h
  unfold upT
  have hm : t ∈ r := List.mem_of_getElem? h'
  have := (List.pairwise_cons.1 hi).1 t hm
  rw [List.set_cons_succ, List.map_cons, if_neg (by omega), aG9 (List.pairwise_cons.1 hi).2 h']; rfl
theorem aY2 {α : Type} {l : List α} {i : Nat} {x : α} (h : i < l.length) : ad5 (l.set i x) (i : Int) = some x := ak1 (by rw [List.getElem?_set_self h])
theorem bm3 {l : List aa0} {id : Int} {f : aa0 → aa0} (hf : ∀ t, (f t).Id = t.Id) (h : l.Pairwise fun a b => a.Id < b.Id) : (upT l id f).Pairwise fun a b => a.Id < b.Id := by
 unfold upT
 refine aM3 (fun t => ?_) h
 split
 ·exact hf t
 ·rfl
theorem ch7 {l : List aa0} {id : Int} {f : aa0 → aa0} {i : Nat} {t : aa0} (h : l[i]? = some t) : (upT l id f)[i]? = some (if t.Id = id then f t else t) := by
 unfold upT; rw [List.getElem?_map, h]; rfl
theorem b57 : ∀ {l : List aa0} {i : Nat} {t : aa0}, (l.Pairwise fun a b => a.Id < b.Id) → l[i]? = some t → l.take i ++ l.drop (i + 1) = dpL l [t.Id]
 | [], i, t, _, h => by simp at h
 | a :: r, 0, t, hi, h => by
  obtain rfl := Option.some.inj h
  unfold dpL
  rw [List.take_zero, List.drop_succ_cons, List.drop_zero, List.nil_append, List.filter_cons_of_neg (by simp)]
  symm
  rw [List.filter_eq_self]
  intro y hy
  have := (List.pairwise_cons.1 hi).1 y hy
  simp; omega
 | a :: r, i + 1, t, hi, h => by
  have h' : r[i]? = some t := by simpa using h
  have hm : t ∈ r := List.mem_of_getElem? h'
  have := (List.pairwise_cons.1 hi).1 t hm
  unfold dpL
  rw [List.take_succ_cons, List.drop_succ_cons, List.cons_append, List.filter_cons_of_pos (by simp; omega), b57 (List.pairwise_cons.1 hi).2 h']; rfl
theorem bg2 {l : List aa0} (I : Inv l) {c : Int} (h : ∀ t ∈ l, t.Id = c → t.State ≠ 3) : hgL l [c] = l := by
 unfold hgL
 conv => rhs; rw [← List.map_id l]
 apply List.map_congr_left
 intro t ht
 rcases aE5 [c] t with ⟨⟨q1, q2⟩, _⟩ | ⟨_, e⟩
 ·exfalso
  rcases q2 with q2 | q2
  ·exact h t ht (by simpa using q2) q1
  ·obtain ⟨p, hp, e1, e2, e3, e4⟩ := I.pe t ht q1
   exact h p hp (by rw [e1]; simpa using q2) e3
 ·rw [e]; rfl
theorem cb2 {l : List aa0} (I : Inv l) {t p : aa0} (ht : t ∈ l) (hp : p ∈ l) (h3 : t.State = 3) (e1 : p.Id = t.Peer) (e2 : t.Peer ≠ t.Id) (e3 : p.State = 3) (e4 : p.Peer = t.Id) : upT (upT l p.Id hgT) t.Id hgT = hgL l [t.Id] := by
 unfold upT hgL
 rw [List.map_map]
 apply List.map_congr_left
 intro x hx
 show (if (if x.Id = p.Id then hgT x else x).Id = t.Id then hgT (if x.Id = p.Id then hgT x else x) else (if x.Id = p.Id then hgT x else x)) = hg1 [t.Id] x
 unfold hg1
 by_cases q1 : x.Id = t.Id
 ·have := af1 I.inc x hx t ht q1; subst this
  have q2 : x.Id ≠ p.Id := by omega
  rw [if_neg q2, if_pos rfl, if_pos ⟨h3, .inl (by simp)⟩]
 ·by_cases q2 : x.Id = p.Id
  ·have := af1 I.inc x hx p hp q2; subst this
   rw [if_pos rfl, if_neg (by show ¬ x.Id = t.Id; exact q1), if_pos ⟨e3, .inr (by simp [e4])⟩]
  ·rw [if_neg q2, if_neg q1, if_neg]
   rintro ⟨q3, q4⟩
   rcases q4 with q4 | q4
   ·exact q1 (by simpa using q4)
   ·have q4 : x.Peer = t.Id := by simpa using q4
    obtain ⟨y, hy, f1, f2, f3, f4⟩ := I.pe x hx q3
    have := af1 I.inc y hy t ht (by omega); subst this
    exact q2 (by omega)
theorem b58 {n : aa1} {L : List aa0} (hi : L.Pairwise fun a b => a.Id < b.Id) {i : Nat} {t : aa0} (h : L[i]? = some t) : aj5 n (i : Int) L = some (aa1.mk n.Db n.Next (upT L t.Id hgT)) := by
 unfold aj5
 have hlt : i < L.length := (List.getElem?_eq_some_iff.1 h).1
 rw [ak1 h, Option.bind_some, Int.toNat_natCast, aY2 hlt, Option.bind_some, List.set_set]
 have := aG9 (f := hgT) hi h
 rw [← this]; rfl
theorem cb3 {n : aa1} {L : List aa0} (hi : L.Pairwise fun a b => a.Id < b.Id) {i : Nat} {t : aa0} (h : L[i]? = some t) : an4 n (i : Int) L = some (aa1.mk n.Db n.Next (upT L t.Id hgT)) := b58 hi h
theorem bm4 {n : aa1} (I : Inv n.Talks) {t : aa0} (ht : t ∈ n.Talks) (h3 : t.State = 3) {K : Int → List aa0 → Option aa1}
  (hK : ∀ {L : List aa0} {i : Nat} {t : aa0}, (L.Pairwise fun a b => a.Id < b.Id) → L[i]? = some t → K (i : Int) L = some (aa1.mk n.Db n.Next (upT L t.Id hgT))) {i : Nat} (hi : n.Talks[i]? = some t) :
  ((af6 n t.Peer).bind fun x8 => if (decide (0 ≤ x8)) = true then (ad5 n.Talks x8).bind fun x10 => (ad5 (List.set n.Talks (Int.toNat x8) (aa0.mk x10.Id x10.Host x10.Owner 4 x10.Local x10.Remote x10.Peer x10.Data x10.Backlog x10.Opens)) x8).bind fun x11 => K (i : Int) (List.set (List.set n.Talks (Int.toNat x8) (aa0.mk x10.Id x10.Host x10.Owner 4 x10.Local x10.Remote x10.Peer x10.Data x10.Backlog x10.Opens)) (Int.toNat x8) (aa0.mk x11.Id x11.Host x11.Owner x11.State x11.Local x11.Remote 0 x11.Data x11.Backlog x11.Opens)) else K (i : Int) n.Talks) = some (aa1.mk n.Db n.Next (hgL n.Talks [t.Id])) := by
 obtain ⟨p, hp, e1, e2, e3, e4⟩ := I.pe t ht h3
 have hf : fdT n.Talks t.Peer = some p := by rw [← e1]; exact bu1 I.inc hp
 obtain ⟨k, k1, k2, k3, k4⟩ := as8 hf
 have h0 : decide ((0 : Int) ≤ (k : Int)) = true := by simp
 rw [aG6 I.len, Option.bind_some, k2]
 simp only [h0, if_true, ak1 k3, Option.bind_some, Int.toNat_natCast, aY2 k1, List.set_set]
 have e : List.set n.Talks k (aa0.mk p.Id p.Host p.Owner 4 p.Local p.Remote 0 p.Data p.Backlog p.Opens) = upT n.Talks p.Id hgT := aG9 (f := hgT) I.inc k3
 rw [e]
 have hii : (upT n.Talks p.Id hgT)[i]? = some t := by rw [ch7 hi, if_neg (by omega)]
 rw [hK (bm3 (f := hgT) (fun _ => rfl) I.inc) hii, cb2 I ht hp h3 e1 e2 e3 e4]
theorem cb4 (n : aa1) : aa1.mk n.Db n.Next n.Talks = n := rfl
theorem b15 {n : aa1} (I : Inv n.Talks) {t : aa0} (ht : t ∈ n.Talks) (h2 : t.State ≠ 2) : as6 n t.Id = some (aa1.mk n.Db n.Next (hgL n.Talks [t.Id])) := by
 obtain ⟨i, i1, i2, i3, i4⟩ := as8 (bu1 I.inc ht)
 unfold as6
 rw [aG6 I.len, Option.bind_some, i2, ak1 i3, Option.bind_some]
 by_cases h3 : t.State = 3
 ·rw [if_pos (by simp [h3])]
  exact bm4 I ht h3 (fun hi h => b58 hi h) i3
 ·rw [if_neg (by simp [h3]), if_neg (by simp [h2]), bg2 I (fun x hx e => by rw [af1 I.inc x hx t ht e]; exact h3)]
theorem bR9 {l : List aa0} (I : Inv l) {c : Int} (h : ∀ t ∈ l, t.Id ≠ c) : cutS l [c] = l := by
 unfold cutS
 rw [bg2 I (fun t ht e => absurd e (h t ht))]
 unfold dpL
 rw [List.filter_eq_self]
 intro t ht; simpa using h t ht
theorem bS0 {n : aa1} {L : List aa0} (hl : L.length ≤ 100000) (hi : L.Pairwise fun a b => a.Id < b.Id) {t : aa0} (ht : t ∈ L) :
  ((af6 (aa1.mk n.Db n.Next L) t.Id).bind fun x4 => (ac0 (aa1.mk n.Db n.Next L).Talks x4 (IntKind.wrap .i64 (x4 + 1))).bind fun x5 => some (aa1.mk (aa1.mk n.Db n.Next L).Db (aa1.mk n.Db n.Next L).Next x5)) = some (aa1.mk n.Db n.Next (dpL L [t.Id])) := by
 obtain ⟨i, i1, i2, i3, i4⟩ := as8 (bu1 hi ht)
 rw [aG6 (n := aa1.mk n.Db n.Next L) hl, Option.bind_some]
 show ((ac0 L (ixT L t.Id) (IntKind.wrap .i64 (ixT L t.Id + 1))).bind fun x5 => some (aa1.mk n.Db n.Next x5)) = _
 rw [i2, ad2 (by omega)]
 unfold ac0 delL
 rw [if_pos ⟨by omega, by omega, by omega⟩, Option.bind_some]
 have : Int.toNat ((i : Int) + 1) = i + 1 := by omega
 rw [this, Int.toNat_natCast, b57 hi i3]
theorem b16 {n : aa1} (I : Inv n.Talks) {c : Int} (h : ∀ t ∈ n.Talks, t.Id = c → t.State ≠ 2) : ao7 n c = some (aa1.mk n.Db n.Next (cutS n.Talks [c])) := by
 unfold ao7
 rw [aG6 I.len, Option.bind_some]
 cases hf : fdT n.Talks c with
 | none => rw [aQ9 hf, if_pos (by decide), bR9 I (bR8 hf)]
 | some t =>
  obtain ⟨ht, rfl⟩ := bm2 hf
  obtain ⟨i, i1, i2, i3, i4⟩ := as8 hf
  rw [i2, if_neg (by simp), b15 I ht (h t ht rfl), Option.bind_some]
  have hm : hg1 [t.Id] t ∈ hgL n.Talks [t.Id] := List.mem_map_of_mem ht
  have := bS0 (n := n) (L := hgL n.Talks [t.Id]) (by unfold hgL; rw [List.length_map]; exact I.len) (aM3 (fun t => (ah5 _ t).1) I.inc) hm
  rw [(ah5 [t.Id] t).1] at this
  exact this
theorem bS1 {n : aa1} (B : List Int) (L : List aa0) (I : Inv L) (hB : B.length ≤ 100000) (h : ∀ t ∈ L, t.Id ∈ B → t.State ≠ 2) {body : Int × (List aa2) × Int × (List aa0) → Option (Step (Int × (List aa2) × Int × (List aa0)) aa1)}
  (hb : ∀ (l : List aa0) i (h : i < B.length), body ((i : Int), n.Db, n.Next, l) = (ao7 (aa1.mk n.Db n.Next l) B[i]).bind fun x => some (.cont (IntKind.wrap .i64 ((i : Int) + 1), x.Db, x.Next, x.Talks))) (he : ∀ l, body ((B.length : Int), n.Db, n.Next, l) = some (.done (aa1.mk n.Db n.Next l))) :
  ae5 body (0, n.Db, n.Next, L) = some (aa1.mk n.Db n.Next (cutS L B)) := by
 have e0 : cutS L [] = L := by
  have e1 : hgL L [] = L := by
   unfold hgL
   conv => rhs; rw [← List.map_id L]
   apply List.map_congr_left
   intro t ht
   unfold hg1; simp
  unfold cutS; rw [e1]; unfold dpL; simp
 refine (af8 B.length (fun (_ : Unit) i => (i, n.Db, n.Next, cutS L (B.take i.toNat))) body (fun _ _ => aa1.mk n.Db n.Next (cutS L B)) (fun _ _ => True) (s0 := ()) trivial ?_ ?_ |> (fun h => by rw [← h]; simp [e0]))
 ·intro _ i hi _
  left
  refine ⟨(), ?_, rfl, trivial⟩
  rw [Int.toNat_natCast, hb _ i hi, b16 (n := aa1.mk n.Db n.Next (cutS L (B.take i))) (I.cut _) ?_, Option.bind_some]
  ·show some (Step.cont (IntKind.wrap .i64 ((i : Int) + 1), n.Db, n.Next, cutS (cutS L (B.take i)) [B[i]])) = _
   rw [cb1, ← List.take_succ_eq_append_getElem hi, ad2 (by omega)]
   rfl
  ·intro t' ht' e
   have ht' : t' ∈ cutS L (B.take i) := ht'
   unfold cutS dpL hgL at ht'
   obtain ⟨t, ht, rfl⟩ := List.mem_map.1 (List.mem_filter.1 ht').1
   rw [(ah5 _ t).1] at e
   have := h t ht (by rw [e]; exact List.getElem_mem hi)
   rcases aE5 (B.take i) t with ⟨_, s, _⟩ | ⟨_, e'⟩
   ·omega
   ·rw [e']; exact this
 ·intro _ _
  rw [Int.toNat_natCast, List.take_length, he]
theorem Inv.clear {l : List aa0} (I : Inv l) {id : Int} (h : ∀ t ∈ l, t.Id = id → t.State = 2) : Inv (upT l id clT) := by
 refine ⟨bm3 (fun _ => rfl) I.inc, by unfold upT; rw [List.length_map]; exact I.len, ?_, ?_⟩
 ·intro t' h'
  obtain ⟨t, ht, rfl⟩ := List.mem_map.1 h'
  rcases av1 id clT t with ⟨q, e⟩ | ⟨q, e⟩ <;> rw [e]
  ·exact Nat.zero_le _
  ·exact I.bl t ht
 ·intro t' h' h3
  obtain ⟨t, ht, rfl⟩ := List.mem_map.1 h'
  rcases av1 id clT t with ⟨q, e⟩ | ⟨q, e⟩ <;> rw [e] at h3 ⊢
  ·exact absurd (show (4 : Int) = 3 from h3) (by decide)
  ·obtain ⟨p, hp, e1, e2, e3, e4⟩ := I.pe t ht h3
   refine ⟨_, List.mem_map_of_mem hp, ?_⟩
   rcases av1 id clT p with ⟨q', e'⟩ | ⟨q', e'⟩ <;> rw [e']
   ·have := h p hp q'; omega
   ·exact ⟨e1, e2, e3, e4⟩
def hangS (l : List aa0) (t : aa0) : List aa0 := if t.State = 2 then cutS (upT l t.Id clT) t.Backlog else hgL l [t.Id]
def ch8 (l : List aa0) (t : aa0) : Prop := t.State = 2 → ∀ u ∈ l, u.Id ∈ t.Backlog → u.State ≠ 2
theorem b17 {n : aa1} (I : Inv n.Talks) {t : aa0} (ht : t ∈ n.Talks) (hw : ch8 n.Talks t) : as7 n t.Id = some (aa1.mk n.Db n.Next (hangS n.Talks t)) := by
 obtain ⟨i, i1, i2, i3, i4⟩ := as8 (bu1 I.inc ht)
 unfold as7 hangS
 rw [aG6 I.len, Option.bind_some, i2, ak1 i3, Option.bind_some]
 by_cases h3 : t.State = 3
 ·rw [if_pos (by simp [h3]), if_neg (by omega)]
  exact bm4 I ht h3 (fun hi h => cb3 hi h) i3
 ·rw [if_neg (by simp [h3])]
  by_cases h2 : t.State = 2
  ·rw [if_pos (by simp [h2]), if_pos h2, Int.toNat_natCast, aY2 i1, Option.bind_some, List.set_set]
   have e : List.set n.Talks i (aa0.mk t.Id t.Host t.Owner 4 t.Local t.Remote t.Peer t.Data ([] : List Int) t.Opens) = upT n.Talks t.Id clT := aG9 (f := clT) I.inc i3
   simp only [e]
   refine bS1 (n := n) t.Backlog (upT n.Talks t.Id clT) (I.clear (fun x hx q => by rw [af1 I.inc x hx t ht q]; exact h2)) (I.bl t ht) ?_ ?_ ?_
   ·intro u' hu' hm
    obtain ⟨u, hu, rfl⟩ := List.mem_map.1 hu'
    rcases av1 t.Id clT u with ⟨q, e⟩ | ⟨q, e⟩ <;> rw [e] at hm ⊢
    ·exact (by decide : (4 : Int) ≠ 2)
    ·exact hw h2 u hu hm
   ·intro l k hk
    simp only [am5, dlt hk, if_true, ac1 hk, Option.bind_some]
   ·intro l
    simp [am5]
  ·rw [if_neg (by simp [h2]), if_neg h2, bg2 I (fun x hx e => by rw [af1 I.inc x hx t ht e]; exact h3)]
theorem bS2 {l : List aa0} {R : List Int} {t' : aa0} : t' ∈ cutS l R ↔ ∃ t ∈ l, t.Id ∉ R ∧ hg1 R t = t' := by
 unfold cutS dpL hgL
 simp only [List.mem_filter, List.mem_map, decide_eq_true_eq]
 constructor
 ·rintro ⟨⟨t, h1, rfl⟩, h2⟩; exact ⟨t, h1, by rw [← (ah5 R t).1]; exact h2, rfl⟩
 ·rintro ⟨t, h1, h2, rfl⟩; exact ⟨⟨t, h1, rfl⟩, by rw [(ah5 R t).1]; exact h2⟩
theorem cb5 (l : List aa0) (R : List Int) : (cutS l R).length ≤ l.length := by
 unfold cutS dpL hgL
 exact Nat.le_trans (List.length_filter_le _ _) (by rw [List.length_map]; exact Nat.le_refl _)
theorem bz9 (l : List aa0) (id : Int) (f : aa0 → aa0) : (upT l id f).length = l.length := by unfold upT; rw [List.length_map]
theorem bA0 (R : List Int) (t : aa0) (r : List aa0) : cutS (t :: r) R = if t.Id ∉ R then hg1 R t :: cutS r R else cutS r R := by
 unfold cutS dpL hgL
 rw [List.map_cons, List.filter_cons]
 simp only [(ah5 R t).1, decide_eq_true_eq]
theorem bS3 {l : List aa0} {id : Int} {B : List Int} (h2 : ∀ t ∈ l, t.Id = id → t.State = 2) : cutS (upT l id clT) B = upT (cutS l B) id clT := by
 induction l with
 | nil => rfl
 | cons t r ih =>
  have ih := ih fun x hx => h2 x (List.mem_cons_of_mem _ hx)
  have h0 := h2 t (List.mem_cons_self ..)
  show cutS ((if t.Id = id then clT t else t) :: upT r id clT) B = _
  rw [bA0, bA0, ih]
  have e1 : (if t.Id = id then clT t else t).Id = t.Id := by split <;> rfl
  rw [e1]
  by_cases q : t.Id ∈ B
  ·rw [if_neg (by simp [q]), if_neg (by simp [q])]
  ·rw [if_pos q, if_pos q]
   show _ = (if (hg1 B t).Id = id then clT (hg1 B t) else hg1 B t) :: upT (cutS r B) id clT
   rw [(ah5 B t).1]
   congr 1
   by_cases q1 : t.Id = id
   ·have h4 : hg1 B (clT t) = clT t := by unfold hg1; rw [if_neg]; rintro ⟨q, _⟩; exact absurd (show (4 : Int) = 3 from q) (by decide)
    have h5 : hg1 B t = t := by unfold hg1; rw [if_neg]; rintro ⟨q, _⟩; have := h0 q1; omega
    rw [if_pos q1, if_pos q1, h4, h5]
   ·rw [if_neg q1, if_neg q1]
theorem GoodT.waits {l : List aa0} (G : GoodT l) {t : aa0} (ht : t ∈ l) : ch8 l t := by
 intro _ u hu hm
 obtain ⟨v, hv, e, _, _, q⟩ := G.bc t ht u.Id hm
 rw [af1 G.inc v hv u hu e] at q; omega
theorem GoodT.self {l : List aa0} (G : GoodT l) {t : aa0} (ht : t ∈ l) : t.Id ∉ t.Backlog := by
 intro hm
 have h2 : t.State = 2 := by
  apply Classical.byContradiction
  intro q; rw [G.bst t ht q] at hm; cases hm
 exact G.waits ht h2 t ht hm h2
theorem bA1 {l : List aa0} {R : List Int} {t : aa0} (h : t ∈ hgL l R) (hr : t.Id ∈ R) : t.State ≠ 3 := by
 unfold hgL at h
 obtain ⟨x, hx, rfl⟩ := List.mem_map.1 h
 rw [(ah5 R x).1] at hr
 rcases aE5 R x with ⟨_, s, _⟩ | ⟨q, e⟩
 ·omega
 ·rw [e]; exact fun h3 => q ⟨h3, .inl hr⟩
theorem GoodT.hangS {l : List aa0} (G : GoodT l) {t : aa0} (ht : t ∈ l) : GoodT (hangS l t) := by
 unfold Go.Proofs.YtpnaccnofbkhiaaGreatDoor.hangS
 by_cases h2 : t.State = 2
 ·rw [if_pos h2, bS3 (fun x hx q => by rw [af1 G.inc x hx t ht q]; exact h2)]
  have H := G.hang t.Backlog
  have K := ah5 t.Backlog
  refine H.drop t.Backlog t.Id (fun x hx hr => bA1 hx hr) ?_ ?_
  ·intro x' hx' e
   obtain ⟨x, hx, rfl⟩ := List.mem_map.1 hx'
   rw [(K x).1] at e
   have := af1 G.inc x hx t ht e; subst this
   unfold hg1; rw [if_neg (by rintro ⟨q, _⟩; omega)]; exact h2
  ·intro x' hx' c hc
   obtain ⟨x, hx, rfl⟩ := List.mem_map.1 hx'
   rw [(K x).2.2.2.2.2.2.1] at hc
   rw [(K x).1]
   constructor
   ·rintro (q | q)
    ·exfalso
     have s2 := G.waits ht h2 x hx q
     rw [G.bst x hx s2] at hc; cases hc
    ·have := af1 G.inc x hx t ht q; subst this; exact hc
   ·intro q; exact .inr (G.w2 x hx t ht c hc q)
 ·rw [if_neg h2]; exact G.hang _
theorem Inv.up {l : List aa0} (I : Inv l) {id : Int} {f : aa0 → aa0} (hf : ∀ t, (f t).Id = t.Id ∧ (f t).State = t.State ∧ (f t).Backlog = t.Backlog ∧ (f t).Peer = t.Peer) : Inv (upT l id f) := by
 let g : aa0 → aa0 := fun t => if t.Id = id then f t else t
 have K : ∀ t, (g t).Id = t.Id ∧ (g t).State = t.State ∧ (g t).Backlog = t.Backlog ∧ (g t).Peer = t.Peer := by
  intro t
  rcases av1 id f t with ⟨_, e⟩ | ⟨_, e⟩
  ·rw [show g t = f t from e]; exact hf t
  ·rw [show g t = t from e]; exact ⟨rfl, rfl, rfl, rfl⟩
 show Inv (l.map g)
 refine ⟨aM3 (fun t => (K t).1) I.inc, by rw [List.length_map]; exact I.len, ?_, ?_⟩
 ·intro t' h
  obtain ⟨t, ht, rfl⟩ := List.mem_map.1 h
  rw [(K t).2.2.1]; exact I.bl t ht
 ·intro t' h h3
  obtain ⟨t, ht, rfl⟩ := List.mem_map.1 h
  rw [(K t).2.1] at h3
  obtain ⟨p, hp, e1, e2, e3, e4⟩ := I.pe t ht h3
  exact ⟨g p, List.mem_map_of_mem hp, by rw [(K p).1, (K t).2.2.2]; exact e1, by rw [(K t).2.2.2, (K t).1]; exact e2, by rw [(K p).2.1]; exact e3, by rw [(K p).2.2.2, (K t).1]; exact e4⟩
theorem GoodT.cut {l : List aa0} (G : GoodT l) {t : aa0} (ht : t ∈ l) (ho : t.Opens ≠ 0) : GoodT (cutS l (t.Backlog ++ [t.Id])) := by
 have H := G.hang (t.Backlog ++ [t.Id])
 have K := ah5 (t.Backlog ++ [t.Id])
 have hneg : ∃ id : Int, ∀ x ∈ l, x.Id ≠ id := by
  cases hf : fdT l 0 with
  | none => exact ⟨0, bR8 hf⟩
  | some u =>
   refine ⟨(l.map (·.Id)).foldr max 0 + 1, fun x hx => ?_⟩
   have : ∀ (l : List Int) (x : Int), x ∈ l → x ≤ l.foldr max 0 := by
    intro l
    induction l with
    | nil => intro x h; cases h
    | cons a r ih =>
     intro x h
     rw [List.foldr_cons]
     rcases List.mem_cons.1 h with rfl | h
     ·omega
     ·have := ih x h; omega
   have := this (l.map (·.Id)) x.Id (List.mem_map_of_mem hx)
   omega
 obtain ⟨id, hid⟩ := hneg
 have hid' : ∀ x ∈ hgL l (t.Backlog ++ [t.Id]), x.Id ≠ id := by
  intro x' hx'
  obtain ⟨x, hx, rfl⟩ := List.mem_map.1 hx'
  rw [(K x).1]; exact hid x hx
 have := H.drop (t.Backlog ++ [t.Id]) id (fun x hx hr => bA1 hx hr) (fun x hx e => absurd e (hid' x hx)) ?_
 ·have e : upT (dpL (hgL l (t.Backlog ++ [t.Id])) (t.Backlog ++ [t.Id])) id clT = cutS l (t.Backlog ++ [t.Id]) := by
   show List.map _ (cutS l (t.Backlog ++ [t.Id])) = _
   conv => rhs; rw [← List.map_id (cutS l (t.Backlog ++ [t.Id]))]
   apply List.map_congr_left
   intro x hx
   rw [if_neg (hid' x (List.mem_filter.1 hx).1)]; rfl
  rw [← e]; exact this
 ·intro x' hx' c hc
  obtain ⟨x, hx, rfl⟩ := List.mem_map.1 hx'
  rw [(K x).2.2.2.2.2.2.1] at hc
  rw [(K x).1]
  simp only [List.mem_append, List.mem_singleton]
  constructor
  ·rintro ((q | q) | q)
   ·exfalso
    have h2 : t.State = 2 := by
     apply Classical.byContradiction
     intro h; rw [G.bst t ht h] at q; cases q
    have s2 := G.waits ht h2 x hx q
    rw [G.bst x hx s2] at hc; cases hc
   ·have := af1 G.inc x hx t ht q; subst this; exact .inl hc
   ·exact absurd q (hid x hx)
  ·rintro (q | q)
   ·exact .inl (.inr (G.w2 x hx t ht c hc q))
   ·exfalso
    obtain ⟨u, hu, e, _, h0, _⟩ := G.bc x hx c hc
    rw [af1 G.inc u hu t ht (by omega)] at h0; exact ho h0
theorem Good.mod {n : aa1} (g : Good n) (h : okX n.Db) : Mod n := ⟨h, by have := g.len; omega, fun t ht => by have := g.tk.blen t ht; omega⟩
structure TFile (n : aa1) (host : Str) (id : Int) (t : aa0) (i : Nat) (k : Int) : Prop where
 at_ : n.Talks[i]? = some t
 host : t.Host = host
 k0 : 0 ≤ k
 k6 : k ≤ 6
 id : id = 16 * t.Id + k
 id1 : 1 ≤ t.Id
 id2 : t.Id ≤ 1048575
theorem b59 {a k : Int} (ha : 1 ≤ a) (h0 : 0 ≤ k) (h6 : k ≤ 6) : Int.tdiv (16 * a + k) 16 = a ∧ Int.tmod (16 * a + k) 16 = k := by
 rw [Int.tdiv_eq_ediv_of_nonneg (by omega), Int.tmod_eq_emod_of_nonneg (by omega)]
 omega
def gr (a g : Int) : Bool := !decide ((IntKind.wrap .i64 ((BitVec.ofInt (IntKind.bits .i64) a &&& ~~~ (BitVec.ofInt (IntKind.bits .i64) g)).toNat : Nat)) = 0)
theorem bS4 {m b : Int} (hb : b = 16 ∨ b = 64) (w : -9223372036854775808 ≤ m ∧ m ≤ 9223372036854775807) : aK6 m b = some (decide (0 ≤ m) && decide (m / b % 2 = 1)) := by
 unfold aK6
 by_cases h : 0 ≤ m
 ·have hne : b ≠ 0 := by omega
  have e : IntKind.wrap .i64 (Int.tdiv m b) = m / b := by
   rw [Int.tdiv_eq_ediv_of_nonneg h]
   refine ah9 ?_ ?_ <;> rcases hb with rfl | rfl <;> omega
  have e2 : Int.tmod (m / b) 2 = m / b % 2 := Int.tmod_eq_emod_of_nonneg (by rcases hb with rfl | rfl <;> omega)
  simp only [h, decide_true, if_true, b84, if_neg hne, e, Option.bind_some, e2, Bool.true_and]
 ·simp [h]
theorem chk_p : (List.range 91).all (fun k => (aD9 ((k : Int) - 1)).isSome) = true := by decide +kernel
theorem b18 {m : Int} (w : -9223372036854775808 ≤ m ∧ m ≤ 9223372036854775807) : ∃ a e, aD9 m = some (a, e) := by
 by_cases h : -1 ≤ m ∧ m < 90
 ·have h1 := List.all_eq_true.1 chk_p (m + 1).toNat (List.mem_range.2 (by omega))
  rw [show (((m + 1).toNat : Nat) : Int) - 1 = m by omega] at h1
  obtain ⟨x, hx⟩ := Option.isSome_iff_exists.1 h1
  exact ⟨x.1, x.2, hx⟩
 refine ⟨0, 12, ?_⟩
 have k3 : ∀ p : Int, (p < 0 ∨ 3 < p) → av6 m p = some (0, 12) := by
  intro p hp
  unfold av6
  rw [if_pos (by simpa using hp)]
 unfold aD9 aB6
 simp only [bS4 (.inl rfl) w, bS4 (.inr rfl) w, Option.bind_some]
 by_cases h0 : 0 ≤ m
 ·simp only [h0, decide_true, Bool.true_and]
  rw [ah9 (n := m - 16) (by omega) (by omega), ah9 (n := m - 64) (by omega) (by omega), ah9 (n := m - 16 - 64) (by omega) (by omega)]
  split <;> split <;> apply k3 <;> omega
 ·simp only [h0, decide_false, Bool.false_and, Bool.false_eq_true, if_false]
  exact k3 m (.inl (by omega))
def bH3 (k : Int) : Int := if k = 0 then 2147484013 else if k ≤ 3 then 384 else 292
variable {n : aa1} {host : Str} {id k : Int} {t : aa0} {i : Nat}
theorem TFile.big (F : TFile n host id t i k) : 16 ≤ id ∧ id ≤ 16777206 := by
 have := F.id; have := F.id1; have := F.id2; have := F.k0; have := F.k6; omega
theorem TFile.tdiv (F : TFile n host id t i k) : IntKind.wrap .i64 (Int.tdiv id 16) = t.Id := by
 have h := (b59 F.id1 F.k0 F.k6).1
 rw [F.id, h]
 exact ah9 (by have := F.id1; omega) (by have := F.id2; omega)
theorem TFile.tmod (F : TFile n host id t i k) : Int.tmod id 16 = k := by
 rw [F.id]; exact (b59 F.id1 F.k0 F.k6).2
theorem TFile.isDir (F : TFile n host id t i k) : ac7 (ac2.mk id (i : Int) k) = some (decide (k = 0)) := by
 unfold ac7
 have h1 : ¬ id = 1 := by have := F.big; omega
 simp [h1]
theorem TFile.mode (F : TFile n host id t i k) : ai1 (ac2.mk id (i : Int) k) = some (bH3 k) := by
 have h := F.big
 have h3 : ¬ id = 3 := by omega
 unfold ai1 bH3
 rw [F.isDir, Option.bind_some]
 by_cases h0 : k = 0
 ·simp [h0]
 ·by_cases h4 : k ≤ 3 <;> simp [h0, h3, h4]
theorem TFile.fd (g : Good n) (F : TFile n host id t i k) : fdT n.Talks t.Id = some t := bu1 g.tk.inc (List.mem_of_getElem? F.at_)
theorem TFile.ix (g : Good n) (F : TFile n host id t i k) : ixT n.Talks t.Id = (i : Int) := by
 obtain ⟨j, j1, j2, j3, j4⟩ := as8 (F.fd g)
 rw [j2]
 have hi : i < n.Talks.length := (List.getElem?_eq_some_iff.1 F.at_).1
 by_cases e : i = j
 ·rw [e]
 ·exfalso
  have p := List.pairwise_iff_getElem.1 g.tk.inc
  have a1 := (List.getElem?_eq_some_iff.1 F.at_).2
  have a2 := (List.getElem?_eq_some_iff.1 j3).2
  rcases Nat.lt_or_gt_of_ne e with h | h
  ·have := p i j hi j1 h; rw [a1, a2] at this; omega
  ·have := p j i j1 hi h; rw [a1, a2] at this; omega
def ch9 (k : Int) : Str := if k = 1 then [99, 116, 108] else if k = 2 then [100, 97, 116, 97] else if k = 3 then [108, 105, 115, 116, 101, 110] else if k = 4 then [115, 116, 97, 116, 117, 115] else if k = 5 then [108, 111, 99, 97, 108] else [114, 101, 109, 111, 116, 101]
def cb6 (id k : Int) : Str := if k = 0 then Go.Lib.itoa id else ch9 k
theorem cb7 {x : Str} {k : Int} (h0 : 0 ≤ k) (h6 : k ≤ 6) : ad5 [x, [99, 116, 108], [100, 97, 116, 97], [108, 105, 115, 116, 101, 110], [115, 116, 97, 116, 117, 115], [108, 111, 99, 97, 108], [114, 101, 109, 111, 116, 101]] k = some (if k = 0 then x else ch9 k) := by
 rcases (by omega : k = 0 ∨ k = 1 ∨ k = 2 ∨ k = 3 ∨ k = 4 ∨ k = 5 ∨ k = 6) with rfl | rfl | rfl | rfl | rfl | rfl | rfl <;> rfl
theorem TFile.name (F : TFile n host id t i k) (j : Int) : as1 (ac2.mk id j k) = some (cb6 t.Id k) := by
 have h := F.big
 have h1 : ¬ id = 1 := by omega
 have h3 : ¬ id = 3 := by omega
 unfold as1 cb6
 simp only [h1, h3, decide_false, Bool.false_eq_true, if_false, F.tdiv]
 rw [aN7 (by have := F.id1; omega) (by have := F.id2; omega), Option.bind_some, cb7 F.k0 F.k6, Option.bind_some]
def dirT (id k : Int) (t : aa0) : aC2 := aC2.mk 7 0 (a34.mk (if k = 0 then 128 else 0) 0 id) (bH3 k) 0 0 0 (cb6 t.Id k) t.Owner t.Owner []
def dirC : aC2 := aC2.mk 7 0 (a34.mk 0 0 3) 438 0 0 0 [99, 108, 111, 110, 101] [] [] []
theorem bu2 (j : Int) : at8 n (ac2.mk 3 (-1) 0) = some dirC := rfl
theorem TFile.dirOf (F : TFile n host id t i k) : at8 n (ac2.mk id (i : Int) k) = some (dirT id k t) := by
 unfold at8 dirT
 rw [F.mode, F.name, F.isDir]
 have h0 : decide ((0 : Int) ≤ (i : Int)) = true := by simp
 simp only [Option.bind_some, au9, h0, if_true, ak1 F.at_]
 by_cases h : k = 0 <;> simp [h]
theorem Good.hl (g : Good n) : n.Talks.length ≤ 100000 := by have := g.len; omega
theorem TFile.look (g : Good n) (F : TFile n host id t i k) : ao6 n host id = some (ac2.mk id (i : Int) k, true) := by
 have h := F.big
 have h1 : ¬ id = 1 := by omega
 have h3 : ¬ id = 3 := by omega
 have h6 : decide (6 < k) = false := by have := F.k6; simp; omega
 have h16 : decide (id < 16) = false := by simp; omega
 unfold ao6
 simp only [h1, h3, decide_false, Bool.or_self, Bool.false_eq_true, if_false, h16, F.tmod, h6, F.tdiv, aG6 g.hl, F.ix g, Option.bind_some, ak1 F.at_, F.host]
 simp
theorem TFile.of (g : Good n) {t : aa0} {i : Nat} (h : n.Talks[i]? = some t) {k : Int} (h0 : 0 ≤ k) (h6 : k ≤ 6) : TFile n t.Host (16 * t.Id + k) t i k := by
 obtain ⟨r1, r2⟩ := g.idr t (List.mem_of_getElem? h)
 have := g.n9
 exact ⟨h, rfl, h0, h6, rfl, r1, by omega⟩
end Go.Proofs.YtpnaccnofbkhiaaGreatDoor
