import Derived.Test.YtiliognepodhnaaGreatDoorSA
namespace Go.Proofs.YtiliognepodhnaaGreatDoor
open Go.Vm
set_option autoImplicit false
set_option linter.unusedVariables false
set_option linter.unusedSimpArgs false
set_option maxRecDepth 100000
variable {a : aa2} {id : Int}
def agC (s : Str) (k : List aa1) (c : aa3) : aa2 := ⟨[97, 100, 109], s, [k], 2, [c], 1⟩
variable {s : Str} {k : List aa1} {c d : aa3}
structure One (c : aa3) : Prop where
 id : c.Id = 1
 fr : ar2 c = false
theorem aV5 (h : One c) : aI9 (agC s k c) 17 = 0 := by simp [aI9, agC, ixF, h.id]
theorem bD0 (h : One c) : cAt (agC s k c) 17 = c := by unfold cAt; rw [aV5 h]; rfl
theorem bI8 (h : One c) : aC3 (agC s k c) 17 d = agC s k d := by unfold aC3; rw [aV5 h]; rfl
theorem be2 (h : One c) : as4 (agC s k c) 17 = true := by unfold as4; rw [aV5 h]; rfl
theorem cn9 (h : One c) {t : Str} (hr : aO8 c = (d, t, 0)) (ht : t.length ≤ 1000) : bh3 (agC s k c) 17 0 1000 = (agC s k d, t, 0) := by
 unfold bh3
 rw [be2 h, if_pos rfl, if_neg (by omega), if_neg (by omega), aV5 h, if_pos (by omega)]
 unfold b13
 rw [bD0 h, h.fr, if_neg (by simp), hr, if_pos rfl, if_neg (by simp only; omega), bI8 h]
theorem cx2 (h : One c) (hp : ¬ c.Phase = 1) : bh3 (agC s k c) 17 0 1000 = (agC s k c, [], 53) := by
 unfold bh3
 rw [be2 h, if_pos rfl, if_neg (by omega), if_neg (by omega), aV5 h, if_pos (by omega)]
 unfold b13 aO8
 rw [bD0 h, h.fr, if_neg (by simp), if_neg hp, if_neg (by simp)]
theorem cc6 (h : One c) {t : Str} (hw : au9 c t = (d, 0)) : a17 (agC s k c) 17 t = (agC s k d, (List.length t : Int), 0) := by
 unfold a17
 rw [be2 h, if_pos rfl, if_neg (by omega), if_neg (by omega), if_neg (by omega), bD0 h, h.fr, if_neg (by simp)]
 unfold bx7
 rw [bD0 h, hw, if_pos (.inl rfl), bI8 h]; rfl
def b15 (c d c' d' : aa3) : Prop := (¬ c.Phase = 1 ∧ c' = c ∧ d' = d) ∨ ∃ t, aO8 c = (c', t, 0) ∧ au9 d t = (d', 0) ∧ t.length ≤ 1000
theorem w17 : (-9223372036854775808 : Int) ≤ 17 ∧ (17 : Int) ≤ 9223372036854775807 := by omega
theorem half {s s2 : Str} {k k2 : List aa1} {c d c' d' : aa3} (h : b15 c d c' d') (hc : One c) (hd : One d) (v : Val (agC s k c)) (v2 : Val (agC s2 k2 d)) :
  Val (agC s k c') ∧ Val (agC s2 k2 d') ∧ ((ah0 (agC s k c) 17 0 1000 = some (agC s k c, [], 53) ∧ c' = c ∧ d' = d) ∨ ∃ t, ah0 (agC s k c) 17 0 1000 = some (agC s k c', t, 0) ∧ ak3 (agC s2 k2 d) 17 t = some (agC s2 k2 d', (List.length t : Int), 0)) := by
 rcases h with ⟨hp, rfl, rfl⟩ | ⟨t, h1, h2, h3⟩
 ·exact ⟨v, v2, .inl ⟨by rw [br5 v w17, cx2 hc hp], rfl, rfl⟩⟩
 ·have r1 := cn9 (s := s) (k := k) hc h1 h3
  have r2 := cc6 (s := s2) (k := k2) hd h2
  refine ⟨?_, ?_, .inr ⟨t, by rw [br5 v w17, r1], by rw [bj4 v2 w17 (by omega), r2]⟩⟩
  ·have := bV6 v 17 0 1000; rwa [r1] at this
  ·have := ba4 v2 17 (s := t) (by omega); rwa [r2] at this
theorem round {x y : Str} {ka kb : List aa1} {c d c1 d1 c2 d2 : aa3} {A B : aa2} (h1 : b15 c d c1 d1) (h2 : b15 d1 c1 d2 c2) (hc : One c) (hd : One d) (hc1 : One c1) (hd1 : One d1) (v : Val (agC x ka c)) (v2 : Val (agC y kb d)) {i : Nat} (hi : i < 6) :
  ag8 (A, 17, 0) (B, 17, 0) i (agC x ka c) (agC y kb d) = some (.cont ((i : Int) + 1, agC x ka c2, agC y kb d2)) ∧ Val (agC x ka c2) ∧ Val (agC y kb d2) := by
 obtain ⟨va, vb, q⟩ := half (s := x) (s2 := y) (k := ka) (k2 := kb) h1 hc hd v v2
 obtain ⟨vb2, va2, p⟩ := half (s := y) (s2 := x) (k := kb) (k2 := ka) h2 hd1 hc1 vb va
 refine ⟨?_, va2, vb2⟩
 have hK : aj6 (A, 17, 0) (B, 17, 0) i (agC x ka c1) (agC y kb d1) = some (.cont ((i : Int) + 1, agC x ka c2, agC y kb d2)) := by
  unfold aj6
  rcases p with ⟨p1, p2, p3⟩ | ⟨t, p1, p2⟩
  ·subst p2 p3
   simp only [p1, Option.bind_some, show ¬ (53 : Int) = 0 by omega, decide_false, Bool.false_eq_true, if_false]
   rw [ag2 (by omega)]
  ·simp only [p1, p2, Option.bind_some, decide_true, Bool.not_true, Bool.false_eq_true, if_false, if_true]
   rw [ag2 (by omega)]
 unfold ag8
 have hi6 : (i : Int) < 6 := by omega
 rcases q with ⟨p1, p2, p3⟩ | ⟨t, p1, p2⟩
 ·subst p2 p3
  simp only [hi6, p1, Option.bind_some, show ¬ (53 : Int) = 0 by omega, decide_true, decide_false, Bool.false_eq_true, if_false, if_true, hK]
 ·simp only [hi6, p1, p2, Option.bind_some, decide_true, Bool.not_true, Bool.false_eq_true, if_false, if_true, hK]
structure b16 (s s' : aa3 × aa3) : Prop where
 a : One s.1
 b : One s.2
 ex : ∃ c1 d1, b15 s.1 s.2 c1 d1 ∧ b15 d1 c1 s'.2 s'.1 ∧ One c1 ∧ One d1
def co0 (c : aa3) : Prop := c.Phase = 3 ∧ c.User = [97, 110, 110]
theorem talks {x y : Str} {ka kb : List aa1} {A B : aa2} (S : Nat → aa3 × aa3) (h : ∀ i, i < 6 → b16 (S i) (S (i + 1))) (e1 : co0 (S 6).1) (e2 : co0 (S 6).2) (v : Val (agC x ka (S 0).1)) (v2 : Val (agC y kb (S 0).2)) :
  aa8 (fun s => ag8 (A, 17, 0) (B, 17, 0) s.1 s.2.1 s.2.2) (0, agC x ka (S 0).1, agC y kb (S 0).2) = some true := by
 refine (ai8 6 (fun (z : aa3 × aa3) i => (i, agC x ka z.1, agC y kb z.2)) (fun s => ag8 (A, 17, 0) (B, 17, 0) s.1 s.2.1 s.2.2) (fun _ _ => true) (fun i z => z = S i ∧ Val (agC x ka z.1) ∧ Val (agC y kb z.2)) (s0 := S 0) ⟨rfl, v, v2⟩ ?_ ?_)
 ·rintro z i hi ⟨rfl, va, vb⟩
  left
  obtain ⟨h1, h2, c1, d1, t1, t2, o1, o2⟩ := h i hi
  obtain ⟨r1, r2, r3⟩ := round (A := A) (B := B) t1 t2 h1 h2 o1 o2 va vb hi
  exact ⟨S (i + 1), r1, rfl, rfl, r2, r3⟩
 ·rintro z ⟨rfl, va, vb⟩
  have n6 : ¬ ((6 : Nat) : Int) < 6 := by omega
  have l1 : (List.length (agC x ka (S 6).1).Convs : Int) = 1 := rfl
  have l2 : (List.length (agC y kb (S 6).2).Convs : Int) = 1 := rfl
  have k1 : ad9 (agC x ka (S 6).1).Convs 0 = some (S 6).1 := rfl
  have k2 : ad9 (agC y kb (S 6).2).Convs 0 = some (S 6).2 := rfl
  have d1 : au8 (S 6).1 = some ([97, 110, 110], true) := by unfold au8; simp [e1.1, e1.2]
  have d2 : au8 (S 6).2 = some ([97, 110, 110], true) := by unfold au8; simp [e2.1, e2.2]
  simp only [ag8, n6, decide_false, Bool.false_eq_true, if_false, as9, l1, l2, decide_true, Bool.not_true, Bool.or_self, k1, k2, d1, d2, Option.bind_some, if_true, be1, Option.map_some]
theorem aH9 {c : aa3} {t p : Str} (h : c.Phase = 2) (hl : a16 c t = some p) (hs : bO0 c p = t) : au9 c t = (cm8 c p, 0) := by
 unfold au9 bC6
 rw [if_pos h, hl]
 simp only [hs, if_true]
theorem bD1 {u n m : Str} (h : n.length = 32) {i : Nat} (hi : u.length = i) : aV3 (u ++ (n ++ m)) i = some n := by
 subst hi
 unfold aV3
 rw [if_pos (by simp; omega), List.drop_left, List.take_left' h]
theorem cc7 {n : Str} (h : n.length = 32) : aV3 n 0 = some n := by
 have := bD1 (u := []) (n := n) (m := []) h rfl
 simpa using this
def kA : List aa1 := [⟨[117, 115, 101, 114], [97, 110, 110], false⟩, ⟨[33, 115, 101, 99, 114, 101, 116], [112, 119], false⟩]
def kB : List aa1 := [⟨[100, 111, 109], [122], false⟩, ⟨[117, 115, 101, 114], [97, 110, 110], false⟩, ⟨[33, 115, 101, 99, 114, 101, 116], [112, 119], false⟩]
def bD2 : Str := [97, 110, 110]
def pwS : Str := [112, 119]
def cv (p : Str) (r ph st : Int) (k : List aa1) (own peer user : Str) : aa3 := ⟨1, p, r, ph, st, k, own, peer, user, 0⟩
variable {n m : Str}
theorem n21 : ¬ (2 : Int) = 1 := by decide
theorem n31 : ¬ (3 : Int) = 1 := by decide
theorem ch1 (n m : Str) (hm : m.length = 32) : b15 (cv ah5 2 1 0 kB m [] []) (cv ah5 1 2 0 kA n [] []) (cv ah5 2 2 1 kB m [] []) (cv ah5 1 1 1 kA n m []) :=
 .inr ⟨m, by kernel_rfl, (aH9 (p := m) rfl (by rw [show a16 (cv ah5 1 2 0 kA n [] []) m = aV3 m 0 by kernel_rfl]; exact cc7 hm) (by kernel_rfl)).trans (by kernel_rfl), by omega⟩
theorem ch2 (n m : Str) (hm : m.length = 32) : b15 (cv ah5 1 1 1 kA n m []) (cv ah5 2 2 1 kB m [] []) (cv ah5 1 2 2 kA n m []) (cv ah5 2 1 2 kB m [] []) :=
 .inr ⟨bN4 bD2 ++ bx2 pwS m, by kernel_rfl, (aH9 (p := []) rfl (by kernel_rfl) (by kernel_rfl)).trans (by kernel_rfl), by rw [List.length_append, aY2, aO6]; decide⟩
theorem ch3 (n m : Str) : b15 (cv ah5 2 1 2 kB m [] []) (cv ah5 1 2 2 kA n m []) (cv ah5 2 3 3 kB m [] bD2) (cv ah5 1 3 3 kA n m bD2) :=
 .inr ⟨okS, by kernel_rfl, (aH9 (p := m) rfl (by kernel_rfl) (by kernel_rfl)).trans (by kernel_rfl), by decide⟩
def chSt (n m : Str) : Nat → aa3 × aa3
 | 0 => (cv ah5 1 2 0 kA n [] [], cv ah5 2 1 0 kB m [] [])
 | 1 => (cv ah5 1 1 1 kA n m [], cv ah5 2 2 1 kB m [] [])
 | _ => (cv ah5 1 3 3 kA n m bD2, cv ah5 2 3 3 kB m [] bD2)
theorem be3 {c d : aa3} (h1 : One c) (h2 : One d) (p1 : ¬ c.Phase = 1) (p2 : ¬ d.Phase = 1) : b16 (c, d) (c, d) :=
 ⟨h1, h2, c, d, .inl ⟨p1, rfl, rfl⟩, .inl ⟨p2, rfl, rfl⟩, h1, h2⟩
theorem cc8 (n m : Str) (hm : m.length = 32) : ∀ i, i < 6 → b16 (chSt n m i) (chSt n m (i + 1))
 | 0, _ => ⟨⟨rfl, rfl⟩, ⟨rfl, rfl⟩, _, _, .inl ⟨n21, rfl, rfl⟩, ch1 n m hm, ⟨rfl, rfl⟩, ⟨rfl, rfl⟩⟩
 | 1, _ => ⟨⟨rfl, rfl⟩, ⟨rfl, rfl⟩, _, _, ch2 n m hm, ch3 n m, ⟨rfl, rfl⟩, ⟨rfl, rfl⟩⟩
 | k + 2, _ => be3 ⟨rfl, rfl⟩ ⟨rfl, rfl⟩ n31 n31
theorem mu1 (n m : Str) (hn : n.length = 32) : b15 (cv aq1 1 1 0 kA n [] []) (cv aq1 2 2 0 kB m [] []) (cv aq1 1 2 1 kA n [] []) (cv aq1 2 1 1 kB m n []) :=
 .inr ⟨bN4 bD2 ++ n, by kernel_rfl, (aH9 (p := n) rfl (by rw [show a16 (cv aq1 2 2 0 kB m [] []) (bN4 bD2 ++ n) = aV3 (bN4 bD2 ++ n) 5 by kernel_rfl]; have := bD1 (u := bN4 bD2) (n := n) (m := []) hn (i := 5) (by decide); rwa [List.append_nil] at this) (by kernel_rfl)).trans (by kernel_rfl), by rw [List.length_append, hn]; decide⟩
theorem cq7 {cl sv : Str} (h : c.Proto = aq1) : aO7 c 1 cl sv = sv ++ bx2 (sec c) (aB1 ++ cl ++ sv) := by
 unfold aO7
 rw [if_neg (by rw [h]; decide), if_pos h, if_neg (by decide), if_pos rfl]
theorem cq8 {cl sv : Str} (h : c.Proto = aq1) : aO7 c 2 cl sv = bx2 (sec c) (aB2 ++ cl ++ sv) := by
 unfold aO7
 rw [if_neg (by rw [h]; decide), if_pos h, if_neg (by decide), if_neg (by decide)]
theorem b17 {n m : Str} (h : n.length = 32) : aV3 (n ++ m) 0 = some n := by
 have := bD1 (u := []) (n := n) (m := m) h rfl
 rwa [List.nil_append] at this
theorem bV7 {p own peer user : Str} {r ph st : Int} {k : List aa1} (h : aY1 b21 k = pwS) : sec (cv p r ph st k own peer user) = pwS := h
theorem secA : aY1 b21 kA = pwS := by kernel_rfl
theorem secB : aY1 b21 kB = pwS := by kernel_rfl
theorem mu2 (n m : Str) (hm : m.length = 32) : b15 (cv aq1 2 1 1 kB m n []) (cv aq1 1 2 1 kA n [] []) (cv aq1 2 2 2 kB m n []) (cv aq1 1 1 2 kA n m []) := by
 refine .inr ⟨m ++ bx2 pwS (aB1 ++ n ++ m), ?_, (aH9 (p := m) rfl ?_ ?_).trans (by kernel_rfl), by rw [List.length_append, aO6]; omega⟩
 ·have e : aO8 (cv aq1 2 1 1 kB m n []) = (cv aq1 2 2 2 kB m n [], aO7 (cv aq1 2 1 1 kB m n []) 1 n m, 0) := by kernel_rfl
  rw [e, cq7 rfl, bV7 secB]
 ·have e : ∀ t : Str, a16 (cv aq1 1 2 1 kA n [] []) t = aV3 t 0 := fun t => by kernel_rfl
  rw [e]; exact b17 hm
 ·have e : bO0 (cv aq1 1 2 1 kA n [] []) m = aO7 (cv aq1 1 2 1 kA n [] []) 1 n m := by kernel_rfl
  rw [e, cq7 rfl, bV7 secA]
theorem mu3 (n m : Str) : b15 (cv aq1 1 1 2 kA n m []) (cv aq1 2 2 2 kB m n []) (cv aq1 1 3 3 kA n m bD2) (cv aq1 2 3 3 kB m n bD2) := by
 refine .inr ⟨bx2 pwS (aB2 ++ n ++ m), ?_, (aH9 (p := n) rfl ?_ ?_).trans (by kernel_rfl), by rw [aO6]; decide⟩
 ·have e : aO8 (cv aq1 1 1 2 kA n m []) = (cv aq1 1 3 3 kA n m bD2, aO7 (cv aq1 1 1 2 kA n m []) 2 n m, 0) := by kernel_rfl
  rw [e, cq8 rfl, bV7 secA]
 ·have e : ∀ t : Str, a16 (cv aq1 2 2 2 kB m n []) t = some n := fun t => by kernel_rfl
  exact e _
 ·have e : bO0 (cv aq1 2 2 2 kB m n []) n = aO7 (cv aq1 2 2 2 kB m n []) 2 n m := by kernel_rfl
  rw [e, cq8 rfl, bV7 secB]
def muSt (n m : Str) : Nat → aa3 × aa3
 | 0 => (cv aq1 1 1 0 kA n [] [], cv aq1 2 2 0 kB m [] [])
 | 1 => (cv aq1 1 1 2 kA n m [], cv aq1 2 2 2 kB m n [])
 | _ => (cv aq1 1 3 3 kA n m bD2, cv aq1 2 3 3 kB m n bD2)
theorem cc9 (n m : Str) (hn : n.length = 32) (hm : m.length = 32) : ∀ i, i < 6 → b16 (muSt n m i) (muSt n m (i + 1))
 | 0, _ => ⟨⟨rfl, rfl⟩, ⟨rfl, rfl⟩, _, _, mu1 n m hn, mu2 n m hm, ⟨rfl, rfl⟩, ⟨rfl, rfl⟩⟩
 | 1, _ => ⟨⟨rfl, rfl⟩, ⟨rfl, rfl⟩, _, _, mu3 n m, .inl ⟨n31, rfl, rfl⟩, ⟨rfl, rfl⟩, ⟨rfl, rfl⟩⟩
 | k + 2, _ => be3 ⟨rfl, rfl⟩ ⟨rfl, rfl⟩ n31 n31
theorem pl1 (n m : Str) : b15 (cv ai5 1 1 0 kA n [] []) (cv ai5 2 2 0 kB m [] []) (cv ai5 1 2 1 kA n [] []) (cv ai5 2 1 1 kB m [] []) :=
 .inr ⟨bN4 bD2 ++ bN4 pwS, by kernel_rfl, (aH9 (p := []) rfl (by kernel_rfl) (by kernel_rfl)).trans (by kernel_rfl), by decide⟩
theorem pl2 (n m : Str) : b15 (cv ai5 2 1 1 kB m [] []) (cv ai5 1 2 1 kA n [] []) (cv ai5 2 3 2 kB m [] bD2) (cv ai5 1 3 2 kA n [] bD2) :=
 .inr ⟨okS, by kernel_rfl, (aH9 (p := []) rfl (by kernel_rfl) (by kernel_rfl)).trans (by kernel_rfl), by decide⟩
def plSt (n m : Str) : Nat → aa3 × aa3
 | 0 => (cv ai5 1 1 0 kA n [] [], cv ai5 2 2 0 kB m [] [])
 | _ => (cv ai5 1 3 2 kA n [] bD2, cv ai5 2 3 2 kB m [] bD2)
theorem cd0 (n m : Str) : ∀ i, i < 6 → b16 (plSt n m i) (plSt n m (i + 1))
 | 0, _ => ⟨⟨rfl, rfl⟩, ⟨rfl, rfl⟩, _, _, pl1 n m, pl2 n m, ⟨rfl, rfl⟩, ⟨rfl, rfl⟩⟩
 | k + 1, _ => be3 ⟨rfl, rfl⟩ ⟨rfl, rfl⟩ n31 n31
def t0 (s : Str) : aa2 := ⟨[97, 100, 109], s, [], 1, [], 0⟩
def t1 (s : Str) (k : List aa1) : aa2 := ⟨[97, 100, 109], s, [k], 1, [], 0⟩
def t2 (s : Str) (k : List aa1) : aa2 := ⟨[97, 100, 109], s, [k], 2, [bV4 1], 0⟩
def lnA : Str := [107, 101, 121, 32, 117, 115, 101, 114, 61, 97, 110, 110, 32, 33, 115, 101, 99, 114, 101, 116, 61, 112, 119]
def lnB : Str := [107, 101, 121, 32, 100, 111, 109, 61, 122, 32, 117, 115, 101, 114, 61, 97, 110, 110, 32, 33, 115, 101, 99, 114, 101, 116, 61, 112, 119]
def stX (p : Str) : Str := [115, 116, 97, 114, 116, 32, 112, 114, 111, 116, 111, 61] ++ p ++ [32, 114, 111, 108, 101, 61, 99, 108, 105, 101, 110, 116, 32, 117, 115, 101, 114, 61, 97, 110, 110]
def stZ (p : Str) : Str := [115, 116, 97, 114, 116, 32, 112, 114, 111, 116, 111, 61] ++ p ++ [32, 114, 111, 108, 101, 61, 115, 101, 114, 118, 101, 114, 32, 117, 115, 101, 114, 61, 97, 110, 110]
theorem cF1 (s : Str) (h : s.length ≤ 100) : ao0 [97, 100, 109] s = some (t0 s, 0) := by
 have hn : ¬ (1024 : Int) < (List.length s : Int) := by omega
 unfold ao0
 rw [show (decide (([97, 100, 109] : Str) = []) || decide ((32 : Int) < (List.length ([97, 100, 109] : Str) : Int))) = false from rfl, if_neg (by simp), decide_eq_false hn, if_neg (by simp)]; rfl
theorem keyA (s : Str) : bO5 (t0 s) lnA = (t1 s kA, 0) := by kernel_rfl
theorem cF2 (s : Str) : bO5 (t0 s) lnB = (t1 s kB, 0) := by kernel_rfl
theorem opnT (s : Str) (k : List aa1) : bO9 (t1 s k) [97, 100, 109] 4 2 = (t2 s k, 17, 0) := by kernel_rfl
def lstP (p r : Str) : List aa1 := [⟨[112, 114, 111, 116, 111], p, false⟩, ⟨[114, 111, 108, 101], r, false⟩, ⟨[117, 115, 101, 114], [97, 110, 110], false⟩]
def at1 (s : Str) : Str := bx2 s (Go.Lib.itoa 0)
structure cd1 (k : List aa1) (t p : Str) (r : Int) (l : List aa1) : Prop where
 e3 : (br6 ++ [32]).isPrefixOf t = true
 e4 : an3 (t.drop 6) = (l, 0, 0)
 h1 : an4 ba3 l = (p, true)
 h2 : bt7 l = r
 hr : r = 1 ∨ r = 2
 h3 : bD4 (cb9 l) [k] = (k, true)
 hp : ai3 p = true
 h4 : bp4 k = 0
 h5 : bt4 k = true
theorem cF3 {k : List aa1} {t p : Str} {r : Int} {l : List aa1} (b : cd1 k t p r l) (s : Str) : a17 (t2 s k) 17 t = (agC s k {bi9 (ba1 p r k (at1 s)) with Id := 1}, (List.length t : Int), 0) :=
 br8 (a := t2 s k) (id := 17) (by kernel_rfl) (by omega) (by kernel_rfl) b.e3 b.e4 b.h1 b.h2 b.hr b.h3 (by show (0 : Int) < 9007199254740991; omega) b.hp b.h4 b.h5
theorem bgA (p : Str) (l : List aa1) (r : Int) (h : p = ah5 ∨ p = aq1 ∨ p = ai5) : cd1 kA (stX p) p 1 (lstP p aB2) := by
 rcases h with rfl | rfl | rfl <;> exact ⟨by kernel_rfl, by kernel_rfl, by kernel_rfl, by kernel_rfl, .inl rfl, by kernel_rfl, by kernel_rfl, by kernel_rfl, by kernel_rfl⟩
theorem bgB (p : Str) (l : List aa1) (r : Int) (h : p = ah5 ∨ p = aq1 ∨ p = ai5) : cd1 kB (stZ p) p 2 (lstP p aB1) := by
 rcases h with rfl | rfl | rfl <;> exact ⟨by kernel_rfl, by kernel_rfl, by kernel_rfl, by kernel_rfl, .inr rfl, by kernel_rfl, by kernel_rfl, by kernel_rfl, by kernel_rfl⟩
theorem cF4 (p : Str) (h : p = ah5 ∨ p = aq1 ∨ p = ai5) : (stX p).length ≤ 100 ∧ (stZ p).length ≤ 100 := by
 rcases h with rfl | rfl | rfl <;> decide
theorem bP1 {x y p : Str} (hx : x.length ≤ 100) (hy : y.length ≤ 100) (hp : p = ah5 ∨ p = aq1 ∨ p = ai5) (S : Nat → aa3 × aa3) (h : ∀ i, i < 6 → b16 (S i) (S (i + 1))) (e1 : co0 (S 6).1) (e2 : co0 (S 6).2)
  (s1 : ({bi9 (ba1 p 1 kA (at1 x)) with Id := 1} : aa3) = (S 0).1) (s2 : ({bi9 (ba1 p 2 kB (at1 y)) with Id := 1} : aa3) = (S 0).2) {which : Int} (hl : ad9 [[99, 104, 97, 108], [109, 117, 116, 117, 97, 108], [112, 108, 97, 105, 110]] (Int.tmod (IntKind.wrap .i64 which) 3) = some p) : aj3 which x y = some true := by
 have w4 : (-9223372036854775808 : Int) ≤ 4 ∧ (4 : Int) ≤ 9223372036854775807 := by omega
 have w2 : (-9223372036854775808 : Int) ≤ 2 ∧ (2 : Int) ≤ 9223372036854775807 := by omega
 obtain ⟨lA, lB⟩ := cF4 p hp
 have n1 := cF1 x hx
 have n2 := cF1 y hy
 have v0 : Val (t0 x) := (bP0 n1 (by omega)).1
 have u0 : Val (t0 y) := (bP0 n2 (by omega)).1
 have v1 : Val (t1 x kA) := by have := bd7 v0 (l := lnA) (by decide); rwa [keyA] at this
 have u1 : Val (t1 y kB) := by have := bd7 u0 (l := lnB) (by decide); rwa [cF2] at this
 have v2 : Val (t2 x kA) := by have := bC9 v1 [97, 100, 109] 4 2; rwa [opnT] at this
 have u2 : Val (t2 y kB) := by have := bC9 u1 [97, 100, 109] 4 2; rwa [opnT] at this
 have wA := cF3 (bgA p [] 0 hp) x
 have wB := cF3 (bgB p [] 0 hp) y
 rw [s1] at wA
 rw [s2] at wB
 have v3 : Val (agC x kA (S 0).1) := by have := ba4 v2 17 (s := stX p) (by omega); rwa [wA] at this
 have u3 : Val (agC y kB (S 0).2) := by have := ba4 u2 17 (s := stZ p) (by omega); rwa [wB] at this
 have c1 := ay8 v0.lim (l := lnA) (by decide)
 have c2 := ay8 u0.lim (l := lnB) (by decide)
 have c3 := bC8 v1 w4 w2 [97, 100, 109]
 have c4 := bC8 u1 w4 w2 [97, 100, 109]
 have c5 := bj4 v2 w17 (s := stX p) (by omega)
 have c6 := bj4 u2 w17 (s := stZ p) (by omega)
 rw [keyA] at c1
 rw [cF2] at c2
 rw [opnT] at c3 c4
 rw [wA] at c5
 rw [wB] at c6
 have hpl : p.length ≤ 10 := by rcases hp with rfl | rfl | rfl <;> decide
 have k1 : am8 [115, 116, 97, 114, 116, 32, 112, 114, 111, 116, 111, 61] p = some ([115, 116, 97, 114, 116, 32, 112, 114, 111, 116, 111, 61] ++ p) := ag5 (by simp; omega)
 have k2 : am8 ([115, 116, 97, 114, 116, 32, 112, 114, 111, 116, 111, 61] ++ p) [32, 114, 111, 108, 101, 61, 99, 108, 105, 101, 110, 116, 32, 117, 115, 101, 114, 61, 97, 110, 110] = some (stX p) := ag5 (by simp; omega)
 have k3 : am8 ([115, 116, 97, 114, 116, 32, 112, 114, 111, 116, 111, 61] ++ p) [32, 114, 111, 108, 101, 61, 115, 101, 114, 118, 101, 114, 32, 117, 115, 101, 114, 61, 97, 110, 110] = some (stZ p) := ag5 (by simp; omega)
 have hT := talks (A := t2 x kA) (B := t2 y kB) S h e1 e2 v3 u3
 unfold lnA at c1
 unfold lnB at c2
 have q1 : ¬ (100 : Int) < (List.length x : Int) := by omega
 have q2 : ¬ (100 : Int) < (List.length y : Int) := by omega
 unfold aj3
 simp only [q1, q2, decide_false, Bool.or_self, Bool.false_eq_true, if_false, hl, n1, n2, c1, c2, c3, c4, k1, k2, k3, c5, c6, Option.bind_some, decide_true, Bool.not_true, hT]
theorem aV6 (which : Int) (x_ y : Str) (w0 : (Lit.int .u8 which).wf = true) (w1 : List.length x_ ≤ maxLen) (w2 : List.length y ≤ maxLen) : aj3 which x_ y = some true := by
 by_cases hx : (100 : Int) < (List.length x_ : Int)
 ·unfold aj3
  rw [decide_eq_true hx, Bool.true_or, if_pos rfl, be1]; rfl
 by_cases hy : (100 : Int) < (List.length y : Int)
 ·unfold aj3
  rw [decide_eq_true hy, Bool.or_true, if_pos rfl, be1]; rfl
 have hw : 0 ≤ which ∧ which ≤ 255 := by
  have h2 : IntKind.u8.min ≤ which ∧ which ≤ IntKind.u8.max := by simpa [Lit.wf] using w0
  exact h2
 have hwr : IntKind.wrap .i64 which = which := ah7 (by omega) (by omega)
 have hm : Int.tmod which 3 = 0 ∨ Int.tmod which 3 = 1 ∨ Int.tmod which 3 = 2 := by
  rw [Int.tmod_eq_emod_of_nonneg (by omega)]; omega
 have ln : ∀ s : Str, (at1 s).length = 32 := fun s => aO6 _ _
 rcases hm with q | q | q
 ·exact bP1 (p := ah5) (by omega) (by omega) (.inl rfl) (chSt (at1 x_) (at1 y)) (cc8 _ _ (ln _)) ⟨rfl, rfl⟩ ⟨rfl, rfl⟩ (by kernel_rfl) (by kernel_rfl) (by rw [hwr, q]; rfl)
 ·exact bP1 (p := aq1) (by omega) (by omega) (.inr (.inl rfl)) (muSt (at1 x_) (at1 y)) (cc9 _ _ (ln _) (ln _)) ⟨rfl, rfl⟩ ⟨rfl, rfl⟩ (by kernel_rfl) (by kernel_rfl) (by rw [hwr, q]; rfl)
 ·exact bP1 (p := ai5) (by omega) (by omega) (.inr (.inr rfl)) (plSt (at1 x_) (at1 y)) (cd0 _ _) ⟨rfl, rfl⟩ ⟨rfl, rfl⟩ (by kernel_rfl) (by kernel_rfl) (by rw [hwr, q]; rfl)
end Go.Proofs.YtiliognepodhnaaGreatDoor
