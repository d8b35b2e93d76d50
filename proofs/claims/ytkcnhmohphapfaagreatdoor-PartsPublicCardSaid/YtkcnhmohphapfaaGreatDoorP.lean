import Derived.Test.YtkcnhmohphapfaaGreatDoorRA
namespace Go.Proofs.YtkcnhmohphapfaaGreatDoor
open Go.Vm
set_option autoImplicit false
set_option linter.unusedVariables false
set_option linter.unusedSimpArgs false
set_option maxRecDepth 100000
variable {a : aa2}
theorem bC8 : ai6 = some true := rfl
theorem bC9 {s q r : Str} {i : Nat} {k : List aa0} (hs : s = [107, 101, 121, 32] ++ q ++ 10 :: r) (hq : (10 : UInt8) ∉ q) (hi : i < a.Keys.length) (hi2 : a.Keys.length ≤ 1000000) (hk : a.Keys[i] = k) (hle : k.length ≤ 1000000) (hq1 : q.length ≤ 1000000) (hr : r.length ≤ 1000000)
    (hpar : bl5 q = (pub k, 0, 0)) (hn : ∀ x ∈ pub k, ∃ c t, x.Name = c :: t ∧ decide ((c.toNat : Int) = 33) = false) : ad8 (fun k => ae7 a s (i : Int) k) 0 = some (.cont (r, (i : Int) + 1)) := by
  have hlen : s.length = 4 + q.length + 1 + r.length := by rw [hs]; simp; omega
  refine af8 (4 + q.length) (fun (_ : Unit) j => j) (fun j => ae7 a s (i : Int) j) (fun _ _ => .cont (r, (i : Int) + 1)) (fun _ _ => True) (s0 := ()) trivial ?_ ?_
  · intro _ j hj _
    left
    refine ⟨(), ?_, rfl, trivial⟩
    have hjs : j < s.length := by omega
    have hne : decide ((s[j].toNat : Int) = 10) = false := by
      refine decide_eq_false fun e => ?_
      have e : s[j] = 10 := UInt8.toNat_inj.1 (by have : s[j].toNat = 10 := by omega
                                                  rw [this]; rfl)
      have hm : s[j] ∈ [107, 101, 121, 32] ++ q := by
        have : s[j] = ([107, 101, 121, 32] ++ q)[j]'(by simp; omega) := by
          simp only [hs]
          rw [List.getElem_append_left]
        rw [this]; exact List.getElem_mem _
      rw [e] at hm
      rcases List.mem_append.1 hm with hm | hm
      · revert hm; decide
      · exact hq hm
    simp only [ae7, dlt hjs, if_true, ag5 hjs, Option.bind_some, hne, Bool.not_false]
    rw [ac5 (by omega)]
  · intro _ _
    have hjs : 4 + q.length < s.length := by omega
    have h10 : s[4 + q.length] = 10 := by
      have h9 : s[4 + q.length]? = some 10 := by
        rw [hs, List.getElem?_append_right (by simp; omega)]
        have e : 4 + q.length - ([107, 101, 121, 32] ++ q : Str).length = 0 := by simp; omega
        rw [e]; rfl
      exact (List.getElem?_eq_some_iff.1 h9).2
    have h1 : decide ((s[4 + q.length].toNat : Int) = 10) = true := by rw [h10]; rfl
    have e1 : ¬ (((4 + q.length : Nat) : Int) = (List.length s : Int)) := by omega
    have e2 : ¬ (((4 + q.length : Nat) : Int) < 4) := by omega
    have c1 : cut s 0 4 = some [107, 101, 121, 32] := by
      have := aT9 (l := s) (b := 4) (by omega)
      rw [show ((4 : Nat) : Int) = 4 from rfl] at this
      rw [this, hs]; simp
    have c2 : cut s 4 ((4 + q.length : Nat) : Int) = some q := by
      have := a36 (l := s) (a := 4) (b := 4 + q.length) (by omega) (by omega)
      rw [show ((4 : Nat) : Int) = 4 from rfl] at this
      rw [this, hs, List.take_left' (by simp; omega)]
      congr 1
    have c3 : cut s (IntKind.wrap .i64 (((4 + q.length : Nat) : Int) + 1)) (List.length s : Int) = some r := by
      rw [ac5 (by omega), show (((4 + q.length : Nat) : Int) + 1) = ((4 + q.length + 1 : Nat) : Int) by omega, ay4 (by omega), hs]
      congr 1
      rw [show [107, 101, 121, 32] ++ q ++ 10 :: r = ([107, 101, 121, 32] ++ q ++ [10]) ++ r by simp]
      exact List.drop_left' (by simp; omega)
    have hpub : ao9 k = some (pub k) := ba3 hle
    have hsame : am2 (pub k) (pub k) = some true := by
      rw [bf8 (Nat.le_trans a45 (by omega))]; simp
    have hL' : ad8 (fun j => ae1 s (i : Int) ((4 + q.length : Nat) : Int) (pub k, (0 : Int), (0 : Int)) j) 0 = some (.cont (r, (i : Int) + 1)) := by
      refine af8 (pub k).length (fun (_ : Unit) j => j) (fun j => ae1 s (i : Int) ((4 + q.length : Nat) : Int) (pub k, (0 : Int), (0 : Int)) j) (fun _ _ => .cont (r, (i : Int) + 1)) (fun _ _ => True) (s0 := ()) trivial ?_ ?_
      · intro _ j hj _
        left
        refine ⟨(), ?_, rfl, trivial⟩
        obtain ⟨c, t, h2, h3⟩ := hn _ (List.getElem_mem hj)
        have hp := Nat.le_trans (@a45 k) hle
        have h4 : aj4 (c :: t) 0 = some c := by
          have := ag5 (l := c :: t) (i := 0) (by simp)
          simpa using this
        simp only [ae1, dlt hj, if_true, ac8 hj, Option.bind_some, h2, h4, h3]
        simp only [reduceCtorEq, decide_false, Bool.false_eq_true, if_false, Option.bind_some]
        rw [ac5 (by omega)]
      · intro _ _
        simp only [ae1, dge, Bool.false_eq_true, if_false, ak6, c3, Option.bind_some, Option.map_some]
        rw [ac5 (by omega)]
    simp only [ae7, dlt hjs, if_true, ag5 hjs, Option.bind_some, h1, Bool.not_true, Bool.false_eq_true, if_false, ak7, e1, e2, decide_false, c1, c2, bJ2 hq1, hpar, ac8 hi, hk, hpub, hsame, decide_true, hL', Option.map_some]
theorem bs0 (v : Val a) (h40 : (a.Keys.map aI9).sum ≤ 60000) : ad8 (fun s => ae8 a s.1 s.2) ((a.Keys.map az4).flatten, 0) = some true := by
 have hb := v.base
 refine af8 a.Keys.length (fun (s : Str) i => (s, i)) (fun s => ae8 a s.1 s.2) (fun _ _ => true) (fun i s => s = ((a.Keys.drop i).map az4).flatten) (s0 := (a.Keys.map az4).flatten) rfl ?_ ?_
 ·intro s i hi hs
  left
  have hm := List.getElem_mem hi
  have hk := v.key hm
  have hsh := v.lim.key _ hm
  have hz := (bh1 hk).1
  have hsum : ((a.Keys.drop i).map aI9).sum ≤ 60000 := by
   have e : (a.Keys.map aI9).sum = ((a.Keys.take i).map aI9).sum + ((a.Keys.drop i).map aI9).sum := by
    rw [← List.sum_append, ← List.map_append, List.take_append_drop]
   omega
  have hlen : ∀ l : List (List aa0), (∀ k ∈ l, Sh k ∧ bs6 k = true) → ((l.map az4).flatten).length ≤ (l.map aI9).sum := by
   intro l
   induction l with
   | nil => intro _; simp
   | cons k r ih =>
    intro h
    have h1 := ih fun x hx => h x (by simp [hx])
    have h2 := bm1 (h k (by simp)).1 (h k (by simp)).2
    simp only [List.map_cons, List.flatten_cons, List.length_append, List.sum_cons]
    omega
  have hl := hlen (a.Keys.drop i) fun k hk => ⟨v.lim.key k (List.mem_of_mem_drop hk), v.key (List.mem_of_mem_drop hk)⟩
  rw [List.drop_eq_getElem_cons hi] at hs hl
  simp only [List.map_cons, List.flatten_cons, List.length_append] at hs hl
  rw [List.drop_eq_getElem_cons hi] at hsum
  rw [bC5 hk] at hs hl
  simp only [List.map_cons, List.length_append, List.length_cons, List.length_nil] at hl hsum
  refine ⟨((a.Keys.drop (i + 1)).map az4).flatten, ?_, rfl, rfl⟩
  simp only [ae8, dlt hi, if_true]
  exact bC9 (q := ak5 (pub a.Keys[i])) (by rw [hs]; simp) (bL0 (a48 hz)) hi (by omega) rfl hsh.le (by omega) (by omega) (ba4 (a48 hz)) fun x hx => bL1 hz hx
 ·intro s hs
  rw [List.drop_length] at hs
  simp only [List.map_nil, List.flatten_nil] at hs
  subst hs
  simp [ae8, ak8, bC8]
theorem bL2 {s : Str} (h : s.length ≤ 65536) : bC0 s 0 (min 65536 65536) = s := by
 unfold bC0
 have e1 : min (0 : Int).toNat s.length = 0 := by simp
 rw [e1, List.drop_zero]
 exact List.take_of_length_le (by omega)
theorem a140 (w : aq3 a) (hk : a.Keys.length ≤ 70) (hc : a.Convs.length ≤ 40) (h40 : ∀ k ∈ a.Keys, k.length ≤ 40) (hs : (a.Keys.map aI9).sum ≤ 60000) : ah2 a = some true := by
 obtain ⟨w1, w2, ⟨w3, w4⟩, w5, ⟨w6, w7⟩, w8⟩ := w
 unfold maxLen at w1 w2
 have L : Lim0 a := by
  refine ⟨by omega, by omega, hk, fun k hkm => ⟨by have := h40 k hkm; omega, fun x hx => ?_⟩, hc, fun c hcm => ?_⟩
  ·have h1 := bg9 aI9 hkm
   have h2 : wK x ≤ aI9 k := bg9 wK hx
   unfold wK at h2
   omega
  ·obtain ⟨c1, c2, c3, c4, c5, ⟨c6, c6'⟩, c7, c8, c9, c10⟩ := w7 c hcm
   unfold az8 at c6
   refine ⟨by omega, fun x hx => ?_⟩
   have := c6' x hx
   unfold ap2 maxLen at this
   omega
 unfold ah2
 rw [bg6 L, Option.bind_some]
 cases hr : aE9 a with
 | false => rfl
 | true =>
  have v : Val a := ⟨bU9 L hr, hr⟩
  have hl := bK8 v
  have he : aL7 a 2 = true := by simp [aL7]
  have hrd : aw4 a 2 0 65536 = some (a, (a.Keys.map az4).flatten, 0) := by
   rw [bK3 v (by omega) (bK4 v (by omega))]
   unfold bQ8
   rw [if_pos he, if_neg (by decide), if_neg (by decide)]
   have e : aV5 a 2 = (a.Keys.map az4).flatten := by unfold aV5; rw [if_pos rfl]
   rw [e, bL2 (by omega)]
  simp only [Bool.not_true, Bool.false_eq_true, if_false, hrd, Option.bind_some, decide_true, bs0 v hs]
def nxt (i : Nat) (s : Int) (n : Nat) : Step (Int × Int) Bool := if (40 : Int) < (n : Int) ∨ (60000 : Int) < s then .done true else .cont (s, (i : Int) + 1)
theorem inner {i : Nat} (hi : i < a.Keys.length) (hi2 : a.Keys.length ≤ 70) (hw : (a.Keys[i]).length ≤ az8) (s0 : Int) : ad8 (fun s => ae6 a (i : Int) a.Keys[i] s.1 s.2) (s0, 0) = some (nxt i (aX7 s0 a.Keys[i]) (a.Keys[i]).length) := by
 unfold az8 at hw
 generalize hk : a.Keys[i] = k at hw ⊢
 refine (af8 k.length (fun (s : Int) j => (s, j)) (fun s => ae6 a (i : Int) k s.1 s.2) (fun j s => nxt i (aX7 s (k.drop j)) k.length) (fun _ _ => True) (s0 := s0) trivial ?_ ?_).trans rfl
 ·intro s j hj _
  left
  refine ⟨IntKind.wrap .i64 (s + (wK k[j] : Int)), ?_, ?_, trivial⟩
  ·have e1 : min (List.length (k[j]).Name : Int) 70000 = ((min (k[j]).Name.length 70000 : Nat) : Int) := by omega
   have e2 : min (List.length (k[j]).Value : Int) 70000 = ((min (k[j]).Value.length 70000 : Nat) : Int) := by omega
   have e3 : (8 : Int) + ((min (k[j]).Name.length 70000 : Nat) : Int) + 2 * ((min (k[j]).Value.length 70000 : Nat) : Int) = (wK k[j] : Int) := by unfold wK; omega
   simp only [ae6, dlt hj, if_true, ac8 hi, hk, ac8 hj, Option.bind_some]
   rw [e1, e2, an8 (n := 8 + ((min (k[j]).Name.length 70000 : Nat) : Int)) (by omega) (by omega), an8 (n := 2 * ((min (k[j]).Value.length 70000 : Nat) : Int)) (by omega) (by omega), an8 (n := 8 + ((min (k[j]).Name.length 70000 : Nat) : Int) + 2 * ((min (k[j]).Value.length 70000 : Nat) : Int)) (by omega) (by omega), e3, ac5 (by omega)]
  ·rw [List.drop_eq_getElem_cons hj]; rfl
 ·intro s _
  simp only [ae6, dge, Bool.false_eq_true, if_false, al8, ac8 hi, hk, Option.bind_some, bC8, List.drop_length]
  unfold nxt
  have ef : aX7 s [] = s := rfl
  rw [ef, ac5 (by omega)]
  by_cases h1 : (40 : Int) < (List.length k : Int)
  ·simp [h1]
  ·by_cases h2 : (60000 : Int) < s
   ·simp [h1, h2]
   ·simp [h1, h2]
theorem aD9 (a : aa2) (w : aq3 a) : an7 a = some true := by
 unfold an7
 simp only [bC8, Option.bind_some]
 by_cases g1 : (70 : Int) < (List.length a.Keys : Int)
 ·simp [g1]
 by_cases g2 : (40 : Int) < (List.length a.Convs : Int)
 ·simp [g2]
 simp only [g1, g2, decide_false, Bool.or_self, Bool.false_eq_true, if_false]
 have w4 := w.2.2.1.2
 refine af8 a.Keys.length (fun (s : Int) i => (s, i)) (fun s => ae9 a s.1 s.2) (fun _ _ => true) (fun i s => s = ((((a.Keys.take i).map aI9).sum : Nat) : Int) ∧ s ≤ 60000 ∧ ∀ k ∈ a.Keys.take i, k.length ≤ 40) (s0 := 0) (by simp) ?_ ?_
 ·rintro s i hi ⟨rfl, hs, hk⟩
  have hm := List.getElem_mem hi
  have hin := inner hi (by omega) (w4 _ hm).1 ((((a.Keys.take i).map aI9).sum : Nat) : Int)
  have hbody : ae9 a ((((a.Keys.take i).map aI9).sum : Nat) : Int) (i : Int) = some (nxt i (aX7 ((((a.Keys.take i).map aI9).sum : Nat) : Int) a.Keys[i]) (a.Keys[i]).length) := by
   simp only [ae9, dlt hi, if_true, ac8 hi, Option.bind_some, hin]
  by_cases hx : (40 : Int) < ((a.Keys[i]).length : Int) ∨ (60000 : Int) < aX7 ((((a.Keys.take i).map aI9).sum : Nat) : Int) a.Keys[i]
  ·right
   rw [hbody]; unfold nxt; rw [if_pos hx]
  ·left
   rw [not_or] at hx
   have hfold := aV7 a.Keys[i] ((((a.Keys.take i).map aI9).sum : Nat) : Int) (by omega) (by omega)
   refine ⟨aX7 ((((a.Keys.take i).map aI9).sum : Nat) : Int) a.Keys[i], ?_, rfl, ?_, by omega, ?_⟩
   ·rw [hbody]; unfold nxt; rw [if_neg (by omega)]
   ·rw [hfold, List.take_succ_eq_append_getElem hi, List.map_append, List.sum_append]
    simp
   ·intro k hkm
    rw [List.take_succ_eq_append_getElem hi] at hkm
    rcases List.mem_append.1 hkm with hkm | hkm
    ·exact hk k hkm
    ·obtain rfl := List.mem_singleton.1 hkm
     omega
 ·rintro s ⟨rfl, hs, hk⟩
  rw [List.take_length] at hs hk
  have := a140 w (by omega) (by omega) hk (by omega)
  simp only [ae9, dge, Bool.false_eq_true, if_false, this, Option.map_some]
end Go.Proofs.YtkcnhmohphapfaaGreatDoor
