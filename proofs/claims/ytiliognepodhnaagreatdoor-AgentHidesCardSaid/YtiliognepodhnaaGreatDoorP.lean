import Derived.Test.YtiliognepodhnaaGreatDoorSA
namespace Go.Proofs.YtiliognepodhnaaGreatDoor
open Go.Vm
set_option autoImplicit false
set_option linter.unusedVariables false
set_option linter.unusedSimpArgs false
set_option maxRecDepth 100000
variable {a : aa2} {id : Int}
theorem b02 (v : Val a) (h : id ≤ 16) (off cnt : Int) : bw2 a id off cnt = bK9 a id off cnt := by
 unfold bK9 bw2
 rw [cq6 v h]
 simp only [show ¬ (0 : Int) ≤ -1 by omega, if_false]
theorem b03 {before : List aa1} {x : aa1} (h : chk before x = 0) : x.Name ≠ [] := by
 intro e
 unfold chk at h
 rw [e] at h
 simp [bJ4, ck5, ai7, bJ3] at h
 split at h <;> omega
theorem bg2 : ∀ {before l : List aa1}, bv3 before l = 0 → ∀ x ∈ l, x.Name ≠ []
 | before, y :: r, h, x, hx => by
  unfold bv3 at h
  split at h
  ·rename_i h1
   rcases List.mem_cons.1 hx with rfl | hx
   ·exact b03 (before := before) (by first | exact h1 | omega)
   ·exact bg2 h x hx
  ·rename_i h1
   rcases List.mem_cons.1 hx with rfl | hx
   ·exact b03 (before := before) (by first | exact h | omega)
   ·first | exact absurd h h1 | exact bg2 h x hx
def bM4 (sec : Str) (x : aa1) : aa1 := if ai7 x.Name = true then {x with Value := sec} else x
def az9 (sec : Str) (l : List aa1) : List aa1 := l.map (bM4 sec)
theorem ch8 (sec : Str) (x : aa1) : (bM4 sec x).Name = x.Name := by unfold bM4; split <;> rfl
theorem b04 (sec : Str) : ∀ l : List aa1, pub (az9 sec l) = pub l
 | [] => rfl
 | x :: r => by
  have ih := b04 sec r
  unfold pub az9 at ih ⊢
  rw [List.map_cons, List.filter_cons, List.filter_cons, ch8, ih]
  split
  ·rename_i h
   have : ai7 x.Name = false := by simpa using h
   simp [bM4, this]
  ·rfl
theorem cC9 {sec : Str} (hs : sec.length ≤ 5000) {l : List aa1} (h : Sh l) : Sh (az9 sec l) := by
 refine ⟨by unfold az9; rw [List.length_map]; exact h.len, fun x hx => ?_⟩
 obtain ⟨y, hy, rfl⟩ := List.mem_map.1 hx
 have := h.at_ y hy
 unfold bM4
 split
 ·exact ⟨this.1, hs⟩
 ·exact this
theorem bM5 {s : Str} (h : s ≠ []) : ∃ c, ah0 s 0 = some c ∧ decide ((c.toNat : Int) = 33) = ai7 s := by
 cases s with
 | nil => exact absurd rfl h
 | cons c r =>
  refine ⟨c, by have := @ar0 (c :: r) 0 (by simp); exact this, ?_⟩
  have e : decide ((c.toNat : Int) = 33) = decide (c = 33) := isC c 33
  rw [e]
  unfold ai7
  by_cases q : c = 33
  ·subst q; rfl
  ·have q' : ¬ (33 : UInt8) = c := fun e => q e.symm
   simp [q, q', List.isPrefixOf]
theorem ch9 {sec : Str} {v28 : Int} {v29 : List (List aa1)} {k : List aa1} (hk : k.length ≤ 1000000) (hn : ∀ x ∈ k, x.Name ≠ []) {r : Step (Int × List (List aa1)) Bool} (hr : aj6 v28 v29 (az9 sec k) = some r) : aa9 (fun s => ai1 sec v28 v29 k s.1 s.2) (0, k) = some r := by
 refine (af6 k.length (fun (z : List aa1) i => (i, z)) (fun s => ai1 sec v28 v29 k s.1 s.2) (fun _ _ => r) (fun i z => z = az9 sec (k.take i) ++ k.drop i) (s0 := k) (by simp [az9]) ?_ ?_)
 ·intro z i hi hz
  left
  have hlt : (az9 sec (k.take i)).length = i := by unfold az9; simp; omega
  have hzl : i < z.length := by rw [hz, List.length_append, hlt, List.length_drop]; omega
  have hzi : z[i] = k[i] := by
   have : z[i]? = k[i]? := by rw [hz, List.getElem?_append_right (by omega), hlt, Nat.sub_self, List.getElem?_drop]; simp
   rw [List.getElem?_eq_getElem hzl, List.getElem?_eq_getElem hi] at this
   exact Option.some.inj this
  obtain ⟨c, hc, hcs⟩ := bM5 (hn _ (List.getElem_mem hi))
  have hset : z.set i (bM4 sec k[i]) = az9 sec (k.take (i + 1)) ++ k.drop (i + 1) := by
   rw [hz, List.set_append_right _ _ (by omega), hlt, Nat.sub_self, List.drop_eq_getElem_cons hi, List.set_cons_zero, List.take_succ_eq_append_getElem hi]
   unfold az9
   rw [List.map_append, List.append_assoc]; rfl
  refine ⟨z.set i (bM4 sec k[i]), ?_, rfl, hset⟩
  simp only [ai1, dlt hi, if_true, aa8 hzl, Option.bind_some, hzi, hc, hcs, Int.toNat_natCast]
  rw [ab1 (by omega)]
  unfold bM4
  cases hs : ai7 (k[i]).Name with
  | true => rfl
  | false =>
   simp only [Bool.false_eq_true, if_false]
   rw [← hzi, List.set_getElem_self]
 ·intro z hz
  have : z = az9 sec k := by rw [hz]; simp
  subst this
  simp only [ai1, dge, Bool.false_eq_true, if_false, hr, Option.map_some]
theorem ci0 (v : Val a) (sec : Str) : bf6 {a with Keys := a.Keys.map (az9 sec)} id = bf6 a id := by
 unfold bf6
 split
 ·rw [List.map_map]
  congr 2
  funext k
  show bw0 (az9 sec k) = bw0 k
  unfold bw0
  rw [b04]
 ·rfl
theorem ci1 (v : Val a) {sec : Str} (hs : sec.length ≤ 20) {x_ : ao5} (wx : aE8 x_) : ao0 a x_ (a.Keys.map (az9 sec)) = some true := by
 have wi := wfI wx.1
 have hl := v.lim
 have hlb : Lim {a with Keys := a.Keys.map (az9 sec)} := ⟨hl.owner, hl.seed, by simpa using hl.keys, fun k hk => by
  obtain ⟨y, hy, rfl⟩ := List.mem_map.1 hk
  exact cC9 (by omega) (hl.key y hy), hl.convs, hl.conv⟩
 unfold ao0
 rw [bs4 hlb, Option.bind_some]
 cases hr : aT4 {a with Keys := a.Keys.map (az9 sec)} with
 | false => simp only [Bool.not_false, if_true, ax7, Option.bind_some]
 | true =>
  have vb : Val {a with Keys := a.Keys.map (az9 sec)} := ⟨hlb, hr⟩
  have e1 : b50 {a with Keys := a.Keys.map (az9 sec)} x_.Id = b50 a x_.Id := rfl
  have e2 : b51 {a with Keys := a.Keys.map (az9 sec)} x_.Id = b51 a x_.Id := rfl
  have e3 : cq1 {a with Keys := a.Keys.map (az9 sec)} x_.Id x_.Name = cq1 a x_.Id x_.Name := rfl
  have hd := ce4 (cq3 (id := x_.Id) v)
  simp only [Bool.not_true, Bool.false_eq_true, if_false, bR9 v wi, bR9 vb wi, ce3 v wi, ce3 vb wi, ce2 v wi, ce2 vb wi, e1, e2, e3, Option.bind_some, hd, decide_true, Bool.and_self]
  by_cases h16 : 16 < x_.Id
  ·simp only [h16, decide_true, if_true, ax7, Option.bind_some]
  ·have r1 := b02 v (show x_.Id ≤ 16 by omega) x_.Offset x_.Count
   have r2 := b02 vb (show x_.Id ≤ 16 by omega) x_.Offset x_.Count
   have hF : (bK9 {a with Keys := a.Keys.map (az9 sec)} x_.Id x_.Offset x_.Count).2 = (bK9 a x_.Id x_.Offset x_.Count).2 := by
    unfold bK9
    rw [ci0 v]
    rw [show aj0 {a with Keys := a.Keys.map (az9 sec)} x_.Id = aj0 a x_.Id from rfl]
    split
    ·split
     ·rfl
     ·split <;> rfl
    ·rfl
   simp only [h16, decide_false, Bool.false_eq_true, if_false, bt7 v wi, bt7 vb wi, r1, r2, Option.bind_some, hF, decide_true, if_true, ax7]
theorem aZ0 (a : aa2) (secret : Str) (x_ : ao5) (wa : aE6 a) (ws : List.length secret ≤ maxLen) (wx : aE8 x_) : aw7 a secret x_ = some true := by
 unfold aw7
 rw [cp3 wa, Option.bind_some]
 cases hsm : bK0 a with
 | false => simp only [Bool.not_false, if_true, Option.bind_some, ax7]
 | true =>
  have hl := cd3 hsm
  have hk := hl.keys
  simp only [Bool.not_true, Bool.false_eq_true, if_false]
  by_cases h1 : secret = []
  ·simp only [h1, decide_true, if_true, Option.bind_some, ax7]
  by_cases h2 : (20 : Int) < (List.length secret : Int)
  ·simp only [h1, h2, decide_true, decide_false, Bool.false_eq_true, if_false, if_true, Option.bind_some, ax7]
  by_cases h3 : (1000 : Int) < (List.length x_.Name : Int)
  ·simp only [h1, h2, h3, decide_true, decide_false, Bool.false_eq_true, if_false, if_true, Option.bind_some, ax7]
  simp only [h1, h2, h3, decide_false, Bool.false_eq_true, if_false, bs4 hl, Option.bind_some]
  cases hr : aT4 a with
  | false => simp only [Bool.not_false, if_true, Option.bind_some, ax7]
  | true =>
   have v : Val a := ⟨hl, hr⟩
   simp only [Bool.not_true, Bool.false_eq_true, if_false]
   refine (af6 a.Keys.length (fun (z : List (List aa1)) i => (i, z)) (fun s => aj7 a secret x_ s.1 s.2) (fun _ _ => true) (fun i z => z = (a.Keys.take i).map (az9 secret)) (s0 := []) (by simp) ?_ ?_)
   ·intro z i hi hz
    left
    have hsh := hl.key _ (List.getElem_mem hi)
    have hsl := hsh.len
    have hck : a43 a.Keys[i] = 0 := by
     have := v.key (List.getElem_mem hi)
     unfold bY9 at this
     simp only [Bool.and_eq_true, decide_eq_true_eq] at this
     exact this.1
    have hA : aj6 (i : Int) z (az9 secret a.Keys[i]) = some (.cont ((i : Int) + 1, z ++ [az9 secret a.Keys[i]])) := by
     unfold aj6
     rw [ak3 (by rw [hz]; simp; omega) (by rw [hz]; simp; omega), Option.bind_some, ab1 (by omega)]
    have hap : aF4 40 ([] : List aa1) a.Keys[i] = some a.Keys[i] := by
     rw [ak3 (by simp; omega) (by simp; omega)]; rfl
    refine ⟨z ++ [az9 secret a.Keys[i]], ?_, rfl, by rw [hz, List.take_succ_eq_append_getElem hi, List.map_append]; rfl⟩
    simp only [aj7, dlt hi, if_true, aa8 hi, Option.bind_some, hap]
    exact ch9 hsh.le (bg2 hck) hA
   ·intro z hz
    have : z = a.Keys.map (az9 secret) := by rw [hz]; simp
    subst this
    simp only [aj7, dge, Bool.false_eq_true, if_false, ci1 v (show secret.length ≤ 20 by omega) wx, Option.map_some]
variable {s : Str} {k : List aa1} {c d : aa3}
structure One (c : aa3) : Prop where
 id : c.Id = 1
 fr : ap1 c = false
def Turn (c d c' d' : aa3) : Prop := (¬ c.Phase = 1 ∧ c' = c ∧ d' = d) ∨ ∃ t, a73 c = (c', t, 0) ∧ aE9 d t = (d', 0) ∧ t.length ≤ 1000
theorem w17 : (-9223372036854775808 : Int) ≤ 17 ∧ (17 : Int) ≤ 9223372036854775807 := by omega
structure Round (s s' : aa3 × aa3) : Prop where
 a : One s.1
 b : One s.2
 ex : ∃ c1 d1, Turn s.1 s.2 c1 d1 ∧ Turn d1 c1 s'.2 s'.1 ∧ One c1 ∧ One d1
def cv (p : Str) (r ph st : Int) (k : List aa1) (own peer user : Str) : aa3 := ⟨1, p, r, ph, st, k, own, peer, user, 0⟩
variable {n m : Str}
def t0 (s : Str) : aa2 := ⟨[97, 100, 109], s, [], 1, [], 0⟩
def t1 (s : Str) (k : List aa1) : aa2 := ⟨[97, 100, 109], s, [k], 1, [], 0⟩
def t2 (s : Str) (k : List aa1) : aa2 := ⟨[97, 100, 109], s, [k], 2, [bZ9 1], 0⟩
def aK2 (s : Str) : Str := bS3 s (Go.Lib.itoa 0)
structure Begins (k : List aa1) (t p : Str) (r : Int) (l : List aa1) : Prop where
 e3 : (bt8 ++ [32]).isPrefixOf t = true
 e4 : an7 (t.drop 6) = (l, 0, 0)
 h1 : am1 bc6 l = (p, true)
 h2 : bw3 l = r
 hr : r = 1 ∨ r = 2
 h3 : bF4 (ch0 l) [k] = (k, true)
 hp : ah5 p = true
 h4 : a43 k = 0
 h5 : bf4 k = true
end Go.Proofs.YtiliognepodhnaaGreatDoor
