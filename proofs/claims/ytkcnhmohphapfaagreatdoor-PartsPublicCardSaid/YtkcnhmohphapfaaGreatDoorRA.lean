import Derived.Test.YtkcnhmohphapfaaGreatDoorPA
import Derived.Test.YtkcnhmohphapfaaGreatDoorVmR
import Derived.KernelRfl
namespace Go.Proofs.YtkcnhmohphapfaaGreatDoor
open Go.Vm
set_option autoImplicit false
set_option linter.unusedVariables false
set_option linter.unusedSimpArgs false
set_option maxRecDepth 100000
structure Sh (l : List aa0) : Prop where
 len : l.length ≤ 2000
 at_ : ∀ a ∈ l, a.Name.length ≤ 70000 ∧ a.Value.length ≤ 70000
theorem Sh.ok {l : List aa0} (h : Sh l) : okL l := ⟨by have := h.len; omega, fun a ha => h.at_ a ha⟩
theorem Sh.bg {l : List aa0} (h : Sh l) : bgL l := ⟨by have := h.len; omega, fun a ha => by have := h.at_ a ha; omega⟩
theorem Sh.le {l : List aa0} (h : Sh l) : l.length ≤ 1000000 := by have := h.len; omega
structure ShC (c : aa5) : Prop where
 key : Sh c.Key
structure Lim (a : aa2) : Prop where
 keys : a.Keys.length ≤ 70
 key : ∀ k ∈ a.Keys, Sh k
 convs : a.Convs.length ≤ 40
 conv : ∀ c ∈ a.Convs, ShC c
structure Lim0 (a : aa2) : Prop where
 owner : a.Owner.length ≤ 9223372036854775807
 seed : a.Seed.length ≤ 9223372036854775807
 keys : a.Keys.length ≤ 70
 key : ∀ k ∈ a.Keys, Sh k
 convs : a.Convs.length ≤ 40
 conv : ∀ c ∈ a.Convs, bgL c.Key
theorem bl6 {α : Type} {l : List α} {i : Nat} (h : i < l.length) : l.set i l[i] = l := by simp
theorem bB1 {l : List (List aa0)} (h : l.length ≤ 1000000) : aa7 l = some l := by
 unfold aa7
 rw [ar4 (by simp; omega) (by simp; omega)]; simp
theorem br9 {l : List aa5} (h : l.length ≤ 1000000) : ab0 l = some l := by
 unfold ab0
 rw [ar4 (by simp; omega) (by simp; omega)]; simp
theorem bJ6 {a : aa2} (h : Lim a) : ay8 a = some a := by
 have h1 := h.keys
 have h2 := h.convs
 unfold ay8
 rw [bB1 (by omega), Option.bind_some]
 refine (af8 a.Keys.length (fun (v : List (List aa0)) i => (i, v)) (fun s => al1 a a.Keys s.1 s.2) (fun _ _ => a) (fun _ v => v = a.Keys) (s0 := a.Keys) rfl ?_ ?_)
 ·rintro v i hi rfl
  left
  refine ⟨a.Keys, ?_, rfl, rfl⟩
  simp only [al1, dlt hi, if_true, ac8 hi, Option.bind_some, a44 (h.key _ (List.getElem_mem hi)).le, Int.toNat_natCast, bl6 hi]
  rw [ac5 (by omega)]
 ·rintro v rfl
  have : ad8 (fun s => ah8 a a.Keys a.Convs s.1 s.2) (0, a.Convs) = some a := by
   refine (af8 a.Convs.length (fun (v : List aa5) i => (i, v)) (fun s => ah8 a a.Keys a.Convs s.1 s.2) (fun _ _ => a) (fun _ v => v = a.Convs) (s0 := a.Convs) rfl ?_ ?_)
   ·rintro v i hi rfl
    left
    refine ⟨a.Convs, ?_, rfl, rfl⟩
    simp only [ah8, dlt hi, if_true, ac8 hi, Option.bind_some, a44 (h.conv _ (List.getElem_mem hi)).key.le, Int.toNat_natCast]
    rw [ac5 (by omega), show ({a.Convs[i] with Key := (a.Convs[i]).Key} : aa5) = a.Convs[i] from rfl, bl6 hi]
   ·rintro v rfl
    simp [ah8]
  simp only [al1, dge, Bool.false_eq_true, if_false, at6, br9 (show a.Convs.length ≤ 1000000 by omega), Option.bind_some, this, Option.map_some]
instance : DecidableEq aa0 := fun x y => decidable_of_iff (x.Name = y.Name ∧ x.Value = y.Value ∧ x.Query = y.Query) (by cases x; cases y; simp)
theorem bQ4 {x y : aa0} : (!(decide (x.Name = y.Name) && (decide (x.Value = y.Value) && (decide (x.Query = y.Query) && true)))) = !decide (x = y) := by
 congr 1
 rw [Bool.eq_iff_iff]
 cases x; cases y; simp
theorem bf8 {a b : List aa0} (ha : a.length ≤ 9223372036854775807) : am2 a b = some (decide (a = b)) := by
 unfold am2
 by_cases hl : a.length = b.length
 ·simp only [hl, decide_true, Bool.not_true, Bool.false_eq_true, if_false]
  refine (af8 a.length (fun (_ : Unit) i => i) (fun s => an3 a b s) (fun i _ => decide (a.drop i = b.drop i)) (fun _ _ => True) (s0 := ()) trivial ?_ ?_).trans (by simp)
  ·intro _ i hi _
   have hj : i < b.length := by omega
   simp only [an3, dlt hi, if_true, ac8 hi, ac8 hj, Option.bind_some, bQ4]
   by_cases h : a[i] = b[i]
   ·left
    refine ⟨(), ?_, ?_, trivial⟩
    ·simp only [h, decide_true, Bool.not_true, Bool.false_eq_true, if_false]
     rw [ac5 (by omega)]
    ·rw [List.drop_eq_getElem_cons hi, List.drop_eq_getElem_cons hj, h, decide_eq_decide]
     exact ⟨fun e => (List.cons.inj e).2, fun e => by rw [e]⟩
   ·right
    rw [List.drop_eq_getElem_cons hi, List.drop_eq_getElem_cons hj]
    have hn : ¬ (a[i] :: List.drop (i + 1) a = b[i] :: List.drop (i + 1) b) := fun e => h (List.cons.inj e).1
    simp only [h, hn, decide_false, Bool.not_false, if_true]
  ·intro _ _
   simp [an3, hl]
 ·have h1 : ¬ ((List.length a : Int) = (List.length b : Int)) := by omega
  have h2 : ¬ (a = b) := fun h => hl (by rw [h])
  simp [h1, h2]
def pub (l : List aa0) : List aa0 := l.filter fun a => !af1 a.Name
theorem a45 {l : List aa0} : (pub l).length ≤ l.length := List.length_filter_le _ _
theorem bB2 {l : List aa0} (h : Sh l) : Sh (pub l) := ⟨Nat.le_trans a45 h.len, fun a ha => h.at_ a (List.mem_filter.1 ha).1⟩
theorem bJ7 {l : List (List aa0)} {p : List aa0} (hl : l.length ≤ 1000000) (h : ∀ k ∈ l, k.length ≤ 1000000) : ay5 l p = some (ixF (fun k => decide (pub k = p)) l 0) := by
 unfold ay5
 refine bz4 l _ _ (fun i hi => ?_) ?_
 ·have hk := h _ (List.getElem_mem hi)
  have := @bf8 (pub l[i]) p (Nat.le_trans a45 (by omega))
  unfold pub at this
  simp only [ap5, dlt hi, if_true, ac8 hi, Option.bind_some, aN5 hk, this]
  rw [ac5 (by omega)]
  by_cases q : pub l[i] = p
  ·have q' := q; unfold pub at q'; simp [q, q']
  ·have q' := q; unfold pub at q'; simp [q, q']
 ·simp [ap5]
theorem bB3 {α : Type} (p : α → Bool) : ∀ l : List α, (l.all fun a => !p a) = !(l.any p)
 | [] => rfl
 | a :: r => by simp only [List.all_cons, List.any_cons, bB3 p r, Bool.not_or]
def aL6 : Str := [117, 115, 101, 114]
def bs5 : Str := [33, 115, 101, 99, 114, 101, 116]
def aN6 (n : Str) (l : List aa0) : Str := (aV0 n l).1
def bs6 (l : List aa0) : Bool := decide (aL0 l = 0) && (!(l.any fun a => a.Query) && (decide (1 ≤ (List.length (aN6 aL6 l) : Int)) && (decide ((List.length (aN6 aL6 l) : Int) ≤ 32) && (decide (1 ≤ (List.length (aN6 bs5 l) : Int)) && decide ((List.length (aN6 bs5 l) : Int) ≤ 64)))))
theorem bJ8 {l : List aa0} (h : Sh l) : at3 l = some (bs6 l) := by
 have hl := h.le
 unfold at3 bs6
 rw [aU6 h.bg, Option.bind_some]
 by_cases hc : aL0 l = 0
 ·simp only [hc, decide_true, Bool.not_true, Bool.false_eq_true, if_false, Bool.true_and]
  have hA : an2 l = some (decide (1 ≤ (List.length (aN6 aL6 l) : Int)) && (decide ((List.length (aN6 aL6 l) : Int) ≤ 32) && (decide (1 ≤ (List.length (aN6 bs5 l) : Int)) && decide ((List.length (aN6 bs5 l) : Int) ≤ 64)))) := by
   unfold an2 aD2
   simp only [aL2 (show l.length ≤ 9223372036854775807 by omega), Option.bind_some]
   rfl
  refine (bz5 l (fun a => !a.Query) false (decide (1 ≤ (List.length (aN6 aL6 l) : Int)) && (decide ((List.length (aN6 aL6 l) : Int) ≤ 32) && (decide (1 ≤ (List.length (aN6 bs5 l) : Int)) && decide ((List.length (aN6 bs5 l) : Int) ≤ 64)))) _ (fun i hi => ?_) ?_).trans ?_
  ·simp only [ap4, dlt hi, if_true, ac8 hi, Option.bind_some]
   rw [ac5 (by omega)]
   cases l[i].Query <;> rfl
  ·simp [ap4, hA]
  ·rw [bB3 (fun (a : aa0) => a.Query) l]
   cases (l.any fun a => a.Query) <;> rfl
 ·simp [hc]
def az3 : Str := [99, 104, 97, 108]
def bf9 : Str := [109, 117, 116, 117, 97, 108]
def aI6 : Str := [112, 108, 97, 105, 110]
def ba5 (p : Str) : Int := if p = az3 then 3 else if p = bf9 then 3 else if p = aI6 then 2 else 0
def bl7 (p : Str) : Int := if p = az3 then 2 else 1
def bN1 (p : Str) (role n : Int) : Bool := decide ((decide (Int.tmod n 2 = 0)) = decide (role = bl7 p))
def phS (c : aa5) : Int := if c.Step = ba5 c.Proto then 3 else if bN1 c.Proto c.Role c.Step = true then 1 else 2
theorem aV3 (p : Str) : ad9 p = some (ba5 p) := by
 unfold ad9 ak4 ba5 az3 bf9 aI6
 by_cases h1 : p = [99, 104, 97, 108]
 ·simp [h1]
 ·by_cases h2 : p = [109, 117, 116, 117, 97, 108]
  ·simp [h2]
  ·by_cases h3 : p = [112, 108, 97, 105, 110]
   ·simp [h3]
   ·simp [h1, h2, h3]
theorem bJ9 (p : Str) : ay6 p = some (bl7 p) := by
 unfold ay6 bl7 az3
 by_cases h1 : p = [99, 104, 97, 108] <;> simp [h1]
theorem bg0 (c : aa5) : ay7 c = some (phS c) := by
 unfold ay7 phS
 rw [aV3, Option.bind_some]
 by_cases h : c.Step = ba5 c.Proto
 ·simp [h]
 ·simp only [h, decide_false, Bool.false_eq_true, if_false, bJ9, Option.bind_some]
  unfold bN1
  cases decide (decide (Int.tmod c.Step 2 = 0) = decide (c.Role = bl7 c.Proto)) <;> rfl
def a47 (p : Str) : Bool := decide (p = az3) || (decide (p = bf9) || decide (p = aI6))
theorem ba6 (p : Str) : decide (ba5 p = 0) = !a47 p := by
 unfold ba5 a47
 by_cases h1 : p = az3
 ·simp [h1]
 ·by_cases h2 : p = bf9
  ·simp [h2]
  ·by_cases h3 : p = aI6
   ·subst h3; decide
   ·simp [h1, h2, h3]
variable {c : aa5}
def usr (c : aa5) : Str := aN6 aL6 c.Key
def bK0 (l : List aa0) : Bool := (decide (1 ≤ (List.length (aN6 aL6 l) : Int)) && (decide ((List.length (aN6 aL6 l) : Int) ≤ 32) && (decide (1 ≤ (List.length (aN6 bs5 l) : Int)) && decide ((List.length (aN6 bs5 l) : Int) ≤ 64))))
theorem ba7 {l : List aa0} (h : l.length ≤ 9223372036854775807) : aq1 l = some (aN6 aL6 l) := by
 unfold aq1 aN6 aL6
 rw [aL2 h]; rfl
theorem bg1 {l : List aa0} (h : l.length ≤ 9223372036854775807) : ap6 l = some (aN6 bs5 l) := by
 unfold ap6 aN6 bs5
 rw [aL2 h]; rfl
def bB4 (l : List aa0) : Bool := decide (aL0 l = 0) && bK0 l
theorem bg2 {l : List aa0} (h : bgL l) : ∃ e, ag9 l = some e ∧ decide (e = 0) = bB4 l ∧ (e = 0 ∨ e = aL0 l ∧ aL0 l ≠ 0 ∨ e = 52 ∧ aL0 l = 0) := by
 unfold ag9 bB4
 rw [aU6 h, Option.bind_some]
 by_cases hc : aL0 l = 0
 ·simp only [hc, decide_true, Bool.not_true, Bool.false_eq_true, if_false, ba7 h.1, bg1 h.1, Option.bind_some, Bool.true_and]
  have e : ((decide ((List.length (aN6 aL6 l) : Int) < 1)) || ((decide (32 < (List.length (aN6 aL6 l) : Int))) || ((decide ((List.length (aN6 bs5 l) : Int) < 1)) || (decide (64 < (List.length (aN6 bs5 l) : Int)))))) = !bK0 l := by
   unfold bK0
   rw [Bool.eq_iff_iff]
   simp only [Bool.or_eq_true, decide_eq_true_eq, Bool.not_eq_true', Bool.and_eq_false_iff, decide_eq_false_iff_not]
   omega
  rw [e]
  cases bK0 l with
  | true => exact ⟨0, rfl, rfl, .inl rfl⟩
  | false => exact ⟨52, rfl, rfl, .inr (.inr ⟨rfl, trivial⟩)⟩
 ·refine ⟨aL0 l, by simp [hc], by simp [hc], .inr (.inl ⟨rfl, hc⟩)⟩
def aV4 (c : aa5) : Bool := if c.Proto = az3 then (decide (c.Role = 1) && decide (0 < c.Step)) else if c.Proto = bf9 ∧ c.Role = 2 then decide (0 < c.Step) else (decide (c.Proto = bf9) && decide (1 < c.Step))
theorem bg3 (c : aa5) : ao8 c = some (aV4 c) := by
 unfold ao8 aV4 az3 bf9
 by_cases h1 : c.Proto = [99, 104, 97, 108]
 ·simp [h1]
 ·by_cases h2 : c.Proto = [109, 117, 116, 117, 97, 108] ∧ c.Role = 2
  ·simp [h2.1, h2.2]
  ·have : (decide (c.Proto = [109, 117, 116, 117, 97, 108]) && decide (c.Role = 2)) = false := by
    rw [Bool.and_eq_false_iff, decide_eq_false_iff_not, decide_eq_false_iff_not]
    rcases Classical.not_and_iff_not_or_not.1 h2 with h | h
    ·exact .inl h
    ·exact .inr h
   simp only [h1, decide_false, Bool.false_eq_true, if_false, this, h2]
variable {c : aa5} {a : aa2}
def bU7 (c : aa5) : Bool := !decide (c.Id < 0) && (!decide (1048575 < c.Id) && (a47 c.Proto && ((decide (c.Role = 1) || decide (c.Role = 2)) && (bB4 c.Key && (decide ((List.length c.Own : Int) = 32) && (!decide (c.Step < 0) && !decide (ba5 c.Proto < c.Step)))))))
def bQ5 (c : aa5) : Bool := decide (c.Phase = 4) && decide (phS c = 2)
def stB (c : aa5) : Bool := (bQ5 c || decide (c.Phase = phS c)) && (decide (c.User = if phS c = 3 then usr c else []) && decide (c.Err = if bQ5 c = true then 28 else 0))
def bK1 (c : aa5) : Bool := if aV4 c = true then decide ((List.length c.Peer : Int) = 32) else decide (c.Peer = [])
def aC1 (c : aa5) : Bool := bU7 c && (stB c && bK1 c)
theorem bg4 (hk : bgL c.Key) : al7 c = some (aC1 c) := by
 have hl := hk.1
 obtain ⟨e, he, hd, _⟩ := bg2 hk
 unfold al7
 have hpre : (if decide (c.Id < 0) = true then some true else if decide (1048575 < c.Id) = true then some true else (ad9 c.Proto).bind fun x3 => if decide (x3 = 0) = true then some true else if (!decide (c.Role = 1)) = true then if (!decide (c.Role = 2)) = true then some true else if (!decide ((List.length c.Own : Int) = 32)) = true then some true else if decide (c.Step < 0) = true then some true else (ad9 c.Proto).bind fun x9 => if decide (x9 < c.Step) = true then some true else (ag9 c.Key).bind fun x11 => some (!decide (x11 = 0)) else if (!decide ((List.length c.Own : Int) = 32)) = true then some true else if decide (c.Step < 0) = true then some true else (ad9 c.Proto).bind fun x14 => if decide (x14 < c.Step) = true then some true else (ag9 c.Key).bind fun x16 => some (!decide (x16 = 0))) = some (!bU7 c) := by
  simp only [aV3, Option.bind_some, ba6, he, hd]
  unfold bU7
  by_cases h1 : c.Id < 0
  ·simp [h1]
  by_cases h2 : 1048575 < c.Id
  ·simp [h1, h2]
  by_cases h3 : a47 c.Proto = true
  case neg => rw [Bool.not_eq_true] at h3; simp [h1, h2, h3]
  by_cases h6 : (List.length c.Own : Int) = 32
  case neg =>
   by_cases r1 : c.Role = 1
   ·simp [h1, h2, h3, h6, r1]
   ·by_cases r2 : c.Role = 2
    ·simp [h1, h2, h3, h6, r1, r2]
    ·simp [h1, h2, h3, h6, r1, r2]
  by_cases h7 : c.Step < 0
  ·by_cases r1 : c.Role = 1
   ·simp [h1, h2, h3, h6, h7, r1]
   ·by_cases r2 : c.Role = 2
    ·simp [h1, h2, h3, h6, h7, r1, r2]
    ·simp [h1, h2, h3, h6, h7, r1, r2]
  by_cases h8 : ba5 c.Proto < c.Step
  ·by_cases r1 : c.Role = 1
   ·simp [h1, h2, h3, h6, h7, h8, r1]
   ·by_cases r2 : c.Role = 2
    ·simp [h1, h2, h3, h6, h7, h8, r1, r2]
    ·simp [h1, h2, h3, h6, h7, h8, r1, r2]
  by_cases r1 : c.Role = 1
  ·simp [h1, h2, h3, h6, h7, h8, r1]
  ·by_cases r2 : c.Role = 2
   ·simp [h1, h2, h3, h6, h7, h8, r1, r2]
   ·simp [h1, h2, h3, h6, h7, h8, r1, r2]
 rw [hpre, Option.bind_some]
 unfold aC1
 cases bU7 c with
 | false => rfl
 | true =>
  simp only [Bool.not_true, Bool.false_eq_true, if_false, bg3, Option.bind_some, Bool.true_and]
  have hP : (if aV4 c = true then if (!decide ((List.length c.Peer : Int) = 32)) = true then some true else if (!aV4 c) = true then some (!decide (c.Peer = [])) else some false else if (!aV4 c) = true then some (!decide (c.Peer = [])) else some false) = some (!bK1 c) := by
   unfold bK1
   cases aV4 c with
   | true => by_cases q : (List.length c.Peer : Int) = 32 <;> simp [q]
   | false => simp
  rw [hP, Option.bind_some]
  cases bK1 c with
  | false => simp
  | true =>
   simp only [Bool.not_true, Bool.false_eq_true, if_false, bg0, Option.bind_some, Bool.and_true]
   have hK : ∀ p e : Int, aj7 c p e = some (decide (c.Phase = p) && (decide (c.User = if p = 3 then usr c else []) && decide (c.Err = e))) := by
    intro p e
    unfold aj7
    by_cases h : p = 3
    ·simp only [h, decide_true, if_true, ba7 hl, Option.bind_some]; rfl
    ·simp only [h, decide_false, Bool.false_eq_true, if_false]; rfl
   rw [hK, hK]
   unfold stB bQ5
   by_cases p : phS c = 2
   ·by_cases q : c.Phase = 4
    ·simp [p, q]
    ·simp [p, q]
   ·simp [p]
def aA2 (c : aa5) : Bool := (decide (c.Proto = [])) && ((decide (c.Role = 0)) && ((decide (c.Phase = 0)) && ((decide (c.Step = 0)) && ((decide (c.Key = [])) && ((decide (c.Own = [])) && ((decide (c.Peer = [])) && ((decide (c.User = [])) && (decide (c.Err = 0)))))))))
theorem bg5 (h : c.Key.length ≤ 9223372036854775807) : ao7 c = some (aA2 c) := by
 unfold ao7 av1 aA2
 simp only [bf8 h, Option.bind_some, decide_true, if_true]
 by_cases h1 : c.Proto = []
 case neg => simp [h1]
 by_cases h2 : c.Role = 0
 case neg => simp [h1, h2]
 by_cases h3 : c.Phase = 0
 case neg => simp [h1, h2, h3]
 by_cases h4 : c.Step = 0
 case neg => simp [h1, h2, h3, h4]
 by_cases h5 : c.Key = []
 case neg => simp [h1, h2, h3, h4, h5]
 by_cases h6 : c.Own = []
 case neg => simp [h1, h2, h3, h4, h5, h6]
 by_cases h7 : c.Peer = []
 case neg => simp [h1, h2, h3, h4, h5, h6, h7]
 by_cases h8 : c.User = []
 case neg => simp [h1, h2, h3, h4, h5, h6, h7, h8]
 simp [h1, h2, h3, h4, h5, h6, h7, h8]
def bD7 (l : List (List aa0)) (i : Nat) (k : List aa0) : Bool := bs6 k && !((l.take i).any fun o => decide (pub o = pub k))
theorem bB5 {l : List (List aa0)} {i : Nat} (hi : i < l.length) : decide (ixF (fun k => decide (pub k = pub l[i])) l 0 = (i : Int)) = !((l.take i).any fun o => decide (pub o = pub l[i])) := by
 rw [Bool.eq_iff_iff]
 simp only [decide_eq_true_eq, Bool.not_eq_true', List.any_eq_false]
 rcases aU0 (fun k => decide (pub k = pub l[i])) l 0 with ⟨h1, h2⟩ | ⟨x, k, y, h1, h2, h3, h4⟩
 ·have := h1 _ (List.getElem_mem hi)
  simp at this
 ·rw [h4]
  constructor
  ·intro e o ho
   have e' : x.length = i := by simp at e; omega
   have : l.take i = x := by rw [h1, ← e', List.take_left]
   rw [this] at ho
   simpa using h3 o ho
  ·intro e
   have hle : x.length ≤ i := by
    rcases Nat.lt_or_ge i x.length with q | q
    ·exfalso
     have hx : l[i] = x[i] := by
      have : l[i]? = x[i]? := by rw [h1, List.getElem?_append_left q]
      simpa [hi, q] using this
     have := h3 _ (List.getElem_mem q)
     rw [← hx] at this
     simp at this
    ·exact q
   rcases Nat.lt_or_ge x.length i with q | q
   ·exfalso
    have hm : k ∈ l.take i := by
     rw [h1, List.take_append]
     refine List.mem_append_right _ ?_
     rw [show i - x.length = (i - x.length - 1) + 1 by omega, List.take_succ_cons]
     exact List.mem_cons_self
    have := e k hm
    simp only [decide_eq_true_eq] at h2
    simp [h2] at this
   ·simp; omega
def aI7 (a : aa2) (i : Nat) (c : aa5) : Bool := !decide (c.Id < 1) && (!decide (a.Next ≤ c.Id) && ((match i with | 0 => true | k + 1 => match a.Convs[k]? with | some p => !decide (c.Id ≤ p.Id) | none => false) && (aA2 c || aC1 c)))
def bK2 (a : aa2) : Bool := !((decide (a.Owner = [])) || ((decide (32 < (List.length a.Owner : Int))) || ((decide (1024 < (List.length a.Seed : Int))) || ((decide (a.Next < 1)) || ((decide (1048560 < a.Next)) || ((decide (a.Count < 0)) || (decide (9007199254740991 < a.Count))))))))
def aE9 (a : aa2) : Bool := bK2 a && (!decide (32 < (List.length a.Convs : Int)) && (!decide (64 < (List.length a.Keys : Int)) && (a50 (bD7 a.Keys) 0 a.Keys && a50 (aI7 a) 0 a.Convs)))
theorem bB6 {β : Type} {i : Nat} (hi : i < a.Convs.length) (hl : a.Convs.length ≤ 1000000) (F : aa5 → Option Bool) (hF : F a.Convs[i] = some (aA2 a.Convs[i] || aC1 a.Convs[i])) (f g : aa5 → Option Bool)
  (hf : f a.Convs[i] = some (aA2 a.Convs[i])) (hg : g a.Convs[i] = some (aC1 a.Convs[i])) :
  (if (decide ((a.Convs[i]).Id < 1)) then some true else if (decide (a.Next ≤ (a.Convs[i]).Id)) then some true else if (decide (0 < (i : Int))) then (ao6 a.Convs (IntKind.wrap .i64 ((i : Int) - 1))).bind fun x30 => if (decide ((a.Convs[i]).Id ≤ x30.Id)) then some true else (f a.Convs[i]).bind fun x32 => if (!x32) then (g a.Convs[i]).bind fun x34 => some (!x34) else some false else (f a.Convs[i]).bind fun x35 => if (!x35) then (g a.Convs[i]).bind fun x37 => some (!x37) else some false) = some (!aI7 a i a.Convs[i]) := by
 unfold aI7
 have hfg : ((f a.Convs[i]).bind fun x32 => if (!x32) then (g a.Convs[i]).bind fun x34 => some (!x34) else some false) = some (!(aA2 a.Convs[i] || aC1 a.Convs[i])) := by
  rw [hf, hg, Option.bind_some]
  cases aA2 a.Convs[i] <;> simp
 simp only [hfg]
 by_cases h1 : (a.Convs[i]).Id < 1
 ·simp [h1]
 by_cases h2 : a.Next ≤ (a.Convs[i]).Id
 ·simp [h1, h2]
 simp only [h1, h2, decide_false, Bool.false_eq_true, if_false, Bool.not_false, Bool.true_and]
 cases i with
 | zero => simp
 | succ k =>
  have hk : k < a.Convs.length := by omega
  have hw : IntKind.wrap .i64 (((k + 1 : Nat) : Int) - 1) = (k : Int) := by rw [an8 (by omega) (by omega)]; omega
  have hp : (0 : Int) < ((k + 1 : Nat) : Int) := by omega
  rw [hw, ac8 hk]
  simp only [hp, decide_true, if_true, Option.bind_some, List.getElem?_eq_getElem hk]
  by_cases h3 : (a.Convs[k + 1]).Id ≤ (a.Convs[k]).Id
  ·simp [h3]
  ·simp [h3]
theorem bg6 (h : Lim0 a) : at5 a = some (aE9 a) := by
 have h1 := h.keys
 have h2 := h.convs
 have hC : ad8 (fun s => aj8 a s) 0 = some (a50 (aI7 a) 0 a.Convs) := by
  refine (a97 a.Convs (aI7 a) false true _ (fun i hi => ?_) ?_).trans ?_
  ·have hs := h.conv _ (List.getElem_mem hi)
   simp only [aj8, dlt hi, if_true, ac8 hi, Option.bind_some]
   rw [bB6 (β := Unit) hi (by omega) (fun _ => some (aA2 a.Convs[i] || aC1 a.Convs[i])) rfl ao7 al7 (bg5 hs.1) (bg4 hs), Option.bind_some, ac5 (by omega)]
   cases aI7 a i a.Convs[i] <;> rfl
  ·simp [aj8]
  ·cases a50 (aI7 a) 0 a.Convs <;> rfl
 have hK : ad8 (fun s => aj9 a s) 0 = some (a50 (bD7 a.Keys) 0 a.Keys && a50 (aI7 a) 0 a.Convs) := by
  refine (a97 a.Keys (bD7 a.Keys) false (a50 (aI7 a) 0 a.Convs) _ (fun i hi => ?_) ?_).trans ?_
  ·have hk := h.key _ (List.getElem_mem hi)
   have hp := bB5 hi
   have := @bJ7 a.Keys (pub a.Keys[i]) (by omega) (fun k hk => (h.key k hk).le)
   unfold pub at this
   simp only [aj9, dlt hi, if_true, ac8 hi, Option.bind_some, bJ8 hk, aN5 hk.le, this]
   rw [ac5 (by omega)]
   unfold pub at hp
   rw [hp]
   unfold bD7 pub
   cases bs6 a.Keys[i] <;> cases ((a.Keys.take i).any fun o => decide ((o.filter fun a => !af1 a.Name) = (a.Keys[i]).filter fun a => !af1 a.Name)) <;> rfl
  ·simp [aj9, hC]
  ·cases a50 (bD7 a.Keys) 0 a.Keys <;> rfl
 unfold at5 aE9 bK2
 rw [hK]
 unfold aU2
 by_cases q1 : a.Owner = []
 ·simp [q1]
 by_cases q2 : (32 : Int) < (List.length a.Owner : Int)
 ·simp [q1, q2]
 by_cases q3 : (1024 : Int) < (List.length a.Seed : Int)
 ·simp [q1, q2, q3]
 by_cases q4 : (64 : Int) < (List.length a.Keys : Int)
 ·simp [q1, q2, q3, q4]
 by_cases q5 : (32 : Int) < (List.length a.Convs : Int)
 ·simp [q1, q2, q3, q4, q5]
 simp only [q1, q2, q3, q4, q5, decide_false, Bool.or_self, Bool.false_eq_true, if_false, Option.bind_some, decide_true, Bool.not_true, Bool.or_false, Bool.false_or, Bool.not_false, Bool.true_and]
 cases ((decide (a.Next < 1)) || ((decide (1048560 < a.Next)) || ((decide (a.Count < 0)) || (decide (9007199254740991 < a.Count))))) <;> rfl
structure Val (a : aa2) : Prop where
 lim : Lim a
 ok : aE9 a = true
theorem Val.base (v : Val a) : a.Owner ≠ [] ∧ a.Owner.length ≤ 32 ∧ a.Seed.length ≤ 1024 ∧ 1 ≤ a.Next ∧ a.Next ≤ 1048560 ∧ 0 ≤ a.Count ∧ a.Count ≤ 9007199254740991 ∧ a.Convs.length ≤ 32 ∧ a.Keys.length ≤ 64 := by
 have h := v.ok
 unfold aE9 bK2 at h
 simp only [Bool.and_eq_true, Bool.not_eq_true', Bool.or_eq_false_iff, decide_eq_false_iff_not] at h
 obtain ⟨⟨h1, h2, h3, h4, h5, h6, h7⟩, h8, h9, _⟩ := h
 exact ⟨h1, by omega, by omega, by omega, by omega, by omega, by omega, by omega, by omega⟩
theorem Val.convAt (v : Val a) {i : Nat} (hi : i < a.Convs.length) : 1 ≤ (a.Convs[i]).Id ∧ (a.Convs[i]).Id < a.Next ∧ (aA2 a.Convs[i] = true ∨ aC1 a.Convs[i] = true) := by
 have h := v.ok
 unfold aE9 at h
 simp only [Bool.and_eq_true] at h
 have := aI1.1 h.2.2.2.2 i hi
 unfold aI7 at this
 simp only [Bool.and_eq_true, Bool.not_eq_true', decide_eq_false_iff_not, Bool.or_eq_true] at this
 exact ⟨by omega, by omega, this.2.2.2⟩
theorem Val.conv (v : Val a) {c : aa5} (hc : c ∈ a.Convs) : 1 ≤ c.Id ∧ c.Id < 1048560 := by
 obtain ⟨i, hi, rfl⟩ := List.getElem_of_mem hc
 have := v.convAt hi
 have := v.base
 omega
theorem Val.key (v : Val a) {k : List aa0} (hk : k ∈ a.Keys) : bs6 k = true := by
 obtain ⟨i, hi, rfl⟩ := List.getElem_of_mem hk
 have h := v.ok
 unfold aE9 at h
 simp only [Bool.and_eq_true] at h
 have := aI1.1 h.2.2.2.1 i hi
 unfold bD7 at this
 simp only [Bool.and_eq_true] at this
 exact this.1
def ba8 (a : aa2) (id : Int) : Int := ixF (fun c => decide (c.Id = id - 16)) a.Convs 0
theorem bQ6 {c : aa5} {id : Int} (w : -9223372036854775808 ≤ id ∧ id ≤ 9223372036854775807) (h : 1 ≤ c.Id ∧ c.Id < 1048560) : decide (c.Id = IntKind.wrap .i64 (id - 16)) = decide (c.Id = id - 16) := by
 by_cases q : -9223372036854775792 ≤ id
 ·rw [an8 (by omega) (by omega)]
 ·have : IntKind.wrap .i64 (id - 16) = id - 16 + 18446744073709551616 := by
   have e : IntKind.wrap .i64 (id - 16) = if 9223372036854775808 ≤ (id - 16) % 18446744073709551616 then (id - 16) % 18446744073709551616 - 18446744073709551616 else (id - 16) % 18446744073709551616 := by simp [IntKind.wrap, IntKind.bits, IntKind.signed]
   rw [e]
   split <;> omega
  rw [this, decide_eq_decide]
  omega
theorem bB7 (v : Val a) {id : Int} (w : -9223372036854775808 ≤ id ∧ id ≤ 9223372036854775807) : ar9 a id = some (ba8 a id) := by
 have hb := v.base
 unfold ar9 ac9
 have : ad8 (fun s => aa9 a.Convs id s) 0 = some (ba8 a id) := by
  refine bz4 a.Convs _ _ (fun i hi => ?_) ?_
  ·simp only [aa9, dlt hi, if_true, ac8 hi, Option.bind_some, aB8, bQ6 w (v.conv (List.getElem_mem hi))]
   rw [ac5 (by omega)]
   cases decide ((a.Convs[i]).Id = id - 16) <;> rfl
  ·simp [aa9]
 rw [this]; rfl
def aL7 (a : aa2) (id : Int) : Bool := (decide (1 ≤ id) && decide (id ≤ 4)) || decide (0 ≤ ba8 a id)
theorem bB8 (v : Val a) {id : Int} (w : -9223372036854775808 ≤ id ∧ id ≤ 9223372036854775807) : au5 a id = some (aL7 a id) := by
 unfold au5 aL7
 rw [bB7 v w]
 cases decide (1 ≤ id) <;> cases decide (id ≤ 4) <;> simp
theorem bg7 (v : Val a) (id : Int) : ba8 a id = -1 ∨ ∃ i, ∃ h : i < a.Convs.length, ba8 a id = (i : Int) ∧ (a.Convs[i]).Id = id - 16 ∧ 17 ≤ id ∧ id < 1048576 := by
 rcases aU0 (fun c => decide (c.Id = id - 16)) a.Convs 0 with ⟨h1, h2⟩ | ⟨x, k, y, h1, h2, h3, h4⟩
 ·exact .inl h2
 ·refine .inr ⟨x.length, by rw [h1]; simp, by unfold ba8; rw [h4]; simp, ?_⟩
  have hk : a.Convs[x.length]? = some k := by rw [h1]; simp
  have hi : x.length < a.Convs.length := by rw [h1]; simp
  have e : a.Convs[x.length] = k := by
   rw [List.getElem?_eq_getElem hi] at hk
   exact Option.some.inj hk
  have hid := of_decide_eq_true h2
  have := v.conv (c := k) (by rw [h1]; simp)
  rw [e]
  omega
variable {c : aa5} {a : aa2} {id : Int}
def aL8 (a : aa2) : List Int := [2, 3, 4] ++ a.Convs.map fun c => 16 + c.Id
def az4 (k : List aa0) : Str := [107, 101, 121, 32] ++ (if aL0 (pub k) = 0 then ak5 (pub k) else []) ++ [10]
def aV5 (a : aa2) (id : Int) : Str := if id = 2 then (a.Keys.map az4).flatten else if id = 3 then az3 ++ [10] ++ (bf9 ++ [10]) ++ (aI6 ++ [10]) else []
theorem ba9 {k : List aa0} (h : Sh k) : (az4 k).length ≤ 421000000 := by
 have hp := bB2 h
 have h1 : (ak5 (pub k)).length ≤ 2000 * 210004 + 10 := by
  unfold ak5
  have := bl4 (K := 210003) (sep := [32]) (l := (pub k).map aw9) (fun x hx => by
   obtain ⟨y, hy, rfl⟩ := List.mem_map.1 hx
   exact bl3 (hp.ok.2 y hy))
  have h2 := hp.len
  simp only [List.length_map] at this
  have e1 : List.length ([32] : Str) = 1 := rfl
  rw [e1] at this
  exact Nat.le_trans this (Nat.le_trans (Nat.mul_le_mul_right (210003 + 1) h2) (by decide))
 unfold az4
 split <;> simp <;> omega
theorem bl8 : ∀ {l : List (List aa0)}, (∀ k ∈ l, Sh k) → (l.map az4).flatten.length ≤ l.length * 421000000
 | [], _ => by simp
 | k :: r, h => by
  have h1 := ba9 (h k (by simp))
  have h2 := bl8 (l := r) fun x hx => h x (by simp [hx])
  simp only [List.map_cons, List.flatten_cons, List.length_append, List.length_cons]
  omega
theorem bB9 (v : Val a) : (aV5 a id).length ≤ 29500000000 := by
 have hb := v.base
 unfold aV5
 split
 ·have := bl8 (l := a.Keys) v.lim.key
  omega
 ·split
  ·decide
  ·simp
theorem bg8 (v : Val a) : al3 a id = some (aV5 a id) := by
 have hb := v.base
 unfold al3 aV5
 by_cases h2 : id = 2
 ·simp only [h2, decide_true, if_true]
  refine (af8 a.Keys.length (fun (s : Str) i => (i, s)) (fun s => ag6 a s.1 s.2) (fun i s => s ++ ((a.Keys.drop i).map az4).flatten) (fun i s => s.length ≤ i * 421000000) (s0 := []) (by simp) ?_ ?_).trans rfl
  ·intro s i hi hs
   left
   have hk := v.lim.key _ (List.getElem_mem hi)
   have hl := ba9 hk
   have hp := bJ1 (bB2 hk).ok
   unfold pub at hp
   refine ⟨s ++ az4 a.Keys[i], ?_, ?_, ?_⟩
   ·simp only [ag6, dlt hi, if_true, ac8 hi, Option.bind_some, ba3 hk.le, hp]
    have e : (if aL0 (List.filter (fun a => !af1 a.Name) a.Keys[i]) = 0 then (ak5 (List.filter (fun a => !af1 a.Name) a.Keys[i]), (0 : Int)) else ([], aL0 (List.filter (fun a => !af1 a.Name) a.Keys[i]))).1 = (if aL0 (pub a.Keys[i]) = 0 then ak5 (pub a.Keys[i]) else []) := by
     unfold pub; split <;> rfl
    rw [e]
    unfold az4 at hl ⊢
    generalize (if aL0 (pub a.Keys[i]) = 0 then ak5 (pub a.Keys[i]) else []) = X at hl ⊢
    have hX : X.length ≤ 421000000 := by simp at hl; omega
    have c1 : aM7 [107, 101, 121, 32] X = some ([107, 101, 121, 32] ++ X) := by unfold aM7; rw [if_pos (by simp; omega)]
    have c2 : aM7 ([107, 101, 121, 32] ++ X) [10] = some ([107, 101, 121, 32] ++ X ++ [10]) := by unfold aM7; rw [if_pos (by simp; omega)]
    have c3 : bAdd s ([107, 101, 121, 32] ++ X ++ [10]) = some (s ++ ([107, 101, 121, 32] ++ X ++ [10])) := by unfold bAdd; rw [if_pos (by simp; omega)]
    rw [c1, Option.bind_some, c2, Option.bind_some, c3, Option.bind_some, ac5 (by omega)]
   ·rw [List.drop_eq_getElem_cons hi, List.map_cons, List.flatten_cons, List.append_assoc]
   ·simp only [List.length_append]; omega
  ·intro s hs
   simp [ag6, ai0]
 ·by_cases h3 : id = 3
  ·subst h3
   have n2 : ¬ (3 : Int) = 2 := by decide
   simp only [n2, decide_true, decide_false, if_true, Bool.false_eq_true, if_false, aF8, Option.bind_some]
   have b1 : af4 [[99, 104, 97, 108], [109, 117, 116, 117, 97, 108], [112, 108, 97, 105, 110]] 0 [] = some (.cont (1, az3 ++ [10])) := by kernel_rfl
   have b2 : af4 [[99, 104, 97, 108], [109, 117, 116, 117, 97, 108], [112, 108, 97, 105, 110]] 1 (az3 ++ [10]) = some (.cont (2, az3 ++ [10] ++ (bf9 ++ [10]))) := by kernel_rfl
   have b3 : af4 [[99, 104, 97, 108], [109, 117, 116, 117, 97, 108], [112, 108, 97, 105, 110]] 2 (az3 ++ [10] ++ (bf9 ++ [10])) = some (.cont (3, az3 ++ [10] ++ (bf9 ++ [10]) ++ (aI6 ++ [10]))) := by kernel_rfl
   have b4 : af4 [[99, 104, 97, 108], [109, 117, 116, 117, 97, 108], [112, 108, 97, 105, 110]] 3 (az3 ++ [10] ++ (bf9 ++ [10]) ++ (aI6 ++ [10])) = some (.done (az3 ++ [10] ++ (bf9 ++ [10]) ++ (aI6 ++ [10]))) := by kernel_rfl
   rw [aw0 (s' := (1, az3 ++ [10])) b1, aw0 (s' := (2, az3 ++ [10] ++ (bf9 ++ [10]))) b2, aw0 (s' := (3, az3 ++ [10] ++ (bf9 ++ [10]) ++ (aI6 ++ [10]))) b3, aw1 b4]
  ·simp only [h2, h3, decide_false, Bool.false_eq_true, if_false]; rfl
theorem ar7 {x y : Str} (h : x.length + y.length ≤ 9223372036854775807) : aM7 x y = some (x ++ y) := by unfold aM7; rw [if_pos h]
def bC0 (s : Str) (off cnt : Int) : Str := (s.drop (min off.toNat s.length)).take cnt.toNat
theorem bQ7 {s : Str} {off cnt : Int} (h0 : 0 ≤ off) (h1 : 0 ≤ cnt) (hs : s.length ≤ 30000000000) :
  ((cut s (min off (List.length s : Int)) (List.length s : Int)).bind fun x => cut x 0 (min (min cnt 65536) (List.length x : Int))) = some (bC0 s off (min cnt 65536)) := by
 have e1 : min off (List.length s : Int) = ((min off.toNat s.length : Nat) : Int) := by omega
 rw [e1, ay4 (by omega), Option.bind_some]
 generalize hk : min off.toNat s.length = k
 have e2 : min (min cnt 65536) (List.length (s.drop k) : Int) = ((min (min cnt 65536).toNat (s.drop k).length : Nat) : Int) := by omega
 rw [e2, aT9 (by omega)]
 unfold bC0
 rw [hk]
 congr 1
 rcases Nat.le_total (min cnt 65536).toNat (s.drop k).length with q | q
 ·rw [Nat.min_eq_left q]
 ·rw [Nat.min_eq_right q, List.take_of_length_le (Nat.le_refl _), List.take_of_length_le q]
def bQ8 (a : aa2) (id off cnt : Int) : aa2 × Str × Int :=
 if aL7 a id = true then (if id = 1 then (a, [], 10) else if off < 0 ∨ cnt < 0 then (a, [], 1) else (a, bC0 (aV5 a id) off (min cnt 65536), 0)) else (a, [], 8)
theorem bK3 (v : Val a) (w : -9223372036854775808 ≤ id ∧ id ≤ 9223372036854775807) (hc : ba8 a id = -1) (off cnt : Int) : aw4 a id off cnt = some (bQ8 a id off cnt) := by
 unfold aw4 bQ8
 rw [bJ6 v.lim, Option.bind_some, bB8 v w, Option.bind_some]
 cases he : aL7 a id with
 | false => rfl
 | true =>
  by_cases h1 : id = 1
  ·simp [h1]
  ·by_cases h2 : off < 0 ∨ cnt < 0
   ·have : (decide (off < 0) || decide (cnt < 0)) = true := by simpa using h2
    simp [h1, h2, this]
   ·have h2' : (decide (off < 0) || decide (cnt < 0)) = false := by
     rw [Bool.or_eq_false_iff, decide_eq_false_iff_not, decide_eq_false_iff_not]; omega
    have hl := bB9 (id := id) v
    have hp := bQ7 (s := aV5 a id) (off := off) (cnt := cnt) (by omega) (by omega) (by omega)
    have hn : ¬ (0 : Int) ≤ -1 := by omega
    simp only [h1, h2, h2', decide_false, Bool.not_true, Bool.false_eq_true, if_false, if_true, bB7 v w, hc, hn, Option.bind_some, bg8 v]
    cases hcut : cut (aV5 a id) (min off (List.length (aV5 a id) : Int)) (List.length (aV5 a id) : Int) with
    | none => rw [hcut] at hp; cases hp
    | some x =>
     rw [hcut, Option.bind_some] at hp
     rw [Option.bind_some, hp]; rfl
theorem bK4 (v : Val a) (h : id ≤ 16) : ba8 a id = -1 := by
 rcases bg7 v id with q | ⟨i, hi, _, _, q, _⟩
 ·exact q
 ·omega
theorem bK5 {l : List Int} (h : ∀ (i : Nat) (hi : i + 1 < l.length), l[i] < l[i + 1]) : l.Pairwise (fun x y => x < y) := by
 rw [List.pairwise_iff_getElem]
 intro i j hi hj hij
 induction j with
 | zero => omega
 | succ j ih =>
  rcases Nat.lt_or_ge i j with q | q
  ·exact Int.lt_trans (ih (by omega) q) (h j hj)
  ·have : i = j := by omega
   subst this; exact h i hj
theorem aV6 {i : Nat} (hi : i < a.Convs.length) : aI7 a i a.Convs[i] = true ↔ (1 ≤ (a.Convs[i]).Id ∧ (a.Convs[i]).Id < a.Next ∧ (aA2 a.Convs[i] = true ∨ aC1 a.Convs[i] = true)) ∧ ∀ (k : Nat) (hk : k + 1 = i), (a.Convs[k]'(by omega)).Id < (a.Convs[i]).Id := by
 unfold aI7
 simp only [Bool.and_eq_true, Bool.not_eq_true', decide_eq_false_iff_not, Bool.or_eq_true]
 cases i with
 | zero =>
  constructor
  ·rintro ⟨h1, h2, _, h3⟩; exact ⟨⟨by omega, by omega, h3⟩, fun k hk => by omega⟩
  ·rintro ⟨⟨h1, h2, h3⟩, _⟩; exact ⟨by omega, by omega, rfl, h3⟩
 | succ k =>
  have hk : k < a.Convs.length := by omega
  simp only [List.getElem?_eq_getElem hk, Bool.not_eq_true', decide_eq_false_iff_not]
  constructor
  ·rintro ⟨h1, h2, h4, h3⟩
   refine ⟨⟨by omega, by omega, h3⟩, fun j hj => ?_⟩
   obtain rfl : j = k := by omega
   omega
  ·rintro ⟨⟨h1, h2, h3⟩, h4⟩
   have := h4 k rfl
   exact ⟨by omega, by omega, by omega, h3⟩
structure bC1 (n : Int) (l : List aa5) : Prop where
 asc : (l.map fun c => c.Id).Pairwise (fun x y => x < y)
 ok : ∀ c ∈ l, 1 ≤ c.Id ∧ c.Id < n ∧ (aA2 c = true ∨ aC1 c = true)
theorem bC2 : a50 (aI7 a) 0 a.Convs = true ↔ bC1 a.Next a.Convs := by
 rw [aI1]
 constructor
 ·intro h
  have h' : ∀ (i : Nat) (hi : i < a.Convs.length), aI7 a i a.Convs[i] = true := fun i hi => by
   have := h i hi
   rwa [Nat.zero_add] at this
  refine ⟨bK5 fun i hi => ?_, fun c hc => ?_⟩
  ·simp only [List.length_map] at hi
   simp only [List.getElem_map]
   exact ((aV6 hi).1 (h' _ hi)).2 i rfl
  ·obtain ⟨i, hi, rfl⟩ := List.getElem_of_mem hc
   exact ((aV6 hi).1 (h' _ hi)).1
 ·intro h i hi
  rw [Nat.zero_add]
  refine (aV6 hi).2 ⟨h.ok _ (List.getElem_mem hi), fun k hk => ?_⟩
  have := List.pairwise_iff_getElem.1 h.asc k i (by simp; omega) (by simpa using hi) (by omega)
  simpa only [List.getElem_map] using this
structure bN2 (l : List (List aa0)) : Prop where
 one : (l.map pub).Pairwise (fun x y => x ≠ y)
 ok : ∀ k ∈ l, bs6 k = true
theorem bK6 {l : List (List aa0)} : a50 (bD7 l) 0 l = true ↔ bN2 l := by
 rw [aI1]
 constructor
 ·intro h
  refine ⟨?_, fun k hk => ?_⟩
  ·rw [List.pairwise_iff_getElem]
   intro i j hi hj hij e
   simp only [List.length_map] at hi hj
   simp only [List.getElem_map] at e
   have := h j hj
   unfold bD7 at this
   simp only [Bool.and_eq_true, Bool.not_eq_true', List.any_eq_false, decide_eq_true_eq, Nat.zero_add] at this
   refine this.2 l[i] ?_ e
   have hm : l[i] = (l.take j)[i]'(by simp; omega) := by simp
   rw [hm]; exact List.getElem_mem _
  ·obtain ⟨i, hi, rfl⟩ := List.getElem_of_mem hk
   have := h i hi
   unfold bD7 at this
   simp only [Bool.and_eq_true] at this
   exact this.1
 ·rintro ⟨h1, h2⟩ i hi
  unfold bD7
  simp only [Nat.zero_add, h2 _ (List.getElem_mem hi), Bool.true_and, Bool.not_eq_true', List.any_eq_false, decide_eq_true_eq]
  intro o ho e
  obtain ⟨j, hj, rfl⟩ := List.getElem_of_mem ho
  simp only [List.length_take] at hj
  have := List.pairwise_iff_getElem.1 h1 j i (by simp; omega) (by simpa using hi) (by omega)
  simp only [List.getElem_map] at this
  rw [List.getElem_take] at e
  exact this e
structure OKA (a : aa2) : Prop where
 base : bK2 a = true
 nc : a.Convs.length ≤ 32
 nk : a.Keys.length ≤ 64
 keys : bN2 a.Keys
 convs : bC1 a.Next a.Convs
theorem bC3 : aE9 a = true ↔ OKA a := by
 unfold aE9
 simp only [Bool.and_eq_true, Bool.not_eq_true', decide_eq_false_iff_not, bC2, bK6]
 constructor
 ·rintro ⟨h1, h2, h3, h4, h5⟩; exact ⟨h1, by omega, by omega, h4, h5⟩
 ·rintro ⟨h1, h2, h3, h4, h5⟩; exact ⟨h1, by omega, by omega, h4, h5⟩
variable {a : aa2}
def wK (x : aa0) : Nat := 8 + min x.Name.length 70000 + 2 * min x.Value.length 70000
def aI9 (l : List aa0) : Nat := (l.map wK).sum
theorem bU8 (x : aa0) : 8 ≤ wK x ∧ wK x ≤ 210008 := by unfold wK; omega
def aX7 (s : Int) (l : List aa0) : Int := l.foldl (fun s x => IntKind.wrap .i64 (s + (wK x : Int))) s
theorem aV7 : ∀ (l : List aa0) (s : Int), 0 ≤ s → s + l.length * 210008 ≤ 9000000000000000000 → aX7 s l = s + (aI9 l : Int)
 | [], s, _, _ => by simp [aX7, aI9]
 | x :: r, s, h0, h1 => by
  have hw := bU8 x
  simp only [List.length_cons] at h1
  have hh : aX7 s (x :: r) = aX7 (IntKind.wrap .i64 (s + (wK x : Int))) r := rfl
  rw [hh, an8 (by omega) (by omega), aV7 r _ (by omega) (by omega)]
  simp only [aI9, List.map_cons, List.sum_cons]
  omega
theorem bg9 {α : Type} (f : α → Nat) : ∀ {l : List α} {x : α}, x ∈ l → f x ≤ (l.map f).sum
 | y :: r, x, h => by
  simp only [List.map_cons, List.sum_cons]
  rcases List.mem_cons.1 h with rfl | h
  ·omega
  ·have := bg9 f h; omega
theorem a04 {α : Type} (f : α → Nat) (p : α → Bool) : ∀ (l : List α), ((l.filter p).map f).sum ≤ (l.map f).sum
 | [] => by simp
 | x :: r => by
  have := a04 f p r
  rw [List.filter_cons]
  split
  ·simp only [List.map_cons, List.sum_cons]; omega
  ·simp only [List.map_cons, List.sum_cons]; omega
theorem bK7 {s : Str} (h : at7 s = true) : s.length ≤ 33 := by
 unfold at7 bs4 at h
 have hb : ∀ t : Str, aI5 t = true → t.length ≤ 32 := by
  intro t ht
  cases t with
  | nil => simp [aI5] at ht
  | cons c r =>
   rw [aD6] at ht
   simp only [Bool.and_eq_true, decide_eq_true_eq] at ht
   exact ht.2
 split at h
 ·have := hb _ h
  rw [List.length_drop] at this; omega
 ·have := hb _ h; omega
theorem bC4 {before : List aa0} {a : aa0} (h : chk before a = 0) : before.length < 32 := by
 unfold chk at h
 split at h
 ·cases h
 ·rename_i h1; omega
theorem bl9 : ∀ {l before : List aa0}, aw8 before l = 0 → l.length ≤ 32 ∧ (l ≠ [] → before.length + l.length ≤ 32) ∧ ∀ a ∈ l, a.Name.length ≤ 33 ∧ a.Value.length ≤ 1024
 | [], _, _ => ⟨by simp, fun h => absurd rfl h, by simp⟩
 | x :: r, before, h => by
  unfold aw8 at h
  split at h
  ·rename_i h0
   obtain ⟨n1, n2, n3, n4, n5⟩ := aD7 h0
   have hl := bC4 h0
   obtain ⟨i1, i2, i3⟩ := bl9 h
   have hlen : before.length + (r.length + 1) ≤ 32 := by
    by_cases hr : r = []
    ·subst hr; simp; omega
    ·have := i2 hr
     simp only [List.length_append, List.length_cons, List.length_nil] at this
     omega
   refine ⟨by simp only [List.length_cons]; omega, fun _ => by simpa only [List.length_cons] using hlen, fun y hy => ?_⟩
   rcases List.mem_cons.1 hy with rfl | hy
   ·exact ⟨bK7 n1, n4⟩
   ·exact i3 y hy
  ·rename_i h0; exact absurd h h0
theorem bQ9 {l : List aa0} (h : aL0 l = 0) : Sh l := by
 obtain ⟨h1, _, h3⟩ := bl9 h
 exact ⟨by omega, fun a ha => by have := h3 a ha; omega⟩
theorem bU9 (h : Lim0 a) (hr : aE9 a = true) : Lim a := by
 refine ⟨h.keys, h.key, h.convs, fun c hc => ⟨?_⟩⟩
 obtain ⟨_, _, h3⟩ := (bC3.1 hr).convs.ok c hc
 rcases h3 with h3 | h3
 ·unfold aA2 at h3
  simp only [Bool.and_eq_true, decide_eq_true_eq] at h3
  have : c.Key = [] := h3.2.2.2.2.1
  rw [this]
  exact ⟨by simp, by simp⟩
 ·have h4 : bB4 c.Key = true := by
   unfold aC1 bU7 at h3
   simp only [Bool.and_eq_true] at h3
   exact h3.1.2.2.2.2.1
  unfold bB4 at h4
  simp only [Bool.and_eq_true, decide_eq_true_eq] at h4
  exact bQ9 h4.1
theorem bh0 {b b' : List aa0} {n : Str} (hs : b'.Sublist b) (h : aq8 b n = false) : aq8 b' n = false := by
 unfold aq8 at h ⊢
 rw [List.any_eq_false] at h ⊢
 exact fun x hx => h x (hs.subset hx)
theorem bR0 {b b' : List aa0} {a : aa0} (hs : b'.Sublist b) (h : chk b a = 0) : chk b' a = 0 := by
 obtain ⟨n1, n2, n3, n4, n5⟩ := aD7 h
 have hl := bC4 h
 have hl' := hs.length_le
 unfold chk
 rw [if_neg (by omega), if_neg (by rw [n1]; simp), if_neg (by rw [n2, n3]; simp), if_neg (by omega), if_neg (by rw [bh0 hs n5]; simp)]
theorem aC2 (p : aa0 → Bool) : ∀ {l b b' : List aa0}, b'.Sublist b → aw8 b l = 0 → aw8 b' (l.filter p) = 0
 | [], b, b', _, _ => rfl
 | x :: r, b, b', hs, h => by
  unfold aw8 at h
  split at h
  ·rename_i h0
   rw [List.filter_cons]
   split
   ·unfold aw8
    rw [if_pos (bR0 hs h0)]
    exact aC2 p (hs.append (List.Sublist.refl _)) h
   ·exact aC2 p (hs.trans (List.sublist_append_left _ _)) h
  ·rename_i h0; exact absurd h h0
theorem a48 {l : List aa0} (h : aL0 l = 0) : aL0 (pub l) = 0 := aC2 _ (List.Sublist.refl _) h
theorem bh1 {k : List aa0} (h : bs6 k = true) : aL0 k = 0 ∧ k ≠ [] := by
 unfold bs6 at h
 simp only [Bool.and_eq_true, decide_eq_true_eq] at h
 refine ⟨h.1, fun e => ?_⟩
 have := h.2.2.1
 rw [e] at this
 simp [aN6, aV0] at this
theorem bC5 {k : List aa0} (h : bs6 k = true) : az4 k = [107, 101, 121, 32] ++ ak5 (pub k) ++ [10] := by
 unfold az4
 rw [if_pos (a48 (bh1 h).1)]
theorem bC6 (x : aa0) : (aw9 x).length ≤ x.Name.length + 2 * x.Value.length + 3 := by
 have := aL1 x.Value
 unfold aw9
 split <;> simp <;> omega
theorem bm0 : ∀ (l : List aa0), (Go.Lib.joinTail [32] (l.map aw9)).length ≤ (l.map fun x => x.Name.length + 2 * x.Value.length + 4).sum
 | [] => by simp [Go.Lib.joinTail]
 | x :: r => by
  have := bm0 r
  have hx := bC6 x
  unfold Go.Lib.joinTail at this ⊢
  simp only [List.map_cons, List.flatten_cons, List.length_append, List.length_cons, List.length_nil, List.sum_cons]
  omega
theorem bC7 (l : List aa0) : (ak5 l).length + 1 ≤ (l.map fun x => x.Name.length + 2 * x.Value.length + 4).sum + 1 ∧ (l ≠ [] → (ak5 l).length + 1 ≤ (l.map fun x => x.Name.length + 2 * x.Value.length + 4).sum) := by
 have : l ≠ [] → (ak5 l).length + 1 ≤ (l.map fun x => x.Name.length + 2 * x.Value.length + 4).sum := by
  intro hn
  cases l with
  | nil => exact absurd rfl hn
  | cons x r =>
   have h1 := bm0 r
   have h2 := bC6 x
   unfold ak5
   rw [List.map_cons, Go.Lib.join_cons]
   simp only [List.length_append, List.map_cons, List.sum_cons]
   omega
 refine ⟨?_, this⟩
 by_cases hn : l = []
 ·subst hn; simp [ak5, Go.Lib.join_nil]
 ·have := this hn; omega
theorem sum4 : ∀ (l : List aa0), (∀ x ∈ l, x.Name.length ≤ 70000 ∧ x.Value.length ≤ 70000) → (l.map fun x => x.Name.length + 2 * x.Value.length + 4).sum + 4 * l.length = aI9 l
 | [], _ => rfl
 | x :: r, h => by
  have h1 := sum4 r fun y hy => h y (by simp [hy])
  have h2 := h x (by simp)
  simp only [aI9, List.map_cons, List.sum_cons, List.length_cons] at h1 ⊢
  have : wK x = 8 + x.Name.length + 2 * x.Value.length := by unfold wK; omega
  omega
theorem bm1 {k : List aa0} (hs : Sh k) (h : bs6 k = true) : (az4 k).length ≤ aI9 k := by
 rw [bC5 h]
 have hk := (bh1 h).2
 have h1 := sum4 (pub k) fun x hx => (bB2 hs).at_ x hx
 have h2 : aI9 (pub k) ≤ aI9 k := a04 wK _ k
 have h3 : 8 ≤ aI9 k := by
  cases k with
  | nil => exact absurd rfl hk
  | cons x r =>
   have := bU8 x
   simp only [aI9, List.map_cons, List.sum_cons]; omega
 simp only [List.length_append, List.length_cons, List.length_nil]
 by_cases hp : pub k = []
 ·rw [hp]
  simp [ak5, Go.Lib.join_nil]; omega
 ·have h4 := (bC7 (pub k)).2 hp
  have h5 : 1 ≤ (pub k).length := by
   cases hq : pub k with
   | nil => exact absurd hq hp
   | cons _ _ => simp
  omega
theorem bK8 (v : Val a) : ((a.Keys.map az4).flatten).length ≤ (a.Keys.map aI9).sum := by
 have : ∀ l : List (List aa0), (∀ k ∈ l, Sh k ∧ bs6 k = true) → ((l.map az4).flatten).length ≤ (l.map aI9).sum := by
  intro l
  induction l with
  | nil => intro _; simp
  | cons k r ih =>
   intro h
   have h1 := ih fun x hx => h x (by simp [hx])
   have h2 := bm1 (h k (by simp)).1 (h k (by simp)).2
   simp only [List.map_cons, List.flatten_cons, List.length_append, List.sum_cons]
   omega
 exact this _ fun k hk => ⟨v.lim.key k hk, v.key hk⟩
theorem bR1 {s : Str} (h : at7 s = true) : (10 : UInt8) ∉ s := by
 intro hm
 have k : ∀ c : UInt8, aK9 c = true → c ≠ 10 := by
  intro c hc e; subst e; revert hc; decide
 unfold at7 bs4 at h
 have hb : ∀ t : Str, aI5 t = true → (10 : UInt8) ∉ t := by
  intro t ht
  cases t with
  | nil => simp [aI5] at ht
  | cons c r =>
   rw [aD6] at ht
   simp only [Bool.and_eq_true] at ht
   intro hm
   exact k 10 (List.all_eq_true.1 ht.1.2 10 hm) rfl
 split at h
 ·rename_i hs
  unfold af1 at hs
  cases s with
  | nil => simp at hm
  | cons c r =>
   simp only [List.isPrefixOf, Bool.and_true, beq_iff_eq] at hs
   subst hs
   rcases List.mem_cons.1 hm with e | hm
   ·cases e
   ·exact hb _ h (by simpa using hm)
 ·exact hb _ h hm
theorem bK9 {s : Str} (h : aw7 s = true) : (10 : UInt8) ∉ an9 s := by
 have h1 : (10 : UInt8) ∉ s := by
  intro hm
  have := List.all_eq_true.1 h 10 hm
  revert this; decide
 have h2 : (10 : UInt8) ∉ dbl s := by
  unfold dbl
  rw [List.mem_flatMap]
  rintro ⟨c, hc, hm⟩
  split at hm
  ·simp at hm
  ·simp only [List.mem_singleton] at hm
   subst hm; exact h1 hc
 unfold an9
 split
 ·simp [h2]
 ·exact h1
theorem bR2 {x : aa0} (h1 : at7 x.Name = true) (h2 : aw7 x.Value = true) : (10 : UInt8) ∉ aw9 x := by
 have a1 := bR1 h1
 have a2 := bK9 h2
 unfold aw9
 split
 ·simp [a1]
 ·simp [a1, a2]
theorem az5 : ∀ {l before : List aa0}, aw8 before l = 0 → ∀ a ∈ l, at7 a.Name = true ∧ aw7 a.Value = true
 | [], _, _, a, ha => by simp at ha
 | x :: r, before, h, a, ha => by
  unfold aw8 at h
  split at h
  ·rename_i h0
   rcases List.mem_cons.1 ha with rfl | ha
   ·exact ⟨(aD7 h0).1, (aD7 h0).2.2.1⟩
   ·exact az5 h a ha
  ·rename_i h0; exact absurd h h0
theorem bL0 {l : List aa0} (h : aL0 l = 0) : (10 : UInt8) ∉ ak5 l := by
 have hw : ∀ x ∈ l, (10 : UInt8) ∉ aw9 x := fun x hx => bR2 (az5 h x hx).1 (az5 h x hx).2
 unfold ak5
 cases l with
 | nil => simp [Go.Lib.join_nil]
 | cons x r =>
  rw [List.map_cons, Go.Lib.join_cons]
  unfold Go.Lib.joinTail
  simp only [List.mem_append, List.mem_flatten, List.mem_map, not_or]
  refine ⟨hw x (by simp), ?_⟩
  rintro ⟨_, ⟨_, ⟨y, hy, rfl⟩, rfl⟩, hm⟩
  simp only [List.cons_append, List.nil_append, List.mem_cons] at hm
  rcases hm with hm | hm
  ·cases hm
  ·exact hw y (by simp [hy]) hm
theorem bL1 {k : List aa0} (h : aL0 k = 0) {x : aa0} (hx : x ∈ pub k) : ∃ c r, x.Name = c :: r ∧ decide ((c.toNat : Int) = 33) = false := by
 have hn := (az5 (a48 h) x hx).1
 have hs : af1 x.Name = false := by
  have := (List.mem_filter.1 hx).2
  simpa using this
 cases hc : x.Name with
 | nil =>
  rw [hc] at hn
  have : at7 [] = false := by decide
  rw [this] at hn; cases hn
 | cons c r =>
  refine ⟨c, r, rfl, ?_⟩
  rw [hc] at hs
  unfold af1 at hs
  simp only [List.isPrefixOf, Bool.and_true, beq_eq_false_iff_ne] at hs
  refine decide_eq_false fun e => hs (UInt8.toNat_inj.1 ?_)
  have : c.toNat = 33 := by omega
  rw [this]; rfl
end Go.Proofs.YtkcnhmohphapfaaGreatDoor
