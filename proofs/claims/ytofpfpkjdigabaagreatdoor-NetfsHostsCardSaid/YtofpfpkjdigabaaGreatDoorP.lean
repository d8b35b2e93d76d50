import Derived.Test.YtofpfpkjdigabaaGreatDoorNV
import Derived.Test.YtofpfpkjdigabaaGreatDoorVmR
namespace Go.Proofs.YtofpfpkjdigabaaGreatDoor
open Go.Vm
set_option autoImplicit false
set_option linter.unusedVariables false
set_option linter.unusedSimpArgs false
set_option maxRecDepth 100000
variable {n : aa1} {host : Str} {id k : Int} {t : aa0} {i : Nat}
noncomputable def pmS (m : Int) : Int × Int := (aE9 m).getD (0, 0)
noncomputable def bG9 (m : Int) (d : Bool) (g : Int) : Int := if (pmS m).2 ≠ 0 then (pmS m).2 else if d = true ∧ m ≠ 0 then 10 else if 64 ≤ m ∨ gr (pmS m).1 g = true then 11 else 0
theorem aY5 {f : aa5} {user : Str} {m : Int} {d : Bool} {M : Int} {D : ab3} (w : -9223372036854775808 ≤ m ∧ m ≤ 9223372036854775807) (hd : ab5 f = some d) (hm : ak7 f = some M) (ho : aq6 n f = some D) :
  ak8 n f user m = some (bG9 m d (if user = D.Uid then Int.tmod (IntKind.wrap .i64 (Int.tdiv M 64)) 8 else Int.tmod M 8)) := by
 obtain ⟨a, b, e, h1, h2, h3⟩ := bV6 w
 have hp : pmS m = (a, e) := by unfold pmS; rw [h1]; rfl
 have h8 : ∀ g, al7 m (a, e) g = some (if 64 ≤ m ∨ gr a g = true then 11 else 0) := by
  intro g
  unfold al7 gr
  by_cases q : 64 ≤ m
  ·simp [q]
  ·simp only [q, decide_false, Bool.false_or, false_or]
   split <;> rfl
 unfold ak8 bG9
 rw [h1, hp]
 simp only [Option.bind_some, hd, hm, ho, h8]
 by_cases he : e = 0
 ·by_cases hdm : d = true ∧ m ≠ 0
  ·simp [he, hdm.1, hdm.2]
  ·have : (d && !decide (m = 0)) = false := by
    rw [Bool.eq_false_iff]; intro q; apply hdm; simpa using q
   simp only [he, decide_true, Bool.not_true, Bool.false_eq_true, if_false, this, ne_eq, not_true_eq_false, hdm]
   by_cases hu : user = D.Uid <;> simp [hu]
 ·simp [he]
theorem bz8 {user : Str} {m : Int} {d : Bool} {M own : Int} {b : Bool} (w : -9223372036854775808 ≤ m ∧ m ≤ 9223372036854775807) (hx : ab8 n host id = some true) (hd : ab4 id = some d) (hm : aD3 id = some M)
  (ho : aF2 n host (IntKind.wrap .i64 (Int.tdiv id 16)) = some own) (hb : (if (decide (16 ≤ id)) then (aa9 n.Talks own).bind fun x19 => some (decide (x19.Owner = user)) else some false) = some b)
  (hg : ∀ b : Bool, (if b then Int.tmod (IntKind.wrap .i64 (Int.tdiv M 64)) 8 else Int.tmod M 8) ∈ ([5, 6, 0, 4] : List Int)) :
  ar6 n host user id m = some (bG9 m d (if b then Int.tmod (IntKind.wrap .i64 (Int.tdiv M 64)) 8 else Int.tmod M 8)) := by
 obtain ⟨a, b', e, h1, h2, h3⟩ := bV6 w
 have hp : pmS m = (a, e) := by unfold pmS; rw [h1]; rfl
 have h6 : ∀ g, e = 0 → g ∈ ([5, 6, 0, 4] : List Int) → ay3 id m (b', e) g = some (if d = true ∧ m ≠ 0 then 10 else if 64 ≤ m ∨ gr a g = true then 11 else 0) := by
  intro g he hg
  have := h3 he g hg
  unfold ay3
  rw [hd, Option.bind_some, this]
  by_cases hdm : d = true ∧ m ≠ 0
  ·simp [hdm.1, hdm.2]
  ·have q0 : (d && !decide (m = 0)) = false := by
    rw [Bool.eq_false_iff]; intro q; apply hdm; simpa using q
   rw [q0, if_neg (by simp), if_neg hdm]
   show (if (decide (64 ≤ m) || gr2 b' g) = true then some 11 else some 0) = _
   by_cases q : 64 ≤ m
   ·simp [q]
   ·cases gr2 b' g <;> simp [q]
 unfold ar6 bG9
 rw [hx, h2, hp]
 simp only [Option.bind_some, Bool.not_true, Bool.false_eq_true, if_false, hm, ho, hb]
 by_cases he : e = 0
 ·have q1 := h6 _ he (hg true)
  have q2 := h6 _ he (hg false)
  simp only [if_true, Bool.false_eq_true, if_false] at q1 q2
  cases b
  ·simp only [he, decide_true, Bool.not_true, Bool.false_eq_true, if_false, ne_eq, not_true_eq_false]; rw [he] at q2; exact q2
  ·simp only [he, decide_true, Bool.not_true, Bool.false_eq_true, if_false, ne_eq, not_true_eq_false, if_true]; rw [he] at q1; exact q1
 ·simp [he]
def grS (k : Int) (o : Bool) : Int := if k = 0 then 5 else if k ≤ 3 then (if o then 6 else 0) else 4
theorem bz9 (k : Int) (o : Bool) : (if o = true then Int.tmod (IntKind.wrap .i64 (Int.tdiv (bG8 k) 64)) 8 else Int.tmod (bG8 k) 8) = grS k o := by
 unfold bG8 grS
 by_cases h0 : k = 0
 ·rw [if_pos h0, if_pos h0]; cases o <;> decide +kernel
 ·rw [if_neg h0, if_neg h0]
  by_cases h3 : k ≤ 3
  ·rw [if_pos h3, if_pos h3]; cases o <;> decide +kernel
  ·rw [if_neg h3, if_neg h3]; cases o <;> decide +kernel
theorem cB6 (k : Int) (o : Bool) : grS k o ∈ ([5, 6, 0, 4] : List Int) := by
 unfold grS
 split
 ·simp
 ·split
  ·cases o <;> simp
  ·simp
noncomputable def eT (k : Int) (t : aa0) (user : Str) (m : Int) : Int := bG9 m (decide (k = 0)) (grS k (decide (t.Owner = user)))
theorem TFile.permitted (F : TFile n host id t i k) {user : Str} {m : Int} (w : -9223372036854775808 ≤ m ∧ m ≤ 9223372036854775807) : ak8 n (aa5.mk id (i : Int) k) user m = some (eT k t user m) := by
 rw [aY5 w F.isDir F.mode F.dirOf]
 unfold eT
 rw [← bz9]
 congr 2
 show (if user = t.Owner then _ else _) = _
 by_cases h : t.Owner = user
 ·rw [if_pos h.symm, if_pos (by simp [h])]
 ·rw [if_neg (fun q => h q.symm), if_neg (by simp [h])]
theorem TFile.own (g : Good n) (F : TFile n host id t i k) : aF2 n host t.Id = some (i : Int) := by
 rw [bu3 g.hl, F.fd g]
 simp only [F.host, if_true, F.ix g]
theorem TFile.opens (g : Good n) (F : TFile n host id t i k) {user : Str} {m : Int} (w : -9223372036854775808 ≤ m ∧ m ≤ 9223372036854775807) : ar6 n host user id m = some (eT k t user m) := by
 have h16 : decide (16 ≤ id) = true := decide_eq_true F.big.1
 rw [bz8 (own := (i : Int)) (b := decide (t.Owner = user)) w (F.ex g) F.dir F.rmode (by rw [F.tdiv]; exact F.own g) (by rw [h16, if_pos rfl, ae2 F.at_, Option.bind_some]) (fun b => by rw [bz9]; exact cB6 k b), bz9]
 rfl
noncomputable def eR (m : Int) : Int := bG9 m true 5
noncomputable def eC (m : Int) : Int := bG9 m false 6
theorem bq4 {user : Str} {m : Int} (w : -9223372036854775808 ≤ m ∧ m ≤ 9223372036854775807) : ak8 n (aa5.mk 1 (-1) 0) user m = some (eR m) := by
 rw [aY5 (d := true) (M := 2147484013) w rfl rfl b05]
 unfold eR
 congr 2
 split <;> decide +kernel
theorem bo2 {user : Str} {m : Int} (w : -9223372036854775808 ≤ m ∧ m ≤ 9223372036854775807) : ak8 n (aa5.mk 3 (-1) 0) user m = some (eC m) := by
 rw [aY5 (d := false) (M := 438) w rfl rfl (bP4 0)]
 unfold eC
 congr 2
 split <;> decide +kernel
theorem b06 (g : Good n) {user : Str} {m : Int} (w : -9223372036854775808 ≤ m ∧ m ≤ 9223372036854775807) : ar6 n host user 1 m = some (eR m) := by
 rw [bz8 (d := true) (M := 2147484013) (b := false) w rfl rfl rfl (bu3 g.hl host _) rfl (fun b => by cases b <;> decide +kernel)]
 unfold eR
 congr 2
theorem bP5 (g : Good n) {user : Str} {m : Int} (w : -9223372036854775808 ≤ m ∧ m ≤ 9223372036854775807) : ar6 n host user 3 m = some (eC m) := by
 rw [bz8 (d := false) (M := 438) (b := false) w rfl rfl rfl (bu3 g.hl host _) rfl (fun b => by cases b <;> decide +kernel)]
 unfold eC
 congr 2
theorem b07 {user : Str} {m : Int} (h : ab8 n host id = some false) : ar6 n host user id m = some 8 := by
 unfold ar6; rw [h]; rfl
abbrev RO : Type := aa1 × Int × Bool × Int
noncomputable def bH0 (n : aa1) (m : Int) : RO := if eR m ≠ 0 then (n, 0, false, eR m) else (n, 1, false, 0)
noncomputable def aU7 (n : aa1) (host user : Str) (m : Int) : RO := if eC m ≠ 0 then (n, 0, false, eC m) else if 32 < user.length then (n, 0, false, 25) else if 64 ≤ n.Talks.length ∨ 1048575 < n.Next then (n, 0, false, 22) else
 (aa1.mk n.Db (n.Next + 1) (n.Talks ++ [a67 n.Next host user]), 16 * n.Next + 1, false, 0)
def cz1 (t : aa0) : aa0 := { t with Opens := t.Opens + 1 }
noncomputable def bg7 (n : aa1) (id k : Int) (t : aa0) (user : Str) (m : Int) : RO :=
 if eT k t user m ≠ 0 then (n, 0, false, eT k t user m) else if k = 0 then (n, id, false, 0) else if k = 3 then (if t.State ≠ 2 then (n, 0, false, 43) else match t.Backlog with
  | [] => (n, 0, true, 0)
  | c :: r => (aa1.mk n.Db n.Next (n.Talks.map (bo0 t.Id c r)), 16 * c + 1, false, 0))
 else if t.Opens = 0 then (n, 0, false, 43) else if 9007199254740991 ≤ t.Opens then (n, 0, false, 22) else (aa1.mk n.Db n.Next (upT n.Talks t.Id cz1), id, false, 0)
theorem bH1 (g : Good n) (hm : Mod n) {user : Str} {m : Int} (w : -9223372036854775808 ≤ m ∧ m ≤ 9223372036854775807) : ag0 n host user 1 m = some (bH0 n m) ∧ ap3 n host user 1 m = some (bH0 n m) := by
 constructor
 ·unfold ag0 bH0
  rw [ah8 hm, show ab7 n host 1 = some (aa5.mk 1 (-1) 0, true) from rfl]
  simp only [Option.bind_some, Bool.not_true, Bool.false_eq_true, if_false, bq4 w, show ab5 (aa5.mk 1 (-1) 0) = some true from rfl, if_true]
  by_cases h : eR m = 0 <;> simp [h]
 ·unfold ap3 bH0
  rw [b06 g w]
  simp only [Option.bind_some, show ab4 1 = some true from rfl, if_true]
  by_cases h : eR m = 0 <;> simp [h]
theorem a17 (g : Good n) (hm : Mod n) {user : Str} {m : Int} (w : -9223372036854775808 ≤ m ∧ m ≤ 9223372036854775807) : ag0 n host user 3 m = some (aU7 n host user m) ∧ ap3 n host user 3 m = some (aU7 n host user m) := by
 have hl := g.len
 have n1 := g.n1
 have n9 := g.n9
 have c64 : decide ((64 : Int) ≤ (n.Talks.length : Int)) = decide (64 ≤ n.Talks.length) := by simp; omega
 have c32 : decide ((32 : Int) < (user.length : Int)) = decide (32 < user.length) := by simp; omega
 have e1 : IntKind.wrap .i64 (n.Next + 1) = n.Next + 1 := ag5 (by omega) (by omega)
 have e2 : IntKind.wrap .i64 (IntKind.wrap .i64 (16 * n.Next) + 1) = 16 * n.Next + 1 := by rw [ag5 (n := 16 * n.Next) (by omega) (by omega), ag5 (by omega) (by omega)]
 have a1 : ar8 200 n.Talks [a67 n.Next host user] = some (n.Talks ++ [a67 n.Next host user]) := ac2 (by simp; omega) (by simp; omega)
 have a0 : ar8 200 ([] : List aa0) n.Talks = some n.Talks := by rw [ac2 (by simp; omega) (by simp; omega)]; rfl
 constructor
 ·unfold ag0 aU7
  rw [ah8 hm, show ab7 n host 3 = some (aa5.mk 3 (-1) 0, true) from rfl]
  simp only [Option.bind_some, Bool.not_true, Bool.false_eq_true, if_false, bo2 w, show ab5 (aa5.mk 3 (-1) 0) = some false from rfl, decide_true, if_true, c64, c32]
  rw [show (aa0.mk n.Next host user 1 (aa2.mk [] [] []) (aa2.mk [] [] []) 0 [] ([] : List Int) 1) = a67 n.Next host user from rfl, a1, e1, e2]
  by_cases h : eC m = 0
  ·by_cases h32 : 32 < user.length
   ·simp [h, h32]
   ·by_cases h64 : 64 ≤ n.Talks.length
    ·simp [h, h32, h64]
    ·by_cases hn : 1048575 < n.Next <;> simp [h, h32, h64, hn]
  ·simp [h]
 ·unfold ap3 aU7 aP6
  rw [bP5 g w]
  simp only [Option.bind_some, show ab4 3 = some false from rfl, decide_true, if_true, c64, c32, a0]
  rw [show (aa0.mk n.Next host user 1 (aa2.mk [] [] []) (aa2.mk [] [] []) 0 [] ([] : List Int) 1) = a67 n.Next host user from rfl, a1, e1, e2]
  by_cases h : eC m = 0
  ·by_cases h32 : 32 < user.length
   ·simp [h, h32]
   ·by_cases h64 : 64 ≤ n.Talks.length
    ·simp [h, h32, h64]
    ·by_cases hn : 1048575 < n.Next <;> simp [h, h32, h64, hn]
  ·simp [h]
theorem co6 {l : List aa0} {a c : Int} {r : List Int} (hac : a ≠ c) : upT (upT l a fun t => { t with Backlog := r }) c (fun t => { t with Opens := 1 }) = l.map (bo0 a c r) := by
 unfold upT
 rw [List.map_map]
 apply List.map_congr_left
 intro x hx
 show (if (if x.Id = a then ({ x with Backlog := r } : aa0) else x).Id = c then ({ (if x.Id = a then ({ x with Backlog := r } : aa0) else x) with Opens := 1 } : aa0) else (if x.Id = a then ({ x with Backlog := r } : aa0) else x)) = bo0 a c r x
 unfold bo0
 by_cases h1 : x.Id = a
 ·rw [if_pos h1, if_pos h1, if_neg (by show ¬ x.Id = c; omega)]
 ·rw [if_neg h1, if_neg h1]
theorem bV7 {l : List aa0} (hi : l.Pairwise fun a b => a.Id < b.Id) {a : Int} {f : aa0 → aa0} (hf : ∀ t, (f t).Id = t.Id) {u : aa0} (hu : u ∈ l) (hne : u.Id ≠ a) :
  ∃ j : Nat, j < (upT l a f).length ∧ ixT (upT l a f) u.Id = (j : Int) ∧ (upT l a f)[j]? = some u := by
 have hm : u ∈ upT l a f := by
  unfold upT
  refine List.mem_map.2 ⟨u, hu, by rw [if_neg hne]⟩
 obtain ⟨j, j1, j2, j3, j4⟩ := ai3 (a19 (bg0 hf hi) hm)
 exact ⟨j, j1, j2, j3⟩
theorem cut1 {c : Int} {r : List Int} : cut (c :: r) 1 ((c :: r).length : Int) = some r := by
 have := aR6 (l := c :: r) (a := 1) (by simp)
 simpa using this
theorem GoodT.head {l : List aa0} (G : GoodT l) (ht : t ∈ l) {c : Int} {r : List Int} (hb : t.Backlog = c :: r) : ∃ u ∈ l, u.Id = c ∧ t.Id ≠ c := by
 obtain ⟨u, hu, e, _⟩ := G.bc t ht c (by rw [hb]; simp)
 refine ⟨u, hu, e, fun q => ?_⟩
 have := G.self ht
 rw [hb, q] at this
 simp at this
theorem bo3 (g : Good n) (hmod : Mod n) (F : TFile n host id t i k) {user : Str} {m : Int} (w : -9223372036854775808 ≤ m ∧ m ≤ 9223372036854775807) : ag0 n host user id m = some (bg7 n id k t user m) := by
 have h := F.big
 have h3 : ¬ id = 3 := by omega
 have ht := List.mem_of_getElem? F.at_
 have r := g.tk.rng t ht
 have hbl := g.tk.blen t ht
 have ids := g.tk.inc
 unfold ag0 bg7
 rw [ah8 hmod, F.look g]
 simp only [Option.bind_some, Bool.not_true, Bool.false_eq_true, if_false, F.permitted w, F.isDir, h3, decide_false, ae2 F.at_, Int.toNat_natCast]
 generalize eT k t user m = e
 by_cases he : e = 0
 ·by_cases h0 : k = 0
  ·simp [he, h0]
  ·by_cases hk3 : k = 3
   ·by_cases h2 : t.State = 2
    ·cases hb : t.Backlog with
     | nil => simp [he, hk3, h2]
     | cons c rr =>
      obtain ⟨u, hu, eu, hne⟩ := g.tk.head ht hb
      have hl0 : ¬ (((c :: rr).length : Int) = 0) := by simp; omega
      have hrl : rr.length ≤ 8 := by rw [hb] at hbl; simp at hbl; omega
      have hset : List.set n.Talks i (aa0.mk t.Id t.Host t.Owner t.State t.Local t.Remote t.Peer t.Data rr t.Opens) = upT n.Talks t.Id (fun t => { t with Backlog := rr }) := as1 (f := fun t => { t with Backlog := rr }) ids F.at_
      obtain ⟨j, j1, j2, j3⟩ := bV7 (f := fun t => ({ t with Backlog := rr } : aa0)) ids (fun _ => rfl) hu (by rw [eu]; exact fun q => hne q.symm)
      rw [h2] at hset
      have hcl : ae7 rr = some rr := by
       unfold ae7
       rw [ac2 (by simp; omega) (by simp; omega)]; rfl
      have hset2 : List.set (upT n.Talks t.Id (fun t => { t with Backlog := rr })) j (aa0.mk u.Id u.Host u.Owner u.State u.Local u.Remote u.Peer u.Data u.Backlog 1) = n.Talks.map (bo0 t.Id c rr) := by
       have := as1 (f := fun t => { t with Opens := 1 }) (bg0 (f := fun t => ({ t with Backlog := rr } : aa0)) (fun _ => rfl) ids) j3
       rw [← co6 hne, ← eu]; exact this
      obtain ⟨q1, q2⟩ := g.idr u hu
      have := g.n9
      have hw : IntKind.wrap .i64 (IntKind.wrap .i64 (16 * c) + 1) = 16 * c + 1 := by rw [ag5 (n := 16 * c) (by omega) (by omega), ag5 (by omega) (by omega)]
      have hlen : (upT n.Talks t.Id (fun t => ({ t with Backlog := rr } : aa0))).length ≤ 100000 := by rw [aU6]; exact g.hl
      simp only [he, hk3, h2, decide_true, Bool.not_true, Bool.false_eq_true, if_false, if_true, decide_eq_false hl0, show aa9 (c :: rr) 0 = some c from rfl, cut1, hcl, Option.bind_some, hset, hw, ne_eq, not_true_eq_false, show ¬ ((3 : Int) = 0) by decide, decide_false]
      rw [aD5 (n := aa1.mk n.Db n.Next (upT n.Talks t.Id (fun t => { t with Backlog := rr }))) hlen, Option.bind_some]
      simp only [eu ▸ j2, ae2 j3, Option.bind_some, Int.toNat_natCast, hset2]
    ·simp [he, hk3, h2]
   ·by_cases ho : t.Opens = 0
    ·simp [he, h0, hk3, ho]
    ·have o0 := r.o0
     by_cases h9 : 9007199254740991 ≤ t.Opens
     ·simp [he, h0, hk3, ho, h9]
     ·have e1 : IntKind.wrap .i64 (t.Opens + 1) = t.Opens + 1 := ag5 (by omega) (by omega)
      have hset : List.set n.Talks i (aa0.mk t.Id t.Host t.Owner t.State t.Local t.Remote t.Peer t.Data t.Backlog (t.Opens + 1)) = upT n.Talks t.Id cz1 := as1 (f := cz1) ids F.at_
      simp [he, h0, hk3, ho, h9, e1, hset]
 ·simp [he]
theorem bH2 (g : Good n) (F : TFile n host id t i k) {user : Str} {m : Int} (w : -9223372036854775808 ≤ m ∧ m ≤ 9223372036854775807) : ap3 n host user id m = some (bg7 n id k t user m) := by
 have h := F.big
 have h3 : ¬ id = 3 := by omega
 have ht := List.mem_of_getElem? F.at_
 have hi : i < n.Talks.length := (List.getElem?_eq_some_iff.1 F.at_).1
 have r := g.tk.rng t ht
 have hbl := g.tk.blen t ht
 have ids := g.tk.inc
 unfold ap3 bg7
 simp only [F.opens g w, F.dir, Option.bind_some, h3, decide_false, Bool.false_eq_true, if_false, F.tdiv, bd5 g.hl, F.ix g, ae2 F.at_, F.tmod]
 generalize eT k t user m = e
 by_cases he : e = 0
 ·by_cases h0 : k = 0
  ·simp [he, h0]
  ·by_cases hk3 : k = 3
   ·by_cases h2 : t.State = 2
    ·cases hb : t.Backlog with
     | nil => simp [he, hk3, h2]
     | cons c rr =>
      obtain ⟨u, hu, eu, hne⟩ := g.tk.head ht hb
      have hl0 : ¬ (((c :: rr).length : Int) = 0) := by simp; omega
      have hrl : rr.length ≤ 8 := by rw [hb] at hbl; simp at hbl; omega
      have hset : List.set n.Talks i (aa0.mk t.Id t.Host t.Owner t.State t.Local t.Remote t.Peer t.Data rr t.Opens) = upT n.Talks t.Id (fun t => { t with Backlog := rr }) := as1 (f := fun t => { t with Backlog := rr }) ids F.at_
      obtain ⟨j, j1, j2, j3⟩ := bV7 (f := fun t => ({ t with Backlog := rr } : aa0)) ids (fun _ => rfl) hu (by rw [eu]; exact fun q => hne q.symm)
      rw [h2] at hset
      have hcl : ar8 8 ([] : List Int) rr = some rr := by
       rw [ac2 (by simp; omega) (by simp; omega)]; rfl
      have hset2 : List.set (upT n.Talks t.Id (fun t => { t with Backlog := rr })) j (aa0.mk u.Id u.Host u.Owner u.State u.Local u.Remote u.Peer u.Data u.Backlog 1) = n.Talks.map (bo0 t.Id c rr) := by
       have := as1 (f := fun t => { t with Opens := 1 }) (bg0 (f := fun t => ({ t with Backlog := rr } : aa0)) (fun _ => rfl) ids) j3
       rw [← co6 hne, ← eu]; exact this
      obtain ⟨q1, q2⟩ := g.idr u hu
      have := g.n9
      have hw : IntKind.wrap .i64 (IntKind.wrap .i64 (16 * c) + 1) = 16 * c + 1 := by rw [ag5 (n := 16 * c) (by omega) (by omega), ag5 (by omega) (by omega)]
      have hlen : (upT n.Talks t.Id (fun t => ({ t with Backlog := rr } : aa0))).length ≤ 100000 := by rw [aU6]; exact g.hl
      have e6 := aG0 (n := n) (i := i) (t := aa0.mk t.Id t.Host t.Owner t.State t.Local t.Remote t.Peer t.Data rr t.Opens) g.hl hi
      rw [h2, hset] at e6
      have hmx : max (j : Int) 0 = (j : Int) := by omega
      have e7 := aG0 (n := aa1.mk n.Db n.Next (upT n.Talks t.Id (fun t => { t with Backlog := rr }))) (i := j) (t := aa0.mk u.Id u.Host u.Owner u.State u.Local u.Remote u.Peer u.Data u.Backlog 1) hlen j1
      simp only [he, hk3, h2, decide_true, Bool.not_true, Bool.false_eq_true, if_false, if_true, decide_eq_false hl0, show aa9 (c :: rr) 0 = some c from rfl, cut1, hcl, Option.bind_some, hw, ne_eq, not_true_eq_false, show ¬ ((3 : Int) = 0) by decide, decide_false, Bool.false_and, e6]
      rw [bd5 (n := aa1.mk n.Db n.Next (upT n.Talks t.Id (fun t => { t with Backlog := rr }))) hlen, Option.bind_some]
      simp only [eu ▸ j2, hmx, ae2 j3, Option.bind_some, e7, hset2]
    ·simp [he, hk3, h2]
   ·by_cases ho : t.Opens = 0
    ·simp [he, h0, hk3, ho]
    ·have o0 := r.o0
     by_cases h9 : 9007199254740991 ≤ t.Opens
     ·simp [he, h0, hk3, ho, h9]
     ·have e1 : IntKind.wrap .i64 (t.Opens + 1) = t.Opens + 1 := ag5 (by omega) (by omega)
      have hset : List.set n.Talks i (aa0.mk t.Id t.Host t.Owner t.State t.Local t.Remote t.Peer t.Data t.Backlog (t.Opens + 1)) = upT n.Talks t.Id cz1 := as1 (f := cz1) ids F.at_
      simp [he, h0, hk3, ho, h9, e1, hset, aG0 g.hl hi]
 ·simp [he]
theorem bH3 (hmod : Mod n) {user : Str} {m : Int} {f : aa5} (h1 : ab7 n host id = some (f, false)) (h2 : ab8 n host id = some false) : ag0 n host user id m = some (n, 0, false, 8) ∧ ap3 n host user id m = some (n, 0, false, 8) := by
 constructor
 ·unfold ag0; rw [ah8 hmod, h1]; simp
 ·unfold ap3; rw [b07 h2]; simp
def bP6 (a : aa2) : Prop := a.Net.length ≤ 10000 ∧ a.Host.length ≤ 10000 ∧ a.Service.length ≤ 10000
structure Lim (n : aa1) : Prop where
 db : okX n.Db
 ho : ∀ t ∈ n.Talks, t.Host.length ≤ 1000
 ad : ∀ t ∈ n.Talks, bP6 t.Local ∧ bP6 t.Remote
theorem okX.okT {l : List aa3} (h : okX l) : okT l := ⟨⟨by have := h.1; omega, fun x hx => by have := (h.2 x hx).1; omega⟩, fun x hx a ha => ((h.2 x hx).2 a ha).2⟩
theorem a64 {s more : Str} {most : Nat} (h : an6 s more most = true) : s.length ≤ most := by
 unfold an6 at h
 simp only [Bool.and_eq_true, decide_eq_true_eq] at h
 exact h.2.1
theorem bo4 {a : aa2} (h : at0 a = true) : a.Net.length ≤ 32 ∧ a.Host.length ≤ 64 ∧ a.Service.length ≤ 32 := by
 unfold at0 bN6 svcB aQ1 at h
 simp only [Bool.and_eq_true, Bool.or_eq_true, decide_eq_true_eq] at h
 obtain ⟨⟨h1, _⟩, h2, h3⟩ := h
 refine ⟨a64 h1, ?_, ?_⟩
 ·rcases h2 with h2 | h2
  ·rw [h2]; simp
  ·exact a64 h2
 ·rcases h3 with h3 | h3
  ·rw [h3]; simp
  ·exact a64 h3
theorem bo5 {s : Str} (h : (af9 s).2 = 0) : at0 (af9 s).1 = true := by
 unfold af9 at h ⊢
 split
 ·rename_i n h' e
  rw [e] at h
  by_cases q : at0 ⟨n, h', []⟩ = true
  ·simp [q]
  ·simp [q, bg5] at h
 ·rename_i n h' v e
  rw [e] at h
  by_cases q : (at0 ⟨n, h', v⟩ && !decide (v = [])) = true
  ·rw [if_pos q]; exact (Bool.and_eq_true_iff.1 q).1
  ·simp [q, bg5] at h
 ·rename_i h1 h2
  split at h
  ·rename_i e; exact absurd e (h1 _ _)
  ·rename_i e; exact absurd e (h2 _ _ _)
  ·simp [bg5] at h
theorem bA0 {l : List Str} (h : ∀ v ∈ l, v.length ≤ 5000) : (ap4 l).length ≤ 5000 := by
 induction l with
 | nil => simp [ap4]
 | cons a r ih =>
  unfold ap4
  split
  ·exact h a (by simp)
  ·exact ih fun v hv => h v (List.mem_cons_of_mem _ hv)
theorem bH4 {l : List aa3} {net svc : Str} (h : okT l) (hs : svc.length ≤ 5000) : (bF7 l net svc).length ≤ 5000 := by
 unfold bF7
 split
 ·exact hs
 ·exact bA0 (av6 h)
theorem cb3 {l : List aa3} {net svc : Str} (h : okT l) (hs : svc.length ≤ 5000) : (aL2 l net svc).length ≤ 5000 := by
 unfold aL2
 split
 ·split
  ·simp
  ·rename_i x r e
   exact bH4 h (av6 h x (by rw [e]; simp))
 ·exact bH4 h hs
theorem bH5 {l : List aa3} {host name : Str} (h : okT l) (hh : host.length ≤ 1000) : ∀ v ∈ aG5 l host name, v.length ≤ 5000 := by
 intro v hv
 unfold aG5 at hv
 split at hv
 ·rename_i e; rw [List.mem_singleton.1 hv, e]; simp
 ·split at hv
  ·split at hv
   ·rw [List.mem_singleton.1 hv]; omega
   ·cases hv
  ·split at hv
   ·rename_i hc
    rw [List.mem_singleton.1 hv]
    exact a15 h _ (List.contains_iff_mem.1 hc)
   ·exact av6 h v (List.mem_filter.1 hv).1
theorem bH6 {l : List aa3} {host : Str} {a : aa2} (h : okT l) (hh : host.length ≤ 1000) : ∀ x ∈ (ap5 l host a).1, bP6 x := by
 intro x hx
 unfold ap5 at hx
 split at hx
 ·cases hx
 ·rename_i hv
  have hv := bo4 (Bool.not_eq_false _ ▸ hv)
  split at hx
  ·cases hx
  ·split at hx
   ·cases hx
   ·split at hx
    ·cases hx
    ·obtain ⟨n, hn, hx⟩ := List.mem_flatMap.1 hx
     unfold aj4 at hx
     split at hx
     ·cases hx
     ·obtain ⟨ho, hho, rfl⟩ := List.mem_map.1 hx
      have h1 := (b94 hn).1
      have h2 := a15 h _ h1
      have h3 := bH5 h hh _ hho
      have h4 := cb3 (net := n) h (show a.Service.length ≤ 5000 by omega)
      exact ⟨by show n.length ≤ _; omega, by show ho.length ≤ _; omega, by show (aL2 l n a.Service).length ≤ _; omega⟩
theorem bV8 {l : List aa3} {host : Str} {a : aa2} (h : okT l) : (ap5 l host a).1.length ≤ 1000000 := by
 have hn := bn7 (name := a.Net) h.1
 have hh := bd3 (host := host) (name := a.Host) h.1
 have := bi2 (l := l) (svc := a.Service) hh (aQ4 l a.Net)
 have h3 : (aQ4 l a.Net).length * 1000 ≤ 1000 * 1000 := Nat.mul_le_mul_right _ hn
 unfold ap5
 split
 ·simp
 ·split
  ·simp
  ·split
   ·simp
   ·split
    ·simp
    ·exact Nat.le_trans this (by omega)
def b23 (n : aa1) (t : aa0) (a : aa2) : aa1 × Int :=
 if (ap5 n.Db t.Host a).2 ≠ 0 then (n, (ap5 n.Db t.Host a).2) else match (ap5 n.Db t.Host a).1 with
 | [] => (n, 38)
 | x :: _ => if x.Host ≠ t.Host then (n, 38) else if n.Talks.any (bz5 t.Id t.Host x) = true then (n, 41) else (aa1.mk n.Db n.Next (upT n.Talks t.Id (anT x)), 0)
def ba3 (a : aa2) : aa2 := if a.Host = [42] then ⟨a.Net, bn5, a.Service⟩ else a
def b08 (n : aa1) (t : aa0) (w : Str) : aa1 × Int :=
 if t.State ≠ 1 then (n, 43) else if (af9 w).2 ≠ 0 then (n, (af9 w).2) else b23 n t (ba3 (af9 w).1)
theorem ct9 (g : Good n) (L : Lim n) (h : n.Talks[i]? = some t) {a : aa2} (h1 : a.Net.length ≤ 1000000) (h2 : a.Host.length ≤ 1000000) (h3 : a.Service.length ≤ 1000000) :
  ai7 n (i : Int) t a = some (b23 n t a) ∧ ak5 n (i : Int) t a = some (b23 n t a) := by
 have hi : i < n.Talks.length := (List.getElem?_eq_some_iff.1 h).1
 have hh := L.ho t (List.mem_of_getElem? h)
 have hT := L.db.okT
 have len0 : ∀ (x : aa2) (r : List aa2), ¬ (((x :: r).length : Int) = 0) := by intro x r; simp; omega
 constructor
 ·unfold ai7 b23
  rw [bf6 hT h3]
  simp only [Option.bind_some]
  by_cases he : (ap5 n.Db t.Host a).2 = 0
  ·cases hl : (ap5 n.Db t.Host a).1 with
   | nil => simp [he]
   | cons x r =>
    have e0 : aa9 (x :: r) 0 = some x := rfl
    have hset : List.set n.Talks i (aa0.mk t.Id t.Host t.Owner 2 x t.Remote t.Peer t.Data t.Backlog t.Opens) = upT n.Talks t.Id (anT x) := as1 (f := anT x) g.tk.inc h
    simp only [he, decide_true, Bool.not_true, Bool.false_eq_true, if_false, ne_eq, not_true_eq_false, decide_eq_false (len0 x r), e0, Option.bind_some, cj9 g.hl, aT4, ae2 h, Int.toNat_natCast, bi5 hi, List.set_set, hset]
    by_cases hx : x.Host = t.Host
    ·by_cases ha : n.Talks.any (bz5 t.Id t.Host x) = true
     ·simp [hx, ha]
     ·simp [hx, ha]
    ·simp [hx]
  ·simp [he]
 ·unfold ak5 b23
  rw [aY1 hT h1 h2 h3 (by omega)]
  simp only [Option.bind_some]
  by_cases he : (ap5 n.Db t.Host a).2 = 0
  ·cases hl : (ap5 n.Db t.Host a).1 with
   | nil => simp [he]
   | cons x r =>
    have e0 : aa9 (x :: r) 0 = some x := rfl
    have hset : List.set n.Talks i (aa0.mk t.Id t.Host t.Owner 2 x t.Remote t.Peer t.Data t.Backlog t.Opens) = upT n.Talks t.Id (anT x) := as1 (f := anT x) g.tk.inc h
    simp only [he, decide_true, Bool.not_true, Bool.false_eq_true, if_false, ne_eq, not_true_eq_false, decide_eq_false (len0 x r), e0, Option.bind_some, bF9 g.hl, aG0 g.hl hi, hset]
    by_cases hx : x.Host = t.Host
    ·by_cases ha : n.Talks.any (bz5 t.Id t.Host x) = true
     ·simp [hx, ha]
     ·simp [hx, ha]
    ·simp [hx]
  ·simp [he]
theorem cb4 (g : Good n) (L : Lim n) (h : n.Talks[i]? = some t) {w : Str} (hw : w.length ≤ 50000) : ay6 n (i : Int) w = some (b08 n t w) ∧ aE3 n (i : Int) w = some (b08 n t w) := by
 have key : (af9 w).2 = 0 → ai7 n (i : Int) t (ba3 (af9 w).1) = some (b23 n t (ba3 (af9 w).1)) ∧ ak5 n (i : Int) t (ba3 (af9 w).1) = some (b23 n t (ba3 (af9 w).1)) := by
  intro h0
  have hv := bo4 (bo5 h0)
  have : (ba3 (af9 w).1).Net.length ≤ 32 ∧ (ba3 (af9 w).1).Host.length ≤ 64 ∧ (ba3 (af9 w).1).Service.length ≤ 32 := by
   unfold ba3; split
   ·exact ⟨hv.1, by simp [bn5], hv.2.2⟩
   ·exact hv
  exact ct9 g L h (by omega) (by omega) (by omega)
 have hs : ∀ {β : Type} (f : aa2 → β), (if (decide ((af9 w).1.Host = [42])) = true then f (aa2.mk (af9 w).1.Net [115, 101, 108, 102] (af9 w).1.Service) else f (af9 w).1) = f (ba3 (af9 w).1) := by
  intro β f
  unfold ba3 bn5
  by_cases q : (af9 w).1.Host = [42] <;> simp [q]
 constructor
 ·unfold ay6 b08
  rw [ae2 h, b91 hw]
  simp only [Option.bind_some, hs]
  by_cases h1 : t.State = 1
  ·by_cases h2 : (af9 w).2 = 0
   ·simp [h1, h2, (key h2).1]
   ·simp [h1, h2]
  ·simp [h1]
 ·unfold aE3 b08
  rw [ae2 h, bt7 hw]
  simp only [Option.bind_some, hs]
  by_cases h1 : t.State = 1
  ·by_cases h2 : (af9 w).2 = 0
   ·simp [h1, h2, (key h2).2]
   ·simp [h1, h2]
  ·simp [h1]
def b24 (a : aa2) (x : aa0) : Bool := decide (x.Host = a.Host) && (decide (x.State = 2) && (decide (x.Local.Net = a.Net) && (decide (x.Local.Service = a.Service) && decide (x.Backlog.length < 8))))
def aL4 (t : aa0) (a : aa2) : aa2 := ⟨a.Net, t.Host, Go.Lib.itoa (32768 + t.Id)⟩
def ck9 (n : aa1) (t s : aa0) (a : aa2) : aa1 := aa1.mk n.Db (n.Next + 1) (n.Talks.map (a22 t.Id s.Id n.Next a (aL4 t a)) ++ [bq3 n.Next t.Id (aL4 t a) s])
def a23 (n : aa1) (t : aa0) : List aa2 → aa1 × Int
 | [] => (n, 40)
 | a :: r => match n.Talks.find? (b24 a) with
  | some s => (ck9 n t s a, 0)
  | none => a23 n t r
def bP7 (n : aa1) (t : aa0) (w : Str) : aa1 × Int :=
 if t.State ≠ 1 then (n, 43) else if (af9 w).2 ≠ 0 then (n, (af9 w).2) else if (ap5 n.Db t.Host (af9 w).1).2 ≠ 0 then (n, (ap5 n.Db t.Host (af9 w).1).2)
 else if 64 ≤ n.Talks.length ∨ 1048575 < n.Next then (n, 22) else a23 n t (ap5 n.Db t.Host (af9 w).1).1
theorem cB7 (x : aa0) (a : aa2) : am1 x a.Host a = some (b24 a x) := by
 unfold am1 aJ6 b24
 have e : decide ((x.Backlog.length : Int) < 8) = decide (x.Backlog.length < 8) := by simp; omega
 rw [e]
 cases decide (x.Host = a.Host) <;> cases decide (x.State = 2) <;> cases decide (x.Local.Net = a.Net) <;> cases decide (x.Local.Service = a.Service) <;> rfl
theorem cl0 (hl : n.Talks.length ≤ 100000) (a : aa2) : aq9 n a.Host a = some (aU9 (b24 a) n.Talks) := by
 unfold aq9
 rw [bc7]
 unfold af2
 refine aw7 (by omega) ?_ ?_
 ·intro i hi
  simp only [ac0, dlt hi, if_true, aa6 hi, Option.bind_some, cB7]
 ·simp [ac0]
theorem cb5 (hl : n.Talks.length ≤ 100000) (a : aa2) : aM2 n a = some (aU9 (b24 a) n.Talks) := by
 unfold aM2
 refine aw7 (by omega) ?_ ?_
 ·intro i hi
  have e : decide ((n.Talks[i].Backlog.length : Int) < 8) = decide (n.Talks[i].Backlog.length < 8) := by simp; omega
  simp only [ay7, dlt hi, if_true, aa6 hi, Option.bind_some, e]
  rfl
 ·simp [ay7]
theorem cB8 {l : List aa0} {x y : Int} (hxy : x ≠ y) (nx : Int) (a b : aa2) : upT (upT l y fun t => { t with Backlog := t.Backlog ++ [nx] }) x (opT nx a b) = l.map (a22 x y nx a b) := by
 unfold upT
 rw [List.map_map]
 apply List.map_congr_left
 intro u hu
 show (if (if u.Id = y then ({ u with Backlog := u.Backlog ++ [nx] } : aa0) else u).Id = x then opT nx a b (if u.Id = y then ({ u with Backlog := u.Backlog ++ [nx] } : aa0) else u) else (if u.Id = y then ({ u with Backlog := u.Backlog ++ [nx] } : aa0) else u)) = a22 x y nx a b u
 unfold a22
 by_cases h1 : u.Id = y
 ·rw [if_pos h1, if_neg (by show ¬ u.Id = x; omega), if_neg (by omega)]
 ·rw [if_neg h1]
theorem cu0 {l : List aa0} {x y : Int} (hxy : x ≠ y) (nx : Int) (a b : aa2) : upT (upT l x (opT nx a b)) y (fun t => { t with Backlog := t.Backlog ++ [nx] }) = l.map (a22 x y nx a b) := by
 unfold upT
 rw [List.map_map]
 apply List.map_congr_left
 intro u hu
 have hid : ∀ u : aa0, (opT nx a b u).Id = u.Id := fun _ => rfl
 show (if (if u.Id = x then opT nx a b u else u).Id = y then ({ (if u.Id = x then opT nx a b u else u) with Backlog := (if u.Id = x then opT nx a b u else u).Backlog ++ [nx] } : aa0) else (if u.Id = x then opT nx a b u else u)) = a22 x y nx a b u
 unfold a22
 by_cases h1 : u.Id = x
 ·rw [if_pos h1, if_neg (by rw [hid]; omega), if_pos h1]
 ·rw [if_neg h1, if_neg h1]
theorem cb6 (g : Good n) (L : Lim n) (h : n.Talks[i]? = some t) {w : Str} (hw : w.length ≤ 50000) : as8 n (i : Int) w = some (bP7 n t w) ∧ aH6 n (i : Int) w = some (bP7 n t w) := by
 have hi : i < n.Talks.length := (List.getElem?_eq_some_iff.1 h).1
 have ht := List.mem_of_getElem? h
 have hh := L.ho t ht
 have hT := L.db.okT
 have hl := g.len
 have n1 := g.n1
 have n9 := g.n9
 obtain ⟨id1, id2⟩ := g.idr t ht
 have c64 : decide ((64 : Int) ≤ (n.Talks.length : Int)) = decide (64 ≤ n.Talks.length) := by simp; omega
 have e1 : IntKind.wrap .i64 (n.Next + 1) = n.Next + 1 := ag5 (by omega) (by omega)
 have e2 : IntKind.wrap .i64 (32768 + t.Id) = 32768 + t.Id := ag5 (by omega) (by omega)
 have loopP : t.State = 1 → ∀ (x5 : List aa2 × Int), x5.1.length ≤ 1000000 → ab0 (fun s => ai5 n (i : Int) t x5 s) 0 = some (a23 n t x5.1) := by
  intro hs1 x5 hx
  refine (ac5 (σ := Unit) x5.1.length (fun _ j => j) _ (fun j _ => a23 n t (x5.1.drop j)) (fun _ _ => True) (s0 := ()) trivial ?_ ?_).trans (by simp)
  ·intro _ j hj _
   rw [List.drop_eq_getElem_cons hj, a23]
   simp only [ai5, dlt hj, if_true, aa6 hj, Option.bind_some, cl0 g.hl]
   cases hf : n.Talks.find? (b24 x5.1[j]) with
   | none =>
    left
    refine ⟨(), ?_, rfl, trivial⟩
    rw [bO9 hf, if_pos (by decide), aa8 (by omega)]
   | some s =>
    right
    obtain ⟨m, m1, m2, m3, m4⟩ := bz4 hf
    have hs := List.mem_of_getElem? m3
    have m4' := m4
    unfold b24 at m4'
    simp only [Bool.and_eq_true, decide_eq_true_eq] at m4'
    have hne : t.Id ≠ s.Id := by
     intro q
     have := af4 g.tk.inc t ht s hs q
     rw [← this] at m4'; omega
    have b1 : ar8 8 s.Backlog [n.Next] = some (s.Backlog ++ [n.Next]) := ac2 (by simp; omega) (by simp; omega)
    have hset : List.set n.Talks m (aa0.mk s.Id s.Host s.Owner s.State s.Local s.Remote s.Peer s.Data (s.Backlog ++ [n.Next]) s.Opens) = upT n.Talks s.Id (fun t => { t with Backlog := t.Backlog ++ [n.Next] }) := as1 (f := fun t => { t with Backlog := t.Backlog ++ [n.Next] }) g.tk.inc m3
    have hat : (upT n.Talks s.Id (fun t => ({ t with Backlog := t.Backlog ++ [n.Next] } : aa0)))[i]? = some t := by rw [ca4 h, if_neg hne]
    have hset2 : List.set (upT n.Talks s.Id (fun t => ({ t with Backlog := t.Backlog ++ [n.Next] } : aa0))) i (aa0.mk t.Id t.Host t.Owner 3 (aL4 t x5.1[j]) x5.1[j] n.Next t.Data t.Backlog t.Opens) = n.Talks.map (a22 t.Id s.Id n.Next x5.1[j] (aL4 t x5.1[j])) := by
     rw [← cB8 hne]
     exact as1 (f := opT n.Next x5.1[j] (aL4 t x5.1[j])) (bg0 (f := fun t => ({ t with Backlog := t.Backlog ++ [n.Next] } : aa0)) (fun _ => rfl) g.tk.inc) hat
    have h0 : decide ((m : Int) < 0) = false := by simp
    rw [m2]
    simp only [h0, Bool.false_eq_true, if_false, ae2 m3, Option.bind_some, b1, e2, a63 (show -9223372036854775808 ≤ 32768 + t.Id by omega) (show 32768 + t.Id ≤ 9223372036854775807 by omega), Int.toNat_natCast, hset, ae2 hat, e1]
    rw [show (aa2.mk x5.1[j].Net t.Host (Go.Lib.itoa (32768 + t.Id))) = aL4 t x5.1[j] from rfl, hset2, ac2 (by simp; omega) (by simp; omega)]
    rfl
  ·intro _ _
   simp [ai5, a23]
 have loopR : t.State = 1 → ∀ (x5 : List aa2 × Int), x5.1.length ≤ 1000000 → ab0 (fun s => ap2 n (i : Int) x5 s) 0 = some (a23 n t x5.1) := by
  intro hs1 x5 hx
  refine (ac5 (σ := Unit) x5.1.length (fun _ j => j) _ (fun j _ => a23 n t (x5.1.drop j)) (fun _ _ => True) (s0 := ()) trivial ?_ ?_).trans (by simp)
  ·intro _ j hj _
   rw [List.drop_eq_getElem_cons hj, a23]
   simp only [ap2, dlt hj, if_true, aa6 hj, Option.bind_some, cb5 g.hl]
   cases hf : n.Talks.find? (b24 x5.1[j]) with
   | none =>
    left
    refine ⟨(), ?_, rfl, trivial⟩
    rw [bO9 hf, if_neg (by decide), aa8 (by omega)]
   | some s =>
    right
    obtain ⟨m, m1, m2, m3, m4⟩ := bz4 hf
    have hs := List.mem_of_getElem? m3
    have m4' := m4
    unfold b24 at m4'
    simp only [Bool.and_eq_true, decide_eq_true_eq] at m4'
    have hne : t.Id ≠ s.Id := by
     intro q
     have := af4 g.tk.inc t ht s hs q
     rw [← this] at m4'; omega
    have b0 : ar8 8 ([] : List Int) s.Backlog = some s.Backlog := by rw [ac2 (by simp; omega) (by simp; omega)]; rfl
    have b1 : ar8 8 s.Backlog [n.Next] = some (s.Backlog ++ [n.Next]) := ac2 (by simp; omega) (by simp; omega)
    have hset : List.set n.Talks i (aa0.mk t.Id t.Host t.Owner 3 (aL4 t x5.1[j]) x5.1[j] n.Next t.Data t.Backlog t.Opens) = upT n.Talks t.Id (opT n.Next x5.1[j] (aL4 t x5.1[j])) := as1 (f := opT n.Next x5.1[j] (aL4 t x5.1[j])) g.tk.inc h
    have hat : (upT n.Talks t.Id (opT n.Next x5.1[j] (aL4 t x5.1[j])))[m]? = some s := by rw [ca4 m3, if_neg (fun q => hne q.symm)]
    have hset2 : List.set (upT n.Talks t.Id (opT n.Next x5.1[j] (aL4 t x5.1[j]))) m (aa0.mk s.Id s.Host s.Owner s.State s.Local s.Remote s.Peer s.Data (s.Backlog ++ [n.Next]) s.Opens) = n.Talks.map (a22 t.Id s.Id n.Next x5.1[j] (aL4 t x5.1[j])) := by
     rw [← cu0 hne]
     exact as1 (f := fun t => { t with Backlog := t.Backlog ++ [n.Next] }) (bg0 (f := opT n.Next x5.1[j] (aL4 t x5.1[j])) (fun _ => rfl) g.tk.inc) hat
    have h0 : decide (0 ≤ (m : Int)) = true := by simp
    have w1 := aG0 (n := n) g.hl hi (aa0.mk t.Id t.Host t.Owner 3 (aL4 t x5.1[j]) x5.1[j] n.Next t.Data t.Backlog t.Opens)
    rw [hset] at w1
    have w2 := aG0 (n := aa1.mk n.Db n.Next (upT n.Talks t.Id (opT n.Next x5.1[j] (aL4 t x5.1[j])))) (i := m) (by show (upT _ _ _).length ≤ _; rw [aU6]; exact g.hl) (by show m < (upT _ _ _).length; rw [aU6]; exact m1) (aa0.mk s.Id s.Host s.Owner s.State s.Local s.Remote s.Peer s.Data (s.Backlog ++ [n.Next]) s.Opens)
    rw [m2]
    simp only [h0, if_true, a10, ae2 h, ae2 m3, Option.bind_some, b0, b1, e2, a99 (show -9223372036854775808 ≤ 32768 + t.Id by omega) (show 32768 + t.Id ≤ 9223372036854775807 by omega), e1]
    rw [show (aa2.mk x5.1[j].Net t.Host (Go.Lib.itoa (32768 + t.Id))) = aL4 t x5.1[j] from rfl, w1, Option.bind_some, w2, Option.bind_some]
    simp only [hset2]
    rw [ac2 (by simp; omega) (by simp; omega)]
    rfl
  ·intro _ _
   simp [ap2, a23]
 have hv : (af9 w).2 = 0 → (af9 w).1.Net.length ≤ 1000000 ∧ (af9 w).1.Host.length ≤ 1000000 ∧ (af9 w).1.Service.length ≤ 1000000 := by
  intro h0
  have := bo4 (bo5 h0)
  omega
 constructor
 ·unfold as8 bP7
  rw [ae2 h, b91 hw]
  simp only [Option.bind_some, c64]
  by_cases h1 : t.State = 1
  ·by_cases h2 : (af9 w).2 = 0
   ·rw [bf6 hT (hv h2).2.2, Option.bind_some]
    rw [loopP h1 _ (bV8 hT)]
    by_cases h3 : (ap5 n.Db t.Host (af9 w).1).2 = 0
    ·by_cases h4 : 64 ≤ n.Talks.length
     ·simp [h1, h2, h3, h4]
     ·by_cases h5 : 1048575 < n.Next <;> simp [h1, h2, h3, h4, h5]
    ·simp [h1, h2, h3]
   ·simp [h1, h2]
  ·simp [h1]
 ·unfold aH6 bP7 aP6
  rw [ae2 h, bt7 hw]
  simp only [Option.bind_some, c64]
  by_cases h1 : t.State = 1
  ·by_cases h2 : (af9 w).2 = 0
   ·rw [aY1 hT (hv h2).1 (hv h2).2.1 (hv h2).2.2 (by omega), Option.bind_some]
    rw [loopR h1 _ (bV8 hT)]
    by_cases h3 : (ap5 n.Db t.Host (af9 w).1).2 = 0
    ·by_cases h4 : 64 ≤ n.Talks.length
     ·simp [h1, h2, h3, h4]
     ·by_cases h5 : 1048575 < n.Next <;> simp [h1, h2, h3, h4, h5]
    ·simp [h1, h2, h3]
   ·simp [h1, h2]
  ·simp [h1]
def aQ5 : Str := [97, 110, 110, 111, 117, 110, 99, 101]
def aM5 : Str := [99, 111, 110, 110, 101, 99, 116]
def bP8 : Str := [104, 97, 110, 103, 117, 112]
def b09 (n : aa1) (t : aa0) : aa1 := aa1.mk n.Db n.Next (hangS n.Talks t)
def b10 (n : aa1) (t : aa0) : List Str → aa1 × Int
 | [w] => if w = bP8 then (if t.State = 3 ∨ t.State = 2 then (b09 n t, 0) else (n, 43)) else (n, 54)
 | [w, x] => if w = aQ5 then b08 n t x else if w = aM5 then bP7 n t x else (n, 54)
 | _ => (n, 54)
def bu4 (n : aa1) (host user : Str) (id : Int) (ws : List Str) : aa1 × Int := match fdT n.Talks id with
 | none => (n, 8)
 | some t => if t.Host ≠ host then (n, 8) else if t.Owner ≠ user then (n, 11) else b10 n t ws
theorem cl1 {a : aa2} (h : (b23 n t a).2 ≠ 0) : (b23 n t a).1 = n := by
 unfold b23 at h ⊢
 split
 ·rfl
 ·rename_i h1
  rw [if_neg h1] at h
  split
  ·rfl
  ·rename_i x r e
   rw [e] at h
   dsimp only at h
   split
   ·rfl
   ·rename_i h2
    rw [if_neg h2] at h
    split
    ·rfl
    ·rename_i h3
     rw [if_neg h3] at h; exact absurd rfl h
theorem bV9 {w : Str} (h : (b08 n t w).2 ≠ 0) : (b08 n t w).1 = n := by
 unfold b08 at h ⊢
 split
 ·rfl
 ·rename_i h1
  rw [if_neg h1] at h
  split
  ·rfl
  ·rename_i h2
   rw [if_neg h2] at h
   exact cl1 h
theorem cb7 {l : List aa2} (h : (a23 n t l).2 ≠ 0) : (a23 n t l).1 = n := by
 induction l with
 | nil => rfl
 | cons a r ih =>
  unfold a23 at h ⊢
  split
  ·rename_i s e
   rw [e] at h; exact absurd rfl h
  ·rename_i e
   rw [e] at h; exact ih h
theorem bW0 {w : Str} (h : (bP7 n t w).2 ≠ 0) : (bP7 n t w).1 = n := by
 unfold bP7 at h ⊢
 split
 ·rfl
 ·rename_i h1
  rw [if_neg h1] at h
  split
  ·rfl
  ·rename_i h2
   rw [if_neg h2] at h
   split
   ·rfl
   ·rename_i h3
    rw [if_neg h3] at h
    split
    ·rfl
    ·rename_i h4
     rw [if_neg h4] at h
     exact cb7 h
theorem cl2 {ws : List Str} (h : (b10 n t ws).2 ≠ 0) : (b10 n t ws).1 = n := by
 unfold b10 at h ⊢
 split
 ·dsimp only at h
  split
  ·rename_i h1
   rw [if_pos h1] at h
   split
   ·rename_i h2
    rw [if_pos h2] at h; exact absurd rfl h
   ·rfl
  ·rfl
 ·dsimp only at h
  split
  ·rename_i h1
   rw [if_pos h1] at h; exact bV9 h
  ·rename_i h1
   rw [if_neg h1] at h
   split
   ·rename_i h2
    rw [if_pos h2] at h; exact bW0 h
   ·rfl
 ·rfl
theorem bH7 (hm : Mod n) {r : aa1 × Int} (h : r.2 ≠ 0 → r.1 = n) : ae8 n r.2 r.1.Db r.1.Next r.1.Talks = some r := by
 unfold ae8
 rw [ah8 hm]
 by_cases q : r.2 = 0
 ·simp only [q, decide_true, Bool.not_true, Bool.false_eq_true, if_false]
  rw [ct4, ← q]
 ·simp only [q, decide_false, Bool.not_false, if_true, Option.bind_some]
  rw [← h q]
theorem bA1 : ∀ (s cur : Str), ∀ w ∈ bA9 cur s, w.length ≤ cur.length + s.length
 | [], cur, w, h => by
  rw [bi4] at h
  split at h
  ·cases h
  ·rw [List.mem_singleton.1 h]; simp
 | c :: r, cur, w, h => by
  cases hc : ce5 c with
  | true =>
   rw [bi3 hc] at h
   rcases List.mem_append.1 h with h | h
   ·split at h
    ·cases h
    ·rw [List.mem_singleton.1 h]; simp
   ·have := bA1 r [] w h
    simp at this ⊢; omega
  | false =>
   rw [bO8 hc] at h
   have := bA1 r (cur ++ [c]) w h
   simp at this ⊢; omega
theorem cb8 (g : Good n) (L : Lim n) (user : Str) {line : Str} {ws : List Str} (hf : aI0 line = some ws) (hw : ∀ w ∈ ws, w.length ≤ 50000) : ag2 n host user id line = some (bu4 n host user id ws) := by
 have hm : Mod n := g.mod L.db
 unfold ag2 bu4
 rw [aD5 g.hl, Option.bind_some]
 cases hfd : fdT n.Talks id with
 | none => rw [aE5 hfd]; simp [ah8 hm]
 | some t =>
  obtain ⟨i, i1, i2, i3, i4⟩ := ai3 hfd
  obtain ⟨ht, hid⟩ := ba1 hfd
  have h0 : decide ((i : Int) < 0) = false := by simp
  rw [i2]
  simp only [h0, Bool.false_eq_true, if_false, ae2 i3, Option.bind_some, ah8 hm, hf]
  by_cases hh : t.Host = host
  ·by_cases ho : t.Owner = user
   ·simp only [hh, ho, decide_true, Bool.not_true, Bool.false_eq_true, if_false, ne_eq, not_true_eq_false]
    have k54 : ae8 n 54 n.Db n.Next n.Talks = some (n, 54) := bH7 hm (r := (n, 54)) (fun _ => rfl)
    have k43 : ae8 n 43 n.Db n.Next n.Talks = some (n, 43) := bH7 hm (r := (n, 43)) (fun _ => rfl)
    cases ws with
    | nil => simp [b10, k54]
    | cons w r =>
     cases r with
     | nil =>
      have l1 : (List.length [w] : Int) = 1 := rfl
      have hu := bV2 g.inv ht (g.tk.waits ht)
      rw [hid] at hu
      have k0 : ae8 n 0 n.Db n.Next (hangS n.Talks t) = some (b09 n t, 0) := bH7 hm (r := (b09 n t, 0)) (fun q => absurd rfl q)
      simp only [l1, show decide ((1 : Int) = 2) = false from rfl, Bool.false_eq_true, if_false, Option.bind_some, decide_true, if_true, show aa9 [w] 0 = some w from rfl, hu, b10, bP8]
      by_cases hw1 : w = [104, 97, 110, 103, 117, 112]
      ·by_cases s3 : t.State = 3
       ·simp [hw1, s3, k0]
       ·by_cases s2 : t.State = 2
        ·simp [hw1, s2, k0]
        ·simp [hw1, s3, s2, k43]
      ·simp [hw1, k54]
     | cons x r =>
      cases r with
      | nil =>
       have l2 : (List.length [w, x] : Int) = 2 := rfl
       have hx := hw x (by simp)
       have ka := bH7 hm (r := b08 n t x) bV9
       have kc := bH7 hm (r := bP7 n t x) bW0
       simp only [l2, decide_true, if_true, show aa9 [w, x] 0 = some w from rfl, show aa9 [w, x] 1 = some x from rfl, Option.bind_some, (cb4 g L i3 hx).1, (cb6 g L i3 hx).1, ka, kc, b10, aQ5, aM5, show decide ((2 : Int) = 1) = false from rfl, Bool.false_eq_true, if_false, k54]
       by_cases w1 : w = [97, 110, 110, 111, 117, 110, 99, 101]
       ·simp [w1]
       ·by_cases w2 : w = [99, 111, 110, 110, 101, 99, 116]
        ·simp [w2]
        ·simp [w1, w2]
      | cons y r =>
       have l2 : ¬ ((List.length (w :: x :: y :: r) : Int) = 2) := by simp; omega
       have l1 : ¬ ((List.length (w :: x :: y :: r) : Int) = 1) := by simp; omega
       simp only [decide_eq_false l2, decide_eq_false l1, Bool.false_eq_true, if_false, Option.bind_some, k54, b10]
   ·simp [hh, ho]
  ·simp [hh]
theorem bH8 (g : Good n) (L : Lim n) (user : Str) {line : Str} {ws : List Str} (hf : az4 line = some ws) (hw : ∀ w ∈ ws, w.length ≤ 50000) : aB5 n host user id line = some (bu4 n host user id ws) := by
 unfold aB5 bu4
 rw [bu3 g.hl, Option.bind_some]
 cases hfd : fdT n.Talks id with
 | none => simp
 | some t =>
  obtain ⟨i, i1, i2, i3, i4⟩ := ai3 hfd
  obtain ⟨ht, hid⟩ := ba1 hfd
  have h0 : decide ((i : Int) < 0) = false := by simp
  rw [i2]
  dsimp only
  by_cases hh : t.Host = host
  ·simp only [hh, if_true, h0, Bool.false_eq_true, if_false, ae2 i3, Option.bind_some, hf, ne_eq, not_true_eq_false]
   by_cases ho : t.Owner = user
   ·simp only [ho, decide_true, Bool.not_true, Bool.false_eq_true, if_false, not_true_eq_false]
    cases ws with
    | nil => simp [b10]
    | cons w r =>
     cases r with
     | nil =>
      have l1 : (List.length [w] : Int) = 1 := rfl
      have hu := bG7 g.inv ht (g.tk.waits ht) (fun _ => g.tk.self ht)
      rw [hid] at hu
      simp only [l1, show decide ((1 : Int) = 2) = false from rfl, Bool.false_eq_true, if_false, Option.bind_some, decide_true, Bool.not_true, if_true, show aa9 [w] 0 = some w from rfl, hu, b10, bP8]
      by_cases hw1 : w = [104, 97, 110, 103, 117, 112]
      ·by_cases s3 : t.State = 3
       ·simp [hw1, s3, b09]
       ·by_cases s2 : t.State = 2
        ·simp [hw1, s2, b09]
        ·simp [hw1, s3, s2]
      ·simp [hw1]
     | cons x r =>
      cases r with
      | nil =>
       have l2 : (List.length [w, x] : Int) = 2 := rfl
       have hx := hw x (by simp)
       simp only [l2, decide_true, if_true, show aa9 [w, x] 0 = some w from rfl, show aa9 [w, x] 1 = some x from rfl, Option.bind_some, (cb4 g L i3 hx).2, (cb6 g L i3 hx).2, b10, aQ5, aM5, show decide ((2 : Int) = 1) = false from rfl, Bool.not_false, Bool.false_eq_true, if_false]
       by_cases w1 : w = [97, 110, 110, 111, 117, 110, 99, 101]
       ·simp [w1]
       ·by_cases w2 : w = [99, 111, 110, 110, 101, 99, 116]
        ·simp [w2]
        ·simp [w1, w2]
      | cons y r =>
       have l2 : ¬ ((List.length (w :: x :: y :: r) : Int) = 2) := by simp; omega
       have l1 : ¬ ((List.length (w :: x :: y :: r) : Int) = 1) := by simp; omega
       simp only [decide_eq_false l2, decide_eq_false l1, Bool.false_eq_true, if_false, Option.bind_some, b10, Bool.not_false, if_true]
   ·simp [ho]
  ·simp [hh]
abbrev RR : Type := aa1 × Str × Bool × Int
def bu5 (s : Str) (off cnt : Int) : Str := (s.drop off.toNat).take cnt.toNat
def bH9 (s : Int) : Str := if s = 1 then [105, 100, 108, 101] else if s = 2 then [97, 110, 110, 111, 117, 110, 99, 101, 100] else if s = 3 then [111, 112, 101, 110] else [104, 117, 110, 103, 117, 112]
def bA2 (t : aa0) (k : Int) : Str := if k = 1 then Go.Lib.itoa t.Id else if k = 4 then bH9 t.State else if k = 5 then (bf5 t.Local).1 else if k = 6 then (bf5 t.Remote).1 else []
def b11 (c : Nat) (t : aa0) : aa0 := { t with Data := t.Data.drop c }
def bA3 (n : aa1) (k : Int) (t : aa0) (off cnt : Int) : RR :=
 if k = 0 then (n, [], false, 10) else if off < 0 ∨ cnt < 0 then (n, [], false, 1) else if k ≠ 2 then (n, bu5 (bA2 t k) off (min cnt 65536), false, 0)
 else if t.State ≤ 2 then (n, [], false, 43) else if t.Data = [] then (n, [], decide (t.State = 3), 0) else (aa1.mk n.Db n.Next (upT n.Talks t.Id (b11 (min cnt 65536).toNat)), t.Data.take (min cnt 65536).toNat, false, 0)
def cb9 (n : aa1) (off cnt : Int) : RR := if off < 0 ∨ cnt < 0 then (n, [], false, 1) else (n, [], false, 0)
theorem bu6 {a : aa2} (h : bP6 a) : (bf5 a).1.length ≤ 50000 := by
 obtain ⟨h1, h2, h3⟩ := h
 unfold bf5
 split
 ·simp only [List.length_append, List.length_singleton]
  split
  ·simp; omega
  ·simp; omega
 ·simp
theorem cc0 (g : Good n) (L : Lim n) (ht : t ∈ n.Talks) (k : Int) : (bA2 t k).length ≤ 50000 := by
 obtain ⟨r1, r2⟩ := g.idr t ht
 have := g.n9
 have h1 := bU7 (n := t.Id) (by omega) (by omega)
 have h2 := bu6 (L.ad t ht).1
 have h3 := bu6 (L.ad t ht).2
 unfold bA2 bH9
 repeat' split
 all_goals first | omega | simp
theorem cc1 {s : Str} {off cnt : Int} (h0 : 0 ≤ off) (h1 : 0 ≤ cnt) (hs : s.length ≤ 1000000) :
  cut s (min off (List.length s : Int)) (IntKind.wrap .i64 ((min off (List.length s : Int)) + (min cnt (IntKind.wrap .i64 ((List.length s : Int) - (min off (List.length s : Int))))))) = some (bu5 s off cnt) := by
 rw [ag5 (n := (List.length s : Int) - (min off (List.length s : Int))) (by omega) (by omega), ag5 (by omega) (by omega)]
 have e1 : min off (List.length s : Int) = ((min off.toNat s.length : Nat) : Int) := by omega
 have e2 : min off (List.length s : Int) + min cnt ((List.length s : Int) - min off (List.length s : Int)) = ((min off.toNat s.length + min cnt.toNat (s.length - min off.toNat s.length) : Nat) : Int) := by omega
 rw [e2, e1, aW4 (by omega) (by omega)]
 unfold bu5
 congr 1
 rw [List.drop_take]
 by_cases q : off.toNat ≤ s.length
 ·rw [Nat.min_eq_left q]
  have : off.toNat + min cnt.toNat (s.length - off.toNat) - off.toNat = min cnt.toNat (s.length - off.toNat) := by omega
  rw [this]
  by_cases q2 : cnt.toNat ≤ s.length - off.toNat
  ·rw [Nat.min_eq_left q2]
  ·rw [Nat.min_eq_right (by omega), List.take_of_length_le (by simp), List.take_of_length_le (by simp; omega)]
 ·rw [Nat.min_eq_right (by omega), List.drop_of_length_le (by omega), List.drop_of_length_le (by omega)]; simp
theorem bI0 {s : Str} {off cnt : Int} (h0 : 0 ≤ off) (h1 : 0 ≤ cnt) : aK9 s off cnt = some (bu5 s off cnt) := by
 unfold aK9 bu5
 by_cases hl : (List.length s : Int) ≤ off
 ·have : s.drop off.toNat = [] := List.drop_of_length_le (by omega)
  simp [hl, this]
 ·have hc : cut s off (List.length s : Int) = some (s.drop off.toNat) := by
   have := aR6 (l := s) (a := off.toNat) (by omega)
   rw [show ((off.toNat : Nat) : Int) = off by omega] at this
   exact this
  simp only [decide_eq_false hl, Bool.false_eq_true, if_false, hc, Option.bind_some]
  by_cases hd : cnt < (List.length (s.drop off.toNat) : Int)
  ·have hc2 : cut (s.drop off.toNat) 0 cnt = some ((s.drop off.toNat).take cnt.toNat) := by
    have := a29 (l := s.drop off.toNat) (b := cnt.toNat) (by omega)
    rw [show ((cnt.toNat : Nat) : Int) = cnt by omega] at this
    exact this
   simp only [decide_eq_true hd, if_true, hc2, Option.bind_some]
  ·simp only [decide_eq_false hd, Bool.false_eq_true, if_false]
   rw [List.take_of_length_le (by omega)]
theorem lim6 {a : aa2} (h : bP6 a) : a.Net.length ≤ 1000000 ∧ a.Host.length ≤ 1000000 ∧ a.Service.length ≤ 1000000 := by
 obtain ⟨h1, h2, h3⟩ := h; omega
theorem cl3 {s : Int} (h1 : 1 ≤ s) (h4 : s ≤ 4) : aa9 [[], [105, 100, 108, 101], [97, 110, 110, 111, 117, 110, 99, 101, 100], [111, 112, 101, 110], [104, 117, 110, 103, 117, 112]] s = some (bH9 s) := by
 rcases (by omega : s = 1 ∨ s = 2 ∨ s = 3 ∨ s = 4) with rfl | rfl | rfl | rfl <;> rfl
theorem TFile.contents (g : Good n) (L : Lim n) (F : TFile n host id t i k) : ax5 n (aa5.mk id (i : Int) k) = some (bA2 t k) := by
 have ht := List.mem_of_getElem? F.at_
 have r := g.tk.rng t ht
 have l1 := lim6 (L.ad t ht).1
 have l2 := lim6 (L.ad t ht).2
 have h0 : decide ((i : Int) < 0) = false := by simp
 unfold ax5 bA2
 simp only [h0, Bool.false_eq_true, if_false, ae2 F.at_, Option.bind_some, a63 (show -9223372036854775808 ≤ t.Id by have := F.id1; omega) (show t.Id ≤ 9223372036854775807 by have := F.id2; omega), cl3 r.s1 r.s4, b92 l1.1 l1.2.1 l1.2.2, b92 l2.1 l2.2.1 l2.2.2]
 by_cases k1 : k = 1
 ·simp [k1]
 by_cases k4 : k = 4
 ·simp [k4]
 by_cases k5 : k = 5
 ·simp [k5]
 by_cases k6 : k = 6
 ·simp [k6]
 ·simp [k1, k4, k5, k6]
theorem bI1 {s : Int} : aM3 s = some (bH9 s) := by
 unfold aM3 bH9
 by_cases k1 : s = 1
 ·simp [k1]
 by_cases k4 : s = 2
 ·simp [k4]
 by_cases k5 : s = 3
 ·simp [k5]
 ·simp [k1, k4, k5]
theorem bq5 (g : Good n) (L : Lim n) (ht : t ∈ n.Talks) (k : Int) : aE4 t k = some (bA2 t k) := by
 obtain ⟨r1, r2⟩ := g.idr t ht
 have := g.n9
 have l1 := lim6 (L.ad t ht).1
 have l2 := lim6 (L.ad t ht).2
 unfold aE4 bA2
 simp only [Option.bind_some, a99 (show -9223372036854775808 ≤ t.Id by omega) (show t.Id ≤ 9223372036854775807 by omega), bI1, bt8 l1.1 l1.2.1 l1.2.2, bt8 l2.1 l2.2.1 l2.2.2]
 by_cases k1 : k = 1
 ·simp [k1]
 by_cases k4 : k = 4
 ·simp [k4]
 by_cases k5 : k = 5
 ·simp [k5]
 by_cases k6 : k = 6
 ·simp [k6]
 ·simp [k1, k4, k5, k6]
theorem bW1 {s : Str} {c : Int} (h : 0 ≤ c) : cut s 0 (min c (List.length s : Int)) = some (s.take c.toNat) ∧ cut s (min c (List.length s : Int)) (List.length s : Int) = some (s.drop c.toNat) := by
 have e1 : min c (List.length s : Int) = ((min c.toNat s.length : Nat) : Int) := by omega
 rw [e1, a29 (by omega), aR6 (by omega)]
 by_cases q : c.toNat ≤ s.length
 ·rw [Nat.min_eq_left q]; exact ⟨rfl, rfl⟩
 ·rw [Nat.min_eq_right (by omega), List.take_of_length_le (Nat.le_refl _), List.take_of_length_le (by omega), List.drop_of_length_le (Nat.le_refl _), List.drop_of_length_le (by omega)]; exact ⟨rfl, rfl⟩
theorem bI2 (g : Good n) (L : Lim n) (F : TFile n host id t i k) (off cnt : Int) : ah2 n host id off cnt = some (bA3 n k t off cnt) := by
 have ht := List.mem_of_getElem? F.at_
 have h0 : decide ((i : Int) < 0) = false := by simp
 have hc := cc0 g L ht k
 unfold ah2 bA3
 rw [ah8 (g.mod L.db), F.look g]
 simp only [Option.bind_some, Bool.not_true, Bool.false_eq_true, if_false, F.isDir, h0, Bool.false_or, ae2 F.at_, F.contents g L, Int.toNat_natCast]
 by_cases k0 : k = 0
 ·simp [k0]
 by_cases ho : off < 0
 ·simp [k0, ho]
 by_cases hn : cnt < 0
 ·simp [k0, ho, hn]
 ·have c0 : 0 ≤ min cnt 65536 := by omega
  simp only [k0, ho, hn, decide_false, Bool.or_self, Bool.false_eq_true, if_false, or_self, cc1 (show 0 ≤ off by omega) c0 (show (bA2 t k).length ≤ 1000000 by omega), Option.bind_some, (bW1 (s := t.Data) c0).1, (bW1 (s := t.Data) c0).2]
  by_cases k2 : k = 2
  ·by_cases s2 : t.State ≤ 2
   ·simp [k2, s2]
   ·by_cases hd : t.Data = []
    ·simp [k2, s2, hd]
    ·have hset : List.set n.Talks i (aa0.mk t.Id t.Host t.Owner t.State t.Local t.Remote t.Peer (t.Data.drop (min cnt 65536).toNat) t.Backlog t.Opens) = upT n.Talks t.Id (b11 (min cnt 65536).toNat) := as1 (f := b11 (min cnt 65536).toNat) g.tk.inc F.at_
     simp [k2, s2, hd, hset]
  ·simp [k2]
theorem bI3 (g : Good n) (L : Lim n) (F : TFile n host id t i k) (off cnt : Int) : as5 n host id off cnt = some (bA3 n k t off cnt) := by
 have h := F.big
 have h3 : ¬ id = 3 := by omega
 have ht := List.mem_of_getElem? F.at_
 have hi : i < n.Talks.length := (List.getElem?_eq_some_iff.1 F.at_).1
 unfold as5 bA3
 simp only [F.ex g, F.dir, Option.bind_some, Bool.not_true, Bool.false_eq_true, if_false, h3, decide_false, F.tdiv, bd5 g.hl, F.ix g, ae2 F.at_, F.tmod, bq5 g L ht]
 by_cases k0 : k = 0
 ·simp [k0]
 by_cases ho : off < 0
 ·simp [k0, ho]
 by_cases hn : cnt < 0
 ·simp [k0, ho, hn]
 ·have c0 : 0 ≤ min cnt 65536 := by omega
  simp only [k0, ho, hn, decide_false, Bool.or_self, Bool.false_eq_true, if_false, or_self, bI0 (s := bA2 t k) (show 0 ≤ off by omega) c0, bI0 (s := t.Data) (Int.le_refl 0) c0, Option.bind_some]
  by_cases k2 : k = 2
  ·have s23 : decide (t.State < 3) = decide (t.State ≤ 2) := by simp; omega
   by_cases s2 : t.State ≤ 2
   ·simp [k2, s2, s23]
   ·by_cases hd : t.Data = []
    ·simp [k2, s2, s23, hd]
    ·have e1 : bu5 t.Data 0 (min cnt 65536) = t.Data.take (min cnt 65536).toNat := rfl
     have e2 : cut t.Data ((t.Data.take (min cnt 65536).toNat).length : Int) (List.length t.Data : Int) = some (t.Data.drop (min cnt 65536).toNat) := by
      rw [aR6 (by simp; omega), List.length_take]
      by_cases q : (min cnt 65536).toNat ≤ t.Data.length
      ·rw [Nat.min_eq_left q]
      ·rw [Nat.min_eq_right (by omega), List.drop_of_length_le (Nat.le_refl _), List.drop_of_length_le (by omega)]
     have hset : List.set n.Talks i (aa0.mk t.Id t.Host t.Owner t.State t.Local t.Remote t.Peer (t.Data.drop (min cnt 65536).toNat) t.Backlog t.Opens) = upT n.Talks t.Id (b11 (min cnt 65536).toNat) := as1 (f := b11 (min cnt 65536).toNat) g.tk.inc F.at_
     simp only [k2, s23, s2, hd, decide_true, decide_false, Bool.not_true, Bool.false_eq_true, if_false, ne_eq, not_true_eq_false, e1, e2, Option.bind_some, aG0 g.hl hi, hset]
  ·simp [k2]
theorem bI4 (hm : Mod n) (off cnt : Int) : ah2 n host 1 off cnt = some (n, [], false, 10) ∧ as5 n host 1 off cnt = some (n, [], false, 10) := by
 constructor
 ·unfold ah2; rw [ah8 hm]; rfl
 ·rfl
theorem bu7 (hm : Mod n) (off cnt : Int) : ah2 n host 3 off cnt = some (cb9 n off cnt) ∧ as5 n host 3 off cnt = some (cb9 n off cnt) := by
 have hc : ∀ {off cnt : Int}, 0 ≤ off → 0 ≤ cnt → cut ([] : Str) (min off 0) (IntKind.wrap .i64 (min off 0 + min (min cnt 65536) (IntKind.wrap .i64 (0 - min off 0)))) = some [] := by
  intro off cnt h0 h1
  have e1 : min off 0 = 0 := by omega
  rw [e1]
  have e2 : IntKind.wrap .i64 (0 - 0) = 0 := ag5 (by omega) (by omega)
  rw [e2]
  have e3 : min (min cnt 65536) 0 = 0 := by omega
  rw [e3]
  have e4 : IntKind.wrap .i64 (0 + 0) = 0 := ag5 (by omega) (by omega)
  rw [e4]; rfl
 constructor
 ·unfold ah2 cb9
  rw [ah8 hm, show ab7 n host 3 = some (aa5.mk 3 (-1) 0, true) from rfl]
  simp only [Option.bind_some, Bool.not_true, Bool.false_eq_true, if_false, show ab5 (aa5.mk 3 (-1) 0) = some false from rfl, show ax5 n (aa5.mk 3 (-1) 0) = some [] from rfl, show (decide ((-1 : Int) < 0)) = true from rfl, Bool.true_or, if_true, List.length_nil]
  by_cases ho : off < 0
  ·simp [ho]
  by_cases hn : cnt < 0
  ·simp [ho, hn]
  ·have := hc (off := off) (cnt := cnt) (by omega) (by omega)
   simp only [ho, hn, decide_false, Bool.or_self, Bool.false_eq_true, if_false, or_self]
   rw [show ((0 : Nat) : Int) = 0 from rfl, this]; rfl
 ·unfold as5 cb9
  simp only [show ab8 n host 3 = some true from rfl, show ab4 3 = some false from rfl, Option.bind_some, Bool.not_true, Bool.false_eq_true, if_false, decide_true, if_true]
  by_cases ho : off < 0
  ·simp [ho]
  by_cases hn : cnt < 0
  ·simp [ho, hn]
  ·simp [ho, hn]
theorem bI5 (hm : Mod n) {off cnt : Int} {f : aa5} (h1 : ab7 n host id = some (f, false)) (h2 : ab8 n host id = some false) : ah2 n host id off cnt = some (n, [], false, 8) ∧ as5 n host id off cnt = some (n, [], false, 8) := by
 constructor
 ·unfold ah2; rw [ah8 hm, h1]; simp
 ·unfold as5; rw [h2]; simp
def cz2 (s : Str) (t : aa0) : aa0 := { t with Data := t.Data ++ s }
def bI6 (n : aa1) (t : aa0) (data : Str) : RO :=
 if t.State ≤ 2 then (n, 0, false, 43) else if t.State = 4 then (n, 0, false, 30) else if 8192 < data.length then (n, 0, false, 4) else match fdT n.Talks t.Peer with
 | none => (n, 0, true, 0)
 | some p => if 8192 < p.Data.length + data.length then (n, 0, true, 0) else (aa1.mk n.Db n.Next (upT n.Talks p.Id (cz2 data)), (data.length : Int), false, 0)
def ba4 (n : aa1) (user : Str) (k : Int) (t : aa0) (data : Str) (ws : List Str) : RO :=
 if k = 0 then (n, 0, false, 10) else if k ≠ 1 ∧ k ≠ 2 then (n, 0, false, 11) else if k = 1 then (if (bu4 n t.Host user t.Id ws).2 ≠ 0 then (n, 0, false, (bu4 n t.Host user t.Id ws).2) else ((bu4 n t.Host user t.Id ws).1, (data.length : Int), false, 0))
 else bI6 n t data
theorem cl4 {user : Str} {ws : List Str} (h : (bu4 n host user id ws).2 ≠ 0) : (bu4 n host user id ws).1 = n := by
 unfold bu4 at h ⊢
 split
 ·rfl
 ·rename_i t e
  rw [e] at h
  dsimp only at h
  split
  ·rfl
  ·rename_i h1
   rw [if_neg h1] at h
   split
   ·rfl
   ·rename_i h2
    rw [if_neg h2] at h
    exact cl2 h
theorem bu8 (g : Good n) (L : Lim n) (F : TFile n host id t i k) (user : Str) {data : Str} {ws : List Str} (hd : data.length ≤ 50000) (hf : k = 1 → aI0 data = some ws) (hw : ∀ w ∈ ws, w.length ≤ 50000) : ag7 n host user id data = some (ba4 n user k t data ws) := by
 have ht := List.mem_of_getElem? F.at_
 have h0 : decide ((i : Int) < 0) = false := by simp
 unfold ag7 ba4
 rw [ah8 (g.mod L.db), F.look g]
 simp only [Option.bind_some, Bool.not_true, Bool.false_eq_true, if_false, F.isDir, h0, Bool.false_or, ae2 F.at_, F.tdiv, Int.toNat_natCast]
 by_cases k0 : k = 0
 ·simp [k0]
 by_cases k1 : k = 1
 ·have hc := cb8 (host := t.Host) (id := t.Id) g L user (hf k1) hw
  rw [← F.host, hc]
  have he := cl4 (n := n) (host := t.Host) (id := t.Id) (user := user) (ws := ws)
  generalize bu4 n t.Host user t.Id ws = r at he
  by_cases h2 : r.2 = 0
  ·simp [k1, h2]
  ·simp [k1, h2, he h2]
 ·by_cases k2 : k = 2
  ·unfold bI6
   simp only [k0, k1, k2, decide_true, decide_false, Bool.not_true, Bool.not_false, Bool.and_false, Bool.false_eq_true, if_false, ne_eq, not_true_eq_false, and_false, show ¬ ((2 : Int) = 0) by decide, show ¬ ((2 : Int) = 1) by decide]
   by_cases s2 : t.State ≤ 2
   ·simp [s2]
   by_cases s4 : t.State = 4
   ·simp [s4]
   have c1 : decide ((8192 : Int) < (data.length : Int)) = decide (8192 < data.length) := by simp; omega
   by_cases hl : 8192 < data.length
   ·simp [s2, s4, hl, c1]
   ·simp only [s2, s4, hl, c1, decide_false, Bool.false_eq_true, if_false, aD5 g.hl, Option.bind_some]
    cases hfd : fdT n.Talks t.Peer with
    | none => simp [aE5 hfd]
    | some p =>
     obtain ⟨j, j1, j2, j3, j4⟩ := ai3 hfd
     have hp := (ba1 hfd).1
     have hpd := (g.tk.rng p hp).dt
     have hj0 : decide ((j : Int) < 0) = false := by simp
     have e1 : IntKind.wrap .i64 ((List.length p.Data : Int) + (List.length data : Int)) = (List.length p.Data : Int) + (List.length data : Int) := ag5 (by omega) (by omega)
     have c2 : decide ((8192 : Int) < (List.length p.Data : Int) + (List.length data : Int)) = decide (8192 < p.Data.length + data.length) := by simp; omega
     have hset : List.set n.Talks j (aa0.mk p.Id p.Host p.Owner p.State p.Local p.Remote p.Peer (p.Data ++ data) p.Backlog p.Opens) = upT n.Talks p.Id (cz2 data) := as1 (f := cz2 data) g.tk.inc j3
     have hcat : ax1 p.Data data = some (p.Data ++ data) := ac3 (by omega)
     rw [j2]
     simp only [hj0, Bool.false_eq_true, if_false, ae2 j3, Option.bind_some, e1, c2, hcat, Int.toNat_natCast, hset]
     by_cases h3 : 8192 < p.Data.length + data.length
     ·simp [h3]
     ·simp [h3]
  ·simp [k0, k1, k2]
theorem b12 (g : Good n) (h : n.Talks[i]? = some t) {data : Str} (hd : data.length ≤ 50000) : a12 n (i : Int) data = some (bI6 n t data) := by
 have ht := List.mem_of_getElem? h
 have r := g.tk.rng t ht
 have s1 := r.s1
 have s4' := r.s4
 unfold a12 bI6
 rw [ae2 h, Option.bind_some, bd5 g.hl, Option.bind_some]
 by_cases s2 : t.State ≤ 2
 ·have : t.State < 3 := by omega
  simp [s2, this]
 have s3' : ¬ t.State < 3 := by omega
 by_cases s4 : t.State = 4
 ·simp [s4]
 have s3 : t.State = 3 := by omega
 obtain ⟨p, hp, e1, e2, e3, e4⟩ := g.tk.pe t ht s3
 have hfd : fdT n.Talks t.Peer = some p := by rw [← e1]; exact a19 g.tk.inc hp
 obtain ⟨j, j1, j2, j3, j4⟩ := ai3 hfd
 have hpd := (g.tk.rng p hp).dt
 have hj0 : decide ((j : Int) < 0) = false := by simp
 have c1 : decide ((8192 : Int) < (data.length : Int)) = decide (8192 < data.length) := by simp; omega
 have e5 : IntKind.wrap .i64 (8192 - (List.length data : Int)) = 8192 - (List.length data : Int) := ag5 (by omega) (by omega)
 have c2 : decide (8192 - (List.length data : Int) < (List.length p.Data : Int)) = decide (8192 < p.Data.length + data.length) := by simp; omega
 have hset : List.set n.Talks j (aa0.mk p.Id p.Host p.Owner p.State p.Local p.Remote p.Peer (p.Data ++ data) p.Backlog p.Opens) = upT n.Talks p.Id (cz2 data) := as1 (f := cz2 data) g.tk.inc j3
 have hcat : ax1 p.Data data = some (p.Data ++ data) := ac3 (by omega)
 rw [j2, hfd]
 simp only [s3, show ¬ ((3 : Int) < 3) by decide, show ¬ ((3 : Int) ≤ 2) by decide, show ¬ ((3 : Int) = 4) by decide, decide_true, decide_false, Bool.not_true, Bool.false_or, hj0, Bool.false_eq_true, if_false, c1, ae2 j3, Option.bind_some, e5, c2, hcat, aG0 g.hl j1, hset]
 by_cases hl : 8192 < data.length
 ·simp [hl]
 ·by_cases h3 : 8192 < p.Data.length + data.length
  ·simp [hl, h3]
  ·simp [hl, h3]
theorem bA4 (g : Good n) (L : Lim n) (F : TFile n host id t i k) (user : Str) {data : Str} {ws : List Str} (hd : data.length ≤ 50000) (hf : k = 1 → az4 data = some ws) (hw : ∀ w ∈ ws, w.length ≤ 50000) : ar7 n host user id data = some (ba4 n user k t data ws) := by
 have h := F.big
 have c16 : decide (16 ≤ id) = true := decide_eq_true h.1
 have c16' : decide (id < 16) = false := by simp; omega
 unfold ar7 ba4
 simp only [F.ex g, F.dir, Option.bind_some, Bool.not_true, Bool.false_eq_true, if_false, F.tdiv, bd5 g.hl, F.ix g, F.tmod, c16, c16', Bool.true_and, Bool.false_or, b12 g F.at_ hd]
 by_cases k0 : k = 0
 ·simp [k0]
 by_cases k1 : k = 1
 ·have hc := bH8 (host := t.Host) (id := t.Id) g L user (hf k1) hw
  rw [← F.host, hc]
  generalize bu4 n t.Host user t.Id ws = r
  by_cases h2 : r.2 = 0
  ·simp [k1, h2]
  ·simp [k1, h2]
 ·by_cases k2 : k = 2
  ·simp [k2]
  ·simp [k0, k1, k2]
theorem bu9 (hm : Mod n) (user data : Str) : ag7 n host user 1 data = some (n, 0, false, 10) ∧ ar7 n host user 1 data = some (n, 0, false, 10) := by
 constructor
 ·unfold ag7; rw [ah8 hm]; rfl
 ·rfl
theorem bo6 (hm : Mod n) (user data : Str) : ag7 n host user 3 data = some (n, 0, false, 11) ∧ ar7 n host user 3 data = some (n, 0, false, 11) := by
 constructor
 ·unfold ag7; rw [ah8 hm]; rfl
 ·rfl
theorem bv0 (hm : Mod n) {user data : Str} {f : aa5} (h1 : ab7 n host id = some (f, false)) (h2 : ab8 n host id = some false) : ag7 n host user id data = some (n, 0, false, 8) ∧ ar7 n host user id data = some (n, 0, false, 8) := by
 constructor
 ·unfold ag7; rw [ah8 hm, h1]; simp
 ·unfold ar7; rw [h2]; simp
def a68 (t : aa0) : aa0 := { t with Opens := t.Opens - 1 }
def bv1 (n : aa1) (k : Int) (t : aa0) : aa1 := if k = 0 then n else if t.Opens = 0 then n else if t.Opens = 1 then aa1.mk n.Db n.Next (cutS n.Talks (t.Backlog ++ [t.Id])) else aa1.mk n.Db n.Next (upT n.Talks t.Id a68)
theorem bI7 (g : Good n) (ht : t ∈ n.Talks) : ca7 (upT n.Talks t.Id a68) (a68 t) := by
 intro h2 u hu hm
 have h2 : t.State = 2 := h2
 have hm : u.Id ∈ t.Backlog := hm
 obtain ⟨v, hv, rfl⟩ := List.mem_map.1 hu
 rcases aw8 t.Id a68 v with ⟨q, e⟩ | ⟨q, e⟩ <;> rw [e] at hm ⊢
 ·exact absurd (q ▸ (show v.Id ∈ t.Backlog from hm)) (g.tk.self ht)
 ·exact g.tk.waits ht h2 v hv hm
theorem b13 (g : Good n) (L : Lim n) (F : TFile n host id t i k) (m : Int) : aj7 n host id m = some (bv1 n k t) := by
 have ht := List.mem_of_getElem? F.at_
 have hi : i < n.Talks.length := (List.getElem?_eq_some_iff.1 F.at_).1
 have r := g.tk.rng t ht
 have o0 := r.o0
 have o9 := r.o9
 have h0 : decide ((i : Int) < 0) = false := by simp
 have e1 : IntKind.wrap .i64 (t.Opens - 1) = t.Opens - 1 := ag5 (by omega) (by omega)
 have hset : List.set n.Talks i (aa0.mk t.Id t.Host t.Owner t.State t.Local t.Remote t.Peer t.Data t.Backlog (t.Opens - 1)) = upT n.Talks t.Id a68 := as1 (f := a68) g.tk.inc F.at_
 have hat : aa9 (upT n.Talks t.Id a68) (i : Int) = some (a68 t) := ae2 (by rw [ca4 F.at_, if_pos rfl])
 have I : Inv (aa1.mk n.Db n.Next (upT n.Talks t.Id a68)).Talks := g.inv.up (f := a68) fun _ => ⟨rfl, rfl, rfl, rfl⟩
 have hm : a68 t ∈ upT n.Talks t.Id a68 := List.mem_map.2 ⟨t, ht, if_pos rfl⟩
 have hg := ck6 I hm (bI7 g ht) (fun _ => GoodT.self (t := t) g.tk ht)
 have hg' : av1 (aa1.mk n.Db n.Next (upT n.Talks t.Id a68)) t.Id = some (aa1.mk n.Db n.Next (cutS n.Talks (t.Backlog ++ [t.Id]))) := by
  rw [← bV5 (f := a68) g.tk g.inv ht fun _ => ⟨rfl, rfl, rfl, rfl⟩]; exact hg
 unfold aj7 bv1
 rw [ah8 (g.mod L.db), F.look g]
 simp only [Option.bind_some, Bool.not_true, Bool.false_eq_true, if_false, F.isDir, h0, ae2 F.at_, Int.toNat_natCast, e1, hset, hat, hg', show (a68 t).Opens = t.Opens - 1 from rfl]
 by_cases k0 : k = 0
 ·simp [k0]
 by_cases ho : t.Opens = 0
 ·simp [k0, ho]
 have ho' : ¬ t.Opens ≤ 0 := by omega
 by_cases h1 : t.Opens = 1
 ·simp [k0, h1]
 ·have : ¬ t.Opens - 1 = 0 := by omega
  simp [k0, ho, ho', h1, this]
theorem bA5 (g : Good n) (F : TFile n host id t i k) (m : Int) : an0 n host id m = some (bv1 n k t) := by
 have h := F.big
 have c16' : decide (id < 16) = false := by simp; omega
 have ht := List.mem_of_getElem? F.at_
 have hi : i < n.Talks.length := (List.getElem?_eq_some_iff.1 F.at_).1
 have r := g.tk.rng t ht
 have o0 := r.o0
 have o9 := r.o9
 have e1 : IntKind.wrap .i64 (t.Opens - 1) = t.Opens - 1 := ag5 (by omega) (by omega)
 have hset : List.set n.Talks i (aa0.mk t.Id t.Host t.Owner t.State t.Local t.Remote t.Peer t.Data t.Backlog (t.Opens - 1)) = upT n.Talks t.Id a68 := as1 (f := a68) g.tk.inc F.at_
 have I : Inv (aa1.mk n.Db n.Next (upT n.Talks t.Id a68)).Talks := g.inv.up (f := a68) fun _ => ⟨rfl, rfl, rfl, rfl⟩
 have hm : a68 t ∈ upT n.Talks t.Id a68 := List.mem_map.2 ⟨t, ht, if_pos rfl⟩
 have hh := bG7 I hm (bI7 g ht) (fun _ => GoodT.self (t := t) g.tk ht)
 rw [show (a68 t).Id = t.Id from rfl] at hh
 have hlen : (hangS (upT n.Talks t.Id a68) (a68 t)).length ≤ 100000 := by
  unfold hangS
  split
  ·exact Nat.le_trans (bP3 _ _) (by rw [aU6, aU6]; exact g.hl)
  ·unfold hgL; rw [List.length_map, aU6]; exact g.hl
 have hwo := bu2 (n := aa1.mk n.Db n.Next (hangS (upT n.Talks t.Id a68) (a68 t))) hlen t.Id
 have hcut : dpL (hangS (upT n.Talks t.Id a68) (a68 t)) [t.Id] = cutS n.Talks (t.Backlog ++ [t.Id]) := bV5 (f := a68) g.tk g.inv ht fun _ => ⟨rfl, rfl, rfl, rfl⟩
 unfold an0 bv1
 simp only [c16', Bool.false_eq_true, if_false, F.dir, F.ex g, Option.bind_some, Bool.not_true, F.tdiv, bd5 g.hl, F.ix g, ae2 F.at_, e1, aG0 g.hl hi, hset, hh, hwo, hcut]
 by_cases k0 : k = 0
 ·simp [k0]
 by_cases ho : t.Opens = 0
 ·simp [k0, ho]
 by_cases h1 : t.Opens = 1
 ·simp [k0, h1]
 ·have : 0 < t.Opens - 1 := by omega
  simp only [k0, ho, h1, this, decide_true, decide_false, Bool.false_eq_true, if_true, if_false, Option.bind_some]
theorem bv2 (hm : Mod n) (m : Int) : aj7 n host 1 m = some n ∧ an0 n host 1 m = some n := by
 constructor
 ·unfold aj7; rw [ah8 hm]; rfl
 ·rfl
theorem bo7 (hm : Mod n) (m : Int) : aj7 n host 3 m = some n ∧ an0 n host 3 m = some n := by
 constructor
 ·unfold aj7; rw [ah8 hm]; rfl
 ·rfl
theorem bv3 (hm : Mod n) {m : Int} {f : aa5} (h1 : ab7 n host id = some (f, false)) (h2 : ab8 n host id = some false) : aj7 n host id m = some n ∧ an0 n host id m = some n := by
 constructor
 ·unfold aj7; rw [ah8 hm, h1]; simp
 ·unfold an0 ab4
  rw [h2]
  by_cases q : id < 16
  ·simp [q]
  ·have q1 : ¬ id = 1 := by omega
   have q2 : 16 ≤ id := by omega
   by_cases q3 : Int.tmod id 16 = 0 <;> simp [q, q1, q2, q3]
structure Fit (n : aa1) : Prop where
 g : Good n
 L : Lim n
def Kin (l l' : List aa0) : Prop := ∀ t' ∈ l', ∃ u ∈ l, u.Id = t'.Id ∧ u.Host = t'.Host ∧ u.Local = t'.Local ∧ u.Remote = t'.Remote
theorem Fit.kin (f : Fit n) {l : List aa0} (G : GoodT l) (hl : l.length ≤ 64) (hk : Kin n.Talks l) : Fit (aa1.mk n.Db n.Next l) := by
 refine ⟨⟨f.g.db, f.g.n1, f.g.n9, hl, ?_, G⟩, ⟨f.L.db, ?_, ?_⟩⟩
 ·intro t ht
  obtain ⟨u, hu, e, _⟩ := hk t ht
  rw [← e]; exact f.g.idr u hu
 ·intro t ht
  obtain ⟨u, hu, _, e, _⟩ := hk t ht
  rw [← e]; exact f.L.ho u hu
 ·intro t ht
  obtain ⟨u, hu, _, _, e1, e2⟩ := hk t ht
  rw [← e1, ← e2]; exact f.L.ad u hu
theorem Kin.map {l : List aa0} {f : aa0 → aa0} (h : ∀ t, (f t).Id = t.Id ∧ (f t).Host = t.Host ∧ (f t).Local = t.Local ∧ (f t).Remote = t.Remote) : Kin l (l.map f) := by
 intro t' ht'
 obtain ⟨t, ht, rfl⟩ := List.mem_map.1 ht'
 obtain ⟨a, b, c, d⟩ := h t
 exact ⟨t, ht, a.symm, b.symm, c.symm, d.symm⟩
theorem Kin.up {l : List aa0} {id : Int} {f : aa0 → aa0} (h : ∀ t, (f t).Id = t.Id ∧ (f t).Host = t.Host ∧ (f t).Local = t.Local ∧ (f t).Remote = t.Remote) : Kin l (upT l id f) := by
 refine Kin.map fun t => ?_
 rcases aw8 id f t with ⟨_, e⟩ | ⟨_, e⟩ <;> rw [e]
 ·exact h t
 ·exact ⟨rfl, rfl, rfl, rfl⟩
theorem Kin.trans {a b c : List aa0} (h1 : Kin a b) (h2 : Kin b c) : Kin a c := by
 intro t ht
 obtain ⟨u, hu, e1, e2, e3, e4⟩ := h2 t ht
 obtain ⟨v, hv, f1, f2, f3, f4⟩ := h1 u hu
 exact ⟨v, hv, f1.trans e1, f2.trans e2, f3.trans e3, f4.trans e4⟩
theorem Kin.hg (l : List aa0) (R : List Int) : Kin l (hgL l R) := Kin.map fun t => ⟨(ah7 R t).1, (ah7 R t).2.1, (ah7 R t).2.2.2.1, (ah7 R t).2.2.2.2.1⟩
theorem Kin.cut (l : List aa0) (R : List Int) : Kin l (cutS l R) := by
 intro t' ht'
 obtain ⟨t, ht, _, rfl⟩ := bo1.1 ht'
 have := ah7 R t
 exact ⟨t, ht, this.1.symm, this.2.1.symm, this.2.2.2.1.symm, this.2.2.2.2.1.symm⟩
theorem Kin.hang (l : List aa0) (t : aa0) : Kin l (hangS l t) := by
 unfold hangS
 split
 ·exact (Kin.up (f := clT) fun _ => ⟨rfl, rfl, rfl, rfl⟩).trans (Kin.cut _ _)
 ·exact Kin.hg _ _
theorem cl5 (l : List aa0) (t : aa0) : (hangS l t).length ≤ l.length := by
 unfold hangS
 split
 ·exact Nat.le_trans (bP3 _ _) (by rw [aU6]; exact Nat.le_refl _)
 ·unfold hgL; rw [List.length_map]; exact Nat.le_refl _
theorem GoodT.up {l : List aa0} (G : GoodT l) (ht : t ∈ l) {f : aa0 → aa0} (K : ∀ t, (f t).Id = t.Id ∧ (f t).Host = t.Host ∧ (f t).State = t.State ∧ (f t).Peer = t.Peer ∧ (f t).Local = t.Local ∧ (f t).Backlog = t.Backlog)
  (ho : (f t).Opens = 0 ↔ t.Opens = 0) (hr : Rng (f t)) : GoodT (upT l t.Id f) := by
 have C : ∀ x ∈ l, (x = t ∧ (if x.Id = t.Id then f x else x) = f t) ∨ (if x.Id = t.Id then f x else x) = x := by
  intro x hx
  rcases aw8 t.Id f x with ⟨q, e⟩ | ⟨q, e⟩
  ·have := af4 G.inc x hx t ht q; subst this; exact .inl ⟨rfl, e⟩
  ·exact .inr e
 refine G.same (fun x => if x.Id = t.Id then f x else x) ?_ ?_ ?_
 ·intro x
  rcases aw8 t.Id f x with ⟨q, e⟩ | ⟨q, e⟩ <;> rw [e]
  ·exact K x
  ·exact ⟨rfl, rfl, rfl, rfl, rfl, rfl⟩
 ·intro x hx
  rcases C x hx with ⟨rfl, e⟩ | e <;> rw [e]
  exact ho
 ·intro x hx
  rcases C x hx with ⟨rfl, e⟩ | e <;> rw [e]
  ·exact hr
  ·exact G.rng x hx
def Far (l : List aa0) (host : Str) (t : aa0) : Prop := t.Host ≠ host ∧ ∀ p ∈ l, p.Id = t.Peer → p.Host ≠ host
def Keeps (n m : aa1) (host : Str) (all : Prop) : Prop := ∀ t ∈ n.Talks, Far n.Talks host t → (all ∨ t.State ≠ 2) → t ∈ m.Talks
theorem Keeps.refl (n : aa1) (host : Str) (all : Prop) : Keeps n n host all := fun t ht _ _ => ht
theorem bP9 {l : List aa0} {id : Int} {f : aa0 → aa0} {x : aa0} (hx : x ∈ l) (h : x.Id ≠ id) : x ∈ upT l id f := List.mem_map.2 ⟨x, hx, if_neg h⟩
theorem bW2 {l : List aa0} {R : List Int} {x : aa0} (hx : x ∈ l) (h1 : x.Id ∉ R) (h2 : x.Peer ∉ R) : x ∈ cutS l R := by
 refine bo1.2 ⟨x, hx, h1, ?_⟩
 unfold hg1; rw [if_neg]; rintro ⟨_, q | q⟩
 ·exact h1 q
 ·exact h2 q
theorem cu1 {l : List aa0} {R : List Int} {x : aa0} (hx : x ∈ l) (h1 : x.Id ∉ R) (h2 : x.Peer ∉ R) : x ∈ hgL l R := by
 refine List.mem_map.2 ⟨x, hx, ?_⟩
 unfold hg1; rw [if_neg]; rintro ⟨_, q | q⟩
 ·exact h1 q
 ·exact h2 q
theorem bQ0 {l : List aa0} (G : GoodT l) {x : aa0} (hx : x ∈ l) {R : List Int} (hR : ∀ c ∈ R, ∃ u ∈ l, u.Id = c ∧ u.Host = host) (hf : Far l host x) : x.Id ∉ R ∧ x.Peer ∉ R := by
 constructor
 ·intro q
  obtain ⟨u, hu, e, h⟩ := hR _ q
  have := af4 G.inc u hu x hx e; subst this
  exact hf.1 h
 ·intro q
  obtain ⟨u, hu, e, h⟩ := hR _ q
  exact hf.2 u hu e h
theorem aY6 {l : List aa0} {x : aa0} (hx : x ∈ l) (ht : t ∈ l) (hh : t.Host = host) (G : GoodT l) (hf : Far l host x) : x.Id ≠ t.Id := by
 intro e
 have := af4 G.inc x hx t ht e; subst this
 exact hf.1 hh
theorem GoodT.bhost {l : List aa0} (G : GoodT l) (ht : t ∈ l) : ∀ c ∈ t.Backlog, ∃ u ∈ l, u.Id = c ∧ u.Host = t.Host := by
 intro c hc
 obtain ⟨u, hu, e1, e2, _⟩ := G.bc t ht c hc
 exact ⟨u, hu, e1, e2⟩
structure Was (n : aa1) (host : Str) (all : Prop) (m : aa1) : Prop where
 fit : Fit m
 far : Keeps n m host all
theorem Was.refl (f : Fit n) (host : Str) (all : Prop) : Was n host all n := ⟨f, Keeps.refl n host all⟩
theorem Was.up (f : Fit n) (all : Prop) (ht : t ∈ n.Talks) {f' : aa0 → aa0} (K : ∀ t, (f' t).Id = t.Id ∧ (f' t).Host = t.Host ∧ (f' t).State = t.State ∧ (f' t).Peer = t.Peer ∧ (f' t).Local = t.Local ∧ (f' t).Backlog = t.Backlog ∧ (f' t).Remote = t.Remote)
  (ho : (f' t).Opens = 0 ↔ t.Opens = 0) (hr : Rng (f' t)) (hh : ∀ x ∈ n.Talks, Far n.Talks host x → x.Id ≠ t.Id) : Was n host all (aa1.mk n.Db n.Next (upT n.Talks t.Id f')) := by
 refine ⟨f.kin (f.g.tk.up ht (fun t => ?_) ho hr) (by rw [aU6]; exact f.g.len) (Kin.up fun t => ?_), fun x hx hf _ => bP9 hx (hh x hx hf)⟩
 ·obtain ⟨a, b, c, d, e, g, h⟩ := K t; exact ⟨a, b, c, d, e, g⟩
 ·obtain ⟨a, b, c, d, e, g, h⟩ := K t; exact ⟨a, b, e, h⟩
theorem cc2 (f : Fit n) (m : Int) : Was n host True (bH0 n m).1 ∧ ((bH0 n m).2.2.1 = true → bH0 n m = (n, 0, true, 0)) := by
 unfold bH0
 split
 ·exact ⟨Was.refl f _ _, fun q => by cases q⟩
 ·exact ⟨Was.refl f _ _, fun q => by cases q⟩
theorem bo8 (f : Fit n) {user : Str} (hh : host.length ≤ 1000) (m : Int) : Was n host True (aU7 n host user m).1 ∧ ((aU7 n host user m).2.2.1 = true → aU7 n host user m = (n, 0, true, 0)) := by
 unfold aU7
 split
 ·exact ⟨Was.refl f _ _, fun q => by cases q⟩
 ·split
  ·exact ⟨Was.refl f _ _, fun q => by cases q⟩
  ·split
   ·exact ⟨Was.refl f _ _, fun q => by cases q⟩
   ·rename_i hu hfull
    have n1 := f.g.n1
    have n9 := f.g.n9
    have M : ∀ t', t' ∈ n.Talks ++ [a67 n.Next host user] → t' ∈ n.Talks ∨ t' = a67 n.Next host user := by intro t' h; simpa using h
    refine ⟨⟨⟨⟨f.g.db, by show 1 ≤ n.Next + 1; omega, by show n.Next + 1 ≤ 1048576; omega, by show (n.Talks ++ [a67 n.Next host user]).length ≤ 64; simp; omega, ?_, f.g.tk.add (fun t ht => (f.g.idr t ht).2) host (by omega)⟩, ⟨f.L.db, ?_, ?_⟩⟩, fun x hx _ _ => List.mem_append_left _ hx⟩, fun q => by cases q⟩
    ·intro t ht
     rcases M t ht with h | rfl
     ·have := f.g.idr t h; exact ⟨this.1, by show t.Id < n.Next + 1; omega⟩
     ·exact ⟨by show 1 ≤ n.Next; omega, by show n.Next < n.Next + 1; omega⟩
    ·intro t ht
     rcases M t ht with h | rfl
     ·exact f.L.ho t h
     ·exact hh
    ·intro t ht
     rcases M t ht with h | rfl
     ·exact f.L.ad t h
     ·exact ⟨⟨by simp [a67, bf9], by simp [a67, bf9], by simp [a67, bf9]⟩, ⟨by simp [a67, bf9], by simp [a67, bf9], by simp [a67, bf9]⟩⟩
theorem bI8 (f : Fit n) (ht : t ∈ n.Talks) (hh : t.Host = host) (user : Str) (m : Int) : Was n host True (bg7 n id k t user m).1 ∧ ((bg7 n id k t user m).2.2.1 = true → bg7 n id k t user m = (n, 0, true, 0)) := by
 have R := Was.refl f host True
 have r := f.g.tk.rng t ht
 unfold bg7
 split
 ·exact ⟨R, fun q => by cases q⟩
 ·split
  ·exact ⟨R, fun q => by cases q⟩
  ·split
   ·split
    ·exact ⟨R, fun q => by cases q⟩
    ·split
     ·exact ⟨R, fun _ => rfl⟩
     ·rename_i c rr hb
      refine ⟨⟨f.kin (f.g.tk.lis ht hb) (by rw [List.length_map]; exact f.g.len) (Kin.map fun t' => ?_), fun x hx hf _ => ?_⟩, fun q => by cases q⟩
      ·unfold bo0; split
       ·exact ⟨rfl, rfl, rfl, rfl⟩
       ·split <;> exact ⟨rfl, rfl, rfl, rfl⟩
      ·obtain ⟨u, hu, e1, e2⟩ := f.g.tk.bhost ht c (by rw [hb]; simp)
       refine List.mem_map.2 ⟨x, hx, ?_⟩
       have q1 := aY6 hx ht hh f.g.tk hf
       have q2 := aY6 hx hu (e2.trans hh) f.g.tk hf
       unfold bo0
       rw [if_neg q1, if_neg (by omega)]
   ·split
    ·exact ⟨R, fun q => by cases q⟩
    ·split
     ·exact ⟨R, fun q => by cases q⟩
     ·rename_i o1 o2
      refine ⟨Was.up f True ht (f' := cz1) (fun _ => ⟨rfl, rfl, rfl, rfl, rfl, rfl, rfl⟩) ?_ ?_ fun x hx hf => aY6 hx ht hh f.g.tk hf, fun q => by cases q⟩
      ·have := r.o0
       show t.Opens + 1 = 0 ↔ t.Opens = 0
       omega
      ·have := r.o0
       exact ⟨r.s1, r.s4, by show 0 ≤ t.Opens + 1; omega, by show t.Opens + 1 ≤ 9007199254740991; omega, r.dt, r.ow, r.d0⟩
theorem cl6 (f : Fit n) (ht : t ∈ n.Talks) (hh : t.Host = host) (all : Prop) : Was n host all (b09 n t) := by
 refine ⟨f.kin (f.g.tk.hangS ht) (Nat.le_trans (cl5 _ _) f.g.len) (Kin.hang _ _), fun x hx hf _ => ?_⟩
 show x ∈ hangS n.Talks t
 unfold hangS
 have q0 := aY6 hx ht hh f.g.tk hf
 split
 ·have hR : ∀ c ∈ t.Backlog, ∃ u ∈ n.Talks, u.Id = c ∧ u.Host = host := fun c hc => by
   obtain ⟨u, hu, a, b⟩ := f.g.tk.bhost ht c hc; exact ⟨u, hu, a, b.trans hh⟩
  obtain ⟨q1, q2⟩ := bQ0 f.g.tk hx hR hf
  exact bW2 (bP9 hx q0) q1 q2
 ·have hR : ∀ c ∈ [t.Id], ∃ u ∈ n.Talks, u.Id = c ∧ u.Host = host := fun c hc => ⟨t, ht, (List.mem_singleton.1 hc).symm, hh⟩
  obtain ⟨q1, q2⟩ := bQ0 f.g.tk hx hR hf
  exact cu1 hx q1 q2
theorem cu2 (f : Fit n) (ht : t ∈ n.Talks) (hh : t.Host = host) (w : Str) (all : Prop) : Was n host all (b08 n t w).1 := by
 have R := Was.refl f host all
 unfold b08
 split
 ·exact R
 ·rename_i hs
  have hs : t.State = 1 := Classical.not_not.1 hs
  split
  ·exact R
  ·unfold b23
   split
   ·exact R
   ·split
    ·exact R
    ·rename_i x r e
     split
     ·exact R
     ·rename_i hx
      have hx : x.Host = t.Host := Classical.not_not.1 hx
      split
      ·exact R
      ·rename_i ha
       have hlim := bH6 (a := ba3 (af9 w).1) f.L.db.okT (f.L.ho t ht) x (by rw [e]; simp)
       have K : ∀ t', (if t'.Id = t.Id then anT x t' else t').Id = t'.Id ∧ (if t'.Id = t.Id then anT x t' else t').Host = t'.Host := by
        intro t'; split <;> exact ⟨rfl, rfl⟩
       refine ⟨⟨⟨f.g.db, f.g.n1, f.g.n9, by rw [aU6]; exact f.g.len, ?_, f.g.tk.ann ht hs hx (by simpa using ha)⟩, ⟨f.L.db, ?_, ?_⟩⟩, fun y hy hf _ => bP9 hy (aY6 hy ht hh f.g.tk hf)⟩
       ·intro y hy
        obtain ⟨z, hz, rfl⟩ := List.mem_map.1 hy
        rw [(K z).1]; exact f.g.idr z hz
       ·intro y hy
        obtain ⟨z, hz, rfl⟩ := List.mem_map.1 hy
        rw [(K z).2]; exact f.L.ho z hz
       ·intro y hy
        obtain ⟨z, hz, rfl⟩ := List.mem_map.1 hy
        split
        ·exact ⟨hlim, (f.L.ad z hz).2⟩
        ·exact f.L.ad z hz
theorem b14 (l : List aa2) : a23 n t l = (n, 40) ∨ ∃ a ∈ l, ∃ s ∈ n.Talks, b24 a s = true ∧ a23 n t l = (ck9 n t s a, 0) := by
 induction l with
 | nil => exact .inl rfl
 | cons a r ih =>
  unfold a23
  cases hf : n.Talks.find? (b24 a) with
  | none =>
   rcases ih with h | ⟨b, hb, q⟩
   ·exact .inl h
   ·exact .inr ⟨b, List.mem_cons_of_mem _ hb, q⟩
  | some s => exact .inr ⟨a, by simp, s, List.mem_of_find?_eq_some hf, List.find?_some hf, rfl⟩
theorem cu3 (f : Fit n) (ht : t ∈ n.Talks) (hh : t.Host = host) (w : Str) : Was n host False (bP7 n t w).1 := by
 have R := Was.refl f host False
 unfold bP7
 split
 ·exact R
 ·rename_i hs
  have hs : t.State = 1 := Classical.not_not.1 hs
  split
  ·exact R
  ·split
   ·exact R
   ·split
    ·exact R
    ·rename_i hfull
     rcases b14 (n := n) (t := t) (ap5 n.Db t.Host (af9 w).1).1 with e | ⟨a, ha, s, hsm, hp, e⟩ <;> rw [e]
     ·exact R
     ·have hlim := bH6 (a := (af9 w).1) f.L.db.okT (f.L.ho t ht) a ha
      unfold b24 at hp
      simp only [Bool.and_eq_true, decide_eq_true_eq] at hp
      obtain ⟨p1, p2, p3, p4, p5⟩ := hp
      have n1 := f.g.n1
      have n9 := f.g.n9
      obtain ⟨i1, i2⟩ := f.g.idr t ht
      have hil := bU7 (n := 32768 + t.Id) (by omega) (by omega)
      have hO : bP6 (aL4 t a) := ⟨hlim.1, by have := f.L.ho t ht; show t.Host.length ≤ 10000; omega, by show (Go.Lib.itoa (32768 + t.Id)).length ≤ 10000; omega⟩
      have K : ∀ t', (a22 t.Id s.Id n.Next a (aL4 t a) t').Id = t'.Id ∧ (a22 t.Id s.Id n.Next a (aL4 t a) t').Host = t'.Host := by
       intro t'; unfold a22; split
       ·exact ⟨rfl, rfl⟩
       ·split <;> exact ⟨rfl, rfl⟩
      have M : ∀ y ∈ (ck9 n t s a).Talks, (∃ z ∈ n.Talks, a22 t.Id s.Id n.Next a (aL4 t a) z = y) ∨ y = bq3 n.Next t.Id (aL4 t a) s := by
       intro y hy
       rcases List.mem_append.1 hy with h | h
       ·exact .inl (List.mem_map.1 h)
       ·exact .inr (List.mem_singleton.1 h)
      refine ⟨⟨⟨f.g.db, by show 1 ≤ n.Next + 1; omega, by show n.Next + 1 ≤ 1048576; omega, by show (List.map _ _ ++ [_]).length ≤ 64; simp; omega, ?_, f.g.tk.con (fun t ht => (f.g.idr t ht).2) ht hsm hs p2 p5 a (aL4 t a)⟩, ⟨f.L.db, ?_, ?_⟩⟩, fun y hy hf hal => ?_⟩
      ·intro y hy
       rcases M y hy with ⟨z, hz, rfl⟩ | rfl
       ·rw [(K z).1]
        have := f.g.idr z hz; exact ⟨this.1, by show z.Id < n.Next + 1; omega⟩
       ·exact ⟨by show 1 ≤ n.Next; omega, by show n.Next < n.Next + 1; omega⟩
      ·intro y hy
       rcases M y hy with ⟨z, hz, rfl⟩ | rfl
       ·rw [(K z).2]; exact f.L.ho z hz
       ·exact f.L.ho s hsm
      ·intro y hy
       rcases M y hy with ⟨z, hz, rfl⟩ | rfl
       ·unfold a22
        split
        ·exact ⟨hO, hlim⟩
        ·split
         ·exact f.L.ad z hz
         ·exact f.L.ad z hz
       ·exact ⟨(f.L.ad s hsm).1, hO⟩
      ·refine List.mem_append_left _ (List.mem_map.2 ⟨y, hy, ?_⟩)
       have q1 := aY6 hy ht hh f.g.tk hf
       have q2 : y.Id ≠ s.Id := by
        intro e
        have := af4 f.g.tk.inc y hy s hsm e; subst this
        rcases hal with h | h
        ·exact h
        ·exact h p2
       unfold a22
       rw [if_neg q1, if_neg q2]
theorem bA6 (f : Fit n) (user : Str) (ws : List Str) : Was n host False (bu4 n host user id ws).1 := by
 have R := Was.refl f host False
 unfold bu4
 split
 ·exact R
 ·rename_i t e
  obtain ⟨ht, _⟩ := ba1 e
  split
  ·exact R
  ·rename_i hh
   have hh : t.Host = host := Classical.not_not.1 hh
   split
   ·exact R
   ·unfold b10
    split
    ·split
     ·split
      ·exact cl6 f ht hh _
      ·exact R
     ·exact R
    ·split
     ·exact cu2 f ht hh _ _
     ·split
      ·exact cu3 f ht hh _
      ·exact R
    ·exact R
theorem cc3 (f : Fit n) (ht : t ∈ n.Talks) (hh : t.Host = host) (off cnt : Int) : Was n host True (bA3 n k t off cnt).1 ∧ ((bA3 n k t off cnt).2.2.1 = true → bA3 n k t off cnt = (n, [], true, 0)) := by
 have R := Was.refl f host True
 have r := f.g.tk.rng t ht
 unfold bA3
 split
 ·exact ⟨R, fun q => by cases q⟩
 ·split
  ·exact ⟨R, fun q => by cases q⟩
  ·split
   ·exact ⟨R, fun q => by cases q⟩
   ·split
    ·exact ⟨R, fun q => by cases q⟩
    ·split
     ·exact ⟨R, fun q => by rw [show decide (t.State = 3) = true from q]⟩
     ·refine ⟨Was.up f True ht (f' := b11 _) (fun _ => ⟨rfl, rfl, rfl, rfl, rfl, rfl, rfl⟩) Iff.rfl ?_ fun x hx hf => aY6 hx ht hh f.g.tk hf, fun q => by cases q⟩
      refine ⟨r.s1, r.s4, r.o0, r.o9, ?_, r.ow, ?_⟩
      ·have := r.dt
       show (t.Data.drop _).length ≤ 8192
       rw [List.length_drop]; omega
      ·intro q
       show t.Data.drop _ = []
       rw [r.d0 q]; simp
theorem cc4 (f : Fit n) (ht : t ∈ n.Talks) (hh : t.Host = host) {data : Str} : Was n host False (bI6 n t data).1 ∧ ((bI6 n t data).2.2.1 = true → bI6 n t data = (n, 0, true, 0)) := by
 have R := Was.refl f host False
 unfold bI6
 split
 ·exact ⟨R, fun q => by cases q⟩
 ·rename_i s2
  split
  ·exact ⟨R, fun q => by cases q⟩
  ·rename_i s4
   split
   ·exact ⟨R, fun q => by cases q⟩
   ·have s4' := (f.g.tk.rng t ht).s4
    have s3 : t.State = 3 := by omega
    obtain ⟨p, hp, e1, e2, e3, e4⟩ := f.g.tk.pe t ht s3
    have hfd : fdT n.Talks t.Peer = some p := by rw [← e1]; exact a19 f.g.tk.inc hp
    rw [hfd]
    dsimp only
    split
    ·exact ⟨R, fun _ => rfl⟩
    ·rename_i hl
     have r := f.g.tk.rng p hp
     refine ⟨Was.up f False hp (f' := cz2 data) (fun _ => ⟨rfl, rfl, rfl, rfl, rfl, rfl, rfl⟩) Iff.rfl ?_ fun x hx hf e => ?_, fun q => by cases q⟩
     ·refine ⟨r.s1, r.s4, r.o0, r.o9, ?_, r.ow, ?_⟩
      ·show (p.Data ++ data).length ≤ 8192
       rw [List.length_append]; omega
      ·intro q
       have q : p.State ≤ 2 := q
       omega
     ·have := af4 f.g.tk.inc x hx p hp e; subst this
      exact hf.2 t ht e4.symm hh
theorem bv4 (f : Fit n) (ht : t ∈ n.Talks) (hh : t.Host = host) (user data : Str) (ws : List Str) : Was n host False (ba4 n user k t data ws).1 ∧ ((ba4 n user k t data ws).2.2.1 = true → ba4 n user k t data ws = (n, 0, true, 0)) := by
 have R := Was.refl f host False
 unfold ba4
 split
 ·exact ⟨R, fun q => by cases q⟩
 ·split
  ·exact ⟨R, fun q => by cases q⟩
  ·split
   ·split
    ·exact ⟨R, fun q => by cases q⟩
    ·rw [hh]; exact ⟨bA6 f _ _, fun q => by cases q⟩
   ·exact cc4 f ht hh
theorem b15 (f : Fit n) (ht : t ∈ n.Talks) (hh : t.Host = host) : Was n host True (bv1 n k t) := by
 have R := Was.refl f host True
 have r := f.g.tk.rng t ht
 have o0 := r.o0
 unfold bv1
 split
 ·exact R
 ·split
  ·exact R
  ·rename_i h0
   split
   ·refine ⟨f.kin (f.g.tk.cut ht h0) (Nat.le_trans (bP3 _ _) f.g.len) (Kin.cut _ _), fun x hx hf _ => ?_⟩
    have hR : ∀ c ∈ t.Backlog ++ [t.Id], ∃ u ∈ n.Talks, u.Id = c ∧ u.Host = host := fun c hc => by
     rcases List.mem_append.1 hc with h | h
     ·obtain ⟨u, hu, a, b⟩ := f.g.tk.bhost ht c h; exact ⟨u, hu, a, b.trans hh⟩
     ·exact ⟨t, ht, (List.mem_singleton.1 h).symm, hh⟩
    obtain ⟨q1, q2⟩ := bQ0 f.g.tk hx hR hf
    exact bW2 hx q1 q2
   ·rename_i h1
    refine Was.up f True ht (f' := a68) (fun _ => ⟨rfl, rfl, rfl, rfl, rfl, rfl, rfl⟩) ?_ ?_ fun x hx hf => aY6 hx ht hh f.g.tk hf
    ·show t.Opens - 1 = 0 ↔ t.Opens = 0
     omega
    ·have := r.o9
     exact ⟨r.s1, r.s4, by show 0 ≤ t.Opens - 1; omega, by show t.Opens - 1 ≤ 9007199254740991; omega, r.dt, r.ow, r.d0⟩
theorem wfI {n : Int} (h : (Lit.int .i64 n).wf = true) : -9223372036854775808 ≤ n ∧ n ≤ 9223372036854775807 := by
 have h2 : IntKind.i64.min ≤ n ∧ n ≤ IntKind.i64.max := by simpa [Lit.wf] using h
 exact h2
theorem bA7 {t : aa0} (h : t.Backlog.length ≤ 100000) : as3 t t = some true := by
 unfold as3
 simp only [decide_true, Bool.not_true, Bool.false_eq_true, if_false]
 refine (by3 t.Backlog (fun _ => true) _ (fun i hi => ?_) ?_).trans (by simp)
 ·simp only [aw4, dlt hi, if_true, aa6 hi, Option.bind_some, decide_true, Bool.not_true, Bool.false_eq_true, if_false]
  rw [aa8 (by omega)]
 ·simp [aw4]
theorem Fit.mod (f : Fit n) : Mod n := f.g.mod f.L.db
def smA (a : aa4) : Bool := !(decide ((200 : Int) < (List.length a.Name : Int)) || decide ((200 : Int) < (List.length a.Value : Int)))
def smE (x : aa3) : Bool := !decide ((20 : Int) < (List.length x.Attrs : Int)) && x.Attrs.all smA
def shB (a : aa2) : Bool := ((decide ((List.length a.Net : Int) ≤ 200)) && ((decide ((List.length a.Host : Int) ≤ 200)) && (decide ((List.length a.Service : Int) ≤ 200))))
def smT (t : aa0) : Bool := !(decide ((20 : Int) < (List.length t.Backlog : Int)) || (decide ((10000 : Int) < (List.length t.Data : Int)) || (decide ((200 : Int) < (List.length t.Host : Int)) || (decide ((200 : Int) < (List.length t.Owner : Int)) || (!shB t.Local || !shB t.Remote)))))
def cc5 (n : aa1) : Bool := !((decide (30 < (List.length n.Talks : Int))) || (decide (30 < (List.length n.Db : Int)))) && (n.Db.all smE && n.Talks.all smT)
theorem cl7 (n : aa1) : aq5 n = some (cc5 n) := by
 unfold aq5 cc5
 cases hb : ((decide (30 < (List.length n.Talks : Int))) || (decide (30 < (List.length n.Db : Int)))) with
 | true => rfl
 | false =>
  simp only [Bool.or_eq_false_iff, decide_eq_false_iff_not] at hb
  obtain ⟨b1, b2⟩ := hb
  simp only [Bool.false_eq_true, if_false, Bool.not_false, Bool.true_and]
  have hT : ab0 (fun s => at8 n s) 0 = some (n.Talks.all smT) := by
   refine by3 n.Talks smT _ (fun i hi => ?_) ?_
   ·simp only [at8, dlt hi, if_true, aa6 hi, Option.bind_some, aJ1, smT]
    rw [aa8 (by omega)]
    rw [show (decide ((List.length n.Talks[i].Local.Net : Int) ≤ 200) && (decide ((List.length n.Talks[i].Local.Host : Int) ≤ 200) && decide ((List.length n.Talks[i].Local.Service : Int) ≤ 200))) = shB n.Talks[i].Local from rfl]
    rw [show (decide ((List.length n.Talks[i].Remote.Net : Int) ≤ 200) && (decide ((List.length n.Talks[i].Remote.Host : Int) ≤ 200) && decide ((List.length n.Talks[i].Remote.Service : Int) ≤ 200))) = shB n.Talks[i].Remote from rfl]
    by_cases q1 : (20 : Int) < (List.length n.Talks[i].Backlog : Int)
    ·simp [q1]
    by_cases q2 : (10000 : Int) < (List.length n.Talks[i].Data : Int)
    ·simp [q2]
    by_cases q3 : (200 : Int) < (List.length n.Talks[i].Host : Int)
    ·simp [q3]
    by_cases q4 : (200 : Int) < (List.length n.Talks[i].Owner : Int)
    ·simp [q4]
    simp only [q1, q2, q3, q4, decide_false, Bool.false_eq_true, if_false, Bool.false_or]
    cases shB n.Talks[i].Local <;> cases shB n.Talks[i].Remote <;> rfl
   ·simp [at8]
  refine (bD9 n.Db smE false (n.Talks.all smT) _ (fun i hi => ?_) ?_).trans ?_
  ·simp only [aA0, dlt hi, if_true, aa6 hi, Option.bind_some, smE]
   by_cases ha : (20 : Int) < (List.length n.Db[i].Attrs : Int)
   ·simp [ha]
   ·have hin : ab0 (fun s => at7 n (i : Int) n.Db[i] s) 0 = some (if n.Db[i].Attrs.all smA = true then (Step.cont ((i : Int) + 1) : Step Int Bool) else Step.done false) := by
     refine bD9 n.Db[i].Attrs smA (Step.done false : Step Int Bool) (Step.cont ((i : Int) + 1)) _ (fun k hk => ?_) ?_
     ·simp only [at7, dlt hk, if_true, aa6 hi, aa6 hk, Option.bind_some, smA]
      rw [aa8 (by omega)]
      by_cases q1 : (200 : Int) < (List.length n.Db[i].Attrs[k].Name : Int)
      ·simp [q1]
      by_cases q2 : (200 : Int) < (List.length n.Db[i].Attrs[k].Value : Int)
      ·simp [q1, q2]
      ·simp [q1, q2]
     ·simp only [at7, dge, Bool.false_eq_true, if_false]
      rw [aa8 (by omega)]
    simp only [ha, decide_false, Bool.false_eq_true, if_false, hin, Bool.not_false, Bool.true_and]
  ·simp [aA0, hT]
  ·cases n.Db.all smE <;> rfl
theorem co7 {a : aa2} (h : shB a = true) : bP6 a := by
 unfold shB at h
 simp only [Bool.and_eq_true, decide_eq_true_eq] at h
 exact ⟨by omega, by omega, by omega⟩
theorem cc6 (h : cc5 n = true) : Lim n ∧ Mod n := by
 unfold cc5 at h
 simp only [Bool.and_eq_true, Bool.not_eq_true', Bool.or_eq_false_iff, decide_eq_false_iff_not, List.all_eq_true] at h
 obtain ⟨⟨b1, b2⟩, h1, h2⟩ := h
 have hdb : okX n.Db := by
  refine ⟨by omega, fun x hx => ?_⟩
  have := h1 x hx
  unfold smE at this
  simp only [Bool.and_eq_true, Bool.not_eq_true', decide_eq_false_iff_not, List.all_eq_true] at this
  refine ⟨by omega, fun a ha => ?_⟩
  have := this.2 a ha
  unfold smA at this
  simp only [Bool.not_eq_true', Bool.or_eq_false_iff, decide_eq_false_iff_not] at this
  exact ⟨by omega, by omega⟩
 have ht : ∀ t ∈ n.Talks, t.Backlog.length ≤ 20 ∧ t.Host.length ≤ 200 ∧ shB t.Local = true ∧ shB t.Remote = true := by
  intro t ht
  have := h2 t ht
  unfold smT at this
  simp only [Bool.not_eq_true', Bool.or_eq_false_iff, decide_eq_false_iff_not, Bool.not_eq_false'] at this
  exact ⟨by omega, by omega, this.2.2.2.2.1, this.2.2.2.2.2⟩
 exact ⟨⟨hdb, fun t h => by have := (ht t h).2.1; omega, fun t h => ⟨co7 (ht t h).2.2.1, co7 (ht t h).2.2.2⟩⟩, ⟨hdb, by omega, fun t h => by have := (ht t h).1; omega⟩⟩
theorem cl8 (o : an3) : ∃ b, aC7 o = some b ∧ (b = true → o.Host.length ≤ 200 ∧ o.User.length ≤ 200 ∧ o.Text.length ≤ 10000) := by
 refine ⟨_, rfl, fun h => ?_⟩
 simp only [Bool.and_eq_true, decide_eq_true_eq] at h
 omega
def cu4 : aa0 := aa0.mk 0 [] [] 0 (aa2.mk [] [] []) (aa2.mk [] [] []) 0 [] ([] : List Int) 0
def cc7 (n : aa1) (id : Int) : aa0 × Bool := match fdT n.Talks id with
 | some t => (t, true)
 | none => (cu4, false)
theorem bI9 (hl : n.Talks.length ≤ aW0) (id : Int) : az3 n id = some (cc7 n id) := by
 unfold az3
 refine (cb2 n.Talks (isT id) (fun t => (t, true)) (cu4, false) _ ?_ ?_).trans ?_
 ·intro j hj
  simp only [aH5, dlt hj, if_true, aa6 hj, Option.bind_some, isT]
  rw [ag5 (by omega) (by unfold aW0 at hl; omega)]
  by_cases q : n.Talks[j].Id = id
  ·simp [q]
  ·simp [q]
 ·simp [aH5, cu4]
 ·unfold cc7 fdT
  cases n.Talks.find? (isT id) <;> rfl
theorem aQ6 {s : Str} (h : s.length ≤ 10000) : ∀ w ∈ aD4 s, w.length ≤ 50000 := by
 intro w hw
 have := bA1 s [] w hw
 simp only [List.length_nil] at this
 omega
theorem cc8 (f : Fit n) (hh : host.length ≤ 200) (user : Str) {m : Int} (w : -9223372036854775808 ≤ id ∧ id ≤ 9223372036854775807) (wm : -9223372036854775808 ≤ m ∧ m ≤ 9223372036854775807) :
  ∃ r : RO, ag0 n host user id m = some r ∧ ap3 n host user id m = some r ∧ Was n host True r.1 ∧ (r.2.2.1 = true → r = (n, 0, true, 0)) := by
 rcases a16 f.g host w with ⟨rfl, h1, h2⟩ | ⟨rfl, h1, h2⟩ | ⟨t, i, k, F, h1, h2⟩ | ⟨⟨fl, h1⟩, h2⟩
 ·exact ⟨_, (bH1 f.g f.mod wm).1, (bH1 f.g f.mod wm).2, cc2 f m⟩
 ·exact ⟨_, (a17 f.g f.mod wm).1, (a17 f.g f.mod wm).2, bo8 f (by omega) m⟩
 ·exact ⟨_, bo3 f.g f.mod F wm, bH2 f.g F wm, bI8 f (List.mem_of_getElem? F.at_) F.host user m⟩
 ·exact ⟨_, (bH3 f.mod h1 h2).1, (bH3 f.mod h1 h2).2, Was.refl f _ _, fun q => by cases q⟩
theorem cc9 (f : Fit n) (off cnt : Int) (w : -9223372036854775808 ≤ id ∧ id ≤ 9223372036854775807) :
  ∃ r : RR, ah2 n host id off cnt = some r ∧ as5 n host id off cnt = some r ∧ Was n host True r.1 ∧ (r.2.2.1 = true → r = (n, [], true, 0)) := by
 rcases a16 f.g host w with ⟨rfl, h1, h2⟩ | ⟨rfl, h1, h2⟩ | ⟨t, i, k, F, h1, h2⟩ | ⟨⟨fl, h1⟩, h2⟩
 ·exact ⟨_, (bI4 f.mod off cnt).1, (bI4 f.mod off cnt).2, Was.refl f _ _, fun q => by cases q⟩
 ·refine ⟨_, (bu7 f.mod off cnt).1, (bu7 f.mod off cnt).2, ?_⟩
  unfold cb9
  split
  ·exact ⟨Was.refl f _ _, fun q => by cases q⟩
  ·exact ⟨Was.refl f _ _, fun q => by cases q⟩
 ·exact ⟨_, bI2 f.g f.L F off cnt, bI3 f.g f.L F off cnt, cc3 f (List.mem_of_getElem? F.at_) F.host off cnt⟩
 ·exact ⟨_, (bI5 f.mod h1 h2).1, (bI5 f.mod h1 h2).2, Was.refl f _ _, fun q => by cases q⟩
theorem b16 (f : Fit n) (user : Str) {data : Str} (hd : data.length ≤ 10000) (w : -9223372036854775808 ≤ id ∧ id ≤ 9223372036854775807) :
  ∃ r : RO, ag7 n host user id data = some r ∧ ar7 n host user id data = some r ∧ Was n host False r.1 ∧ (r.2.2.1 = true → r = (n, 0, true, 0)) := by
 rcases a16 f.g host w with ⟨rfl, h1, h2⟩ | ⟨rfl, h1, h2⟩ | ⟨t, i, k, F, h1, h2⟩ | ⟨⟨fl, h1⟩, h2⟩
 ·exact ⟨_, (bu9 f.mod user data).1, (bu9 f.mod user data).2, Was.refl f _ _, fun q => by cases q⟩
 ·exact ⟨_, (bo6 f.mod user data).1, (bo6 f.mod user data).2, Was.refl f _ _, fun q => by cases q⟩
 ·exact ⟨_, bu8 f.g f.L F user (by omega) (fun _ => aT7 (by omega)) (aQ6 hd), bA4 f.g f.L F user (by omega) (fun _ => aY3 (by omega)) (aQ6 hd), bv4 f (List.mem_of_getElem? F.at_) F.host user data _⟩
 ·exact ⟨_, (bv0 f.mod h1 h2).1, (bv0 f.mod h1 h2).2, Was.refl f _ _, fun q => by cases q⟩
theorem b17 (f : Fit n) (m : Int) (w : -9223372036854775808 ≤ id ∧ id ≤ 9223372036854775807) :
  ∃ r : aa1, aj7 n host id m = some r ∧ an0 n host id m = some r ∧ Was n host True r := by
 rcases a16 f.g host w with ⟨rfl, h1, h2⟩ | ⟨rfl, h1, h2⟩ | ⟨t, i, k, F, h1, h2⟩ | ⟨⟨fl, h1⟩, h2⟩
 ·exact ⟨_, (bv2 f.mod m).1, (bv2 f.mod m).2, Was.refl f _ _⟩
 ·exact ⟨_, (bo7 f.mod m).1, (bo7 f.mod m).2, Was.refl f _ _⟩
 ·exact ⟨_, b13 f.g f.L F m, bA5 f.g F m, b15 f (List.mem_of_getElem? F.at_) F.host⟩
 ·exact ⟨_, (bv3 f.mod h1 h2).1, (bv3 f.mod h1 h2).2, Was.refl f _ _⟩
theorem Was.weak {m : aa1} (h : Was n host True m) (all : Prop) : Was n host all m := ⟨h.fit, fun t ht hf _ => h.far t ht hf (.inl trivial)⟩
theorem Was.weak0 {m : aa1} {all : Prop} (h : Was n host False m) (ha : ¬ all) : Was n host all m := ⟨h.fit, fun t ht hf q => h.far t ht hf (.inr (q.resolve_left ha))⟩
abbrev RC : Type := aa1 × ae6
theorem cd0 (f : Fit n) (o : an3) (w : aL1 o) (hh : o.Host.length ≤ 200) (ht : o.Text.length ≤ 10000) :
  ∃ r : RC, aK2 n o = some r ∧ aP7 n o = some r ∧ Was n o.Host (¬ (o.Kind = 1 ∨ o.Kind = 4)) r.1 ∧ (r.2.Blocked = true → r = (n, ae6.mk 0 [] true 0)) := by
 have wi := wfI w.2.2.2.1
 have wm := wfI w.2.2.2.2.1
 unfold aK2 aP7 aq0 am6
 by_cases k1 : o.Kind = 1
 ·have hc := cb8 (host := o.Host) (id := o.Id) f.g f.L o.User (aT7 (show o.Text.length ≤ 100000 by omega)) (aQ6 ht)
  have hr := bH8 (host := o.Host) (id := o.Id) f.g f.L o.User (aY3 (show o.Text.length ≤ 100000 by omega)) (aQ6 ht)
  refine ⟨((bu4 n o.Host o.User o.Id (aD4 o.Text)).1, ae6.mk 0 [] false (bu4 n o.Host o.User o.Id (aD4 o.Text)).2), ?_, ?_, (bA6 f _ _).weak0 (by simp [k1]), fun q => by cases q⟩
  ·simp only [k1, decide_true, if_true, hc, Option.bind_some]
  ·simp only [k1, decide_true, if_true, hr, Option.bind_some]
 by_cases k2 : o.Kind = 2
 ·obtain ⟨r, h1, h2, h3, h4⟩ := cc8 f hh o.User wi wm
  refine ⟨(r.1, ae6.mk r.2.1 [] r.2.2.1 r.2.2.2), ?_, ?_, h3.weak _, fun q => ?_⟩
  ·simp only [k2, show decide ((2 : Int) = 1) = false from rfl, Bool.false_eq_true, if_false, decide_true, if_true, h1, Option.bind_some]
  ·simp only [k2, show decide ((2 : Int) = 1) = false from rfl, Bool.false_eq_true, if_false, decide_true, if_true, h2, Option.bind_some]
  ·rw [h4 q]
 by_cases k3 : o.Kind = 3
 ·obtain ⟨r, h1, h2, h3, h4⟩ := cc9 (host := o.Host) f o.Offset o.Count wi
  refine ⟨(r.1, ae6.mk 0 r.2.1 r.2.2.1 r.2.2.2), ?_, ?_, h3.weak _, fun q => ?_⟩
  ·simp only [k3, show decide ((3 : Int) = 1) = false from rfl, show decide ((3 : Int) = 2) = false from rfl, Bool.false_eq_true, if_false, decide_true, if_true, h1, Option.bind_some]
  ·simp only [k3, show decide ((3 : Int) = 1) = false from rfl, show decide ((3 : Int) = 2) = false from rfl, Bool.false_eq_true, if_false, decide_true, if_true, h2, Option.bind_some]
  ·rw [h4 q]
 by_cases k4 : o.Kind = 4
 ·obtain ⟨r, h1, h2, h3, h4⟩ := b16 (host := o.Host) f o.User ht wi
  refine ⟨(r.1, ae6.mk r.2.1 [] r.2.2.1 r.2.2.2), ?_, ?_, h3.weak0 (by simp [k4]), fun q => ?_⟩
  ·simp only [k4, show decide ((4 : Int) = 1) = false from rfl, show decide ((4 : Int) = 2) = false from rfl, show decide ((4 : Int) = 3) = false from rfl, Bool.false_eq_true, if_false, decide_true, if_true, h1, Option.bind_some]
  ·simp only [k4, show decide ((4 : Int) = 1) = false from rfl, show decide ((4 : Int) = 2) = false from rfl, show decide ((4 : Int) = 3) = false from rfl, Bool.false_eq_true, if_false, decide_true, if_true, h2, Option.bind_some]
  ·rw [h4 q]
 by_cases k5 : o.Kind = 5
 ·obtain ⟨r, h1, h2, h3⟩ := b17 (host := o.Host) f o.Mode wi
  refine ⟨(r, ae6.mk 0 [] false 0), ?_, ?_, h3.weak _, fun q => by cases q⟩
  ·simp only [k5, show decide ((5 : Int) = 1) = false from rfl, show decide ((5 : Int) = 2) = false from rfl, show decide ((5 : Int) = 3) = false from rfl, show decide ((5 : Int) = 4) = false from rfl, Bool.false_eq_true, if_false, decide_true, if_true, h1, Option.bind_some]
  ·simp only [k5, show decide ((5 : Int) = 1) = false from rfl, show decide ((5 : Int) = 2) = false from rfl, show decide ((5 : Int) = 3) = false from rfl, show decide ((5 : Int) = 4) = false from rfl, Bool.false_eq_true, if_false, decide_true, if_true, h2, Option.bind_some]
 ·exact ⟨(n, ae6.mk 0 [] false 0), by simp [k1, k2, k3, k4, k5], by simp [k1, k2, k3, k4, k5], Was.refl f _ _, fun q => by cases q⟩
def hA : Str := [97]
def hB : Str := [98]
def uA : Str := [97, 110, 110]
def uB : Str := [98, 111, 98]
def dbA : List aa3 := [aa3.mk [aa4.mk [110, 101, 116] [116, 99, 112] false], aa3.mk [aa4.mk [104, 111, 115, 116] [97] false], aa3.mk [aa4.mk [104, 111, 115, 116] [98] false]]
def N0 : aa1 := aa1.mk dbA 1 []
def tcp : Str := [116, 99, 112]
def a80 : aa2 := ⟨tcp, hA, [56, 48]⟩
def a81 : aa2 := ⟨tcp, hA, [56, 49]⟩
def N1 : aa1 := aa1.mk dbA 2 [a67 1 hA uA]
def S1 : aa0 := anT a80 (a67 1 hA uA)
def N2 : aa1 := aa1.mk dbA 2 [S1]
def N3 : aa1 := aa1.mk dbA 3 [S1, a67 2 hB uB]
def N4 : aa1 := ck9 N3 (a67 2 hB uB) S1 a80
def oB : aa2 := aL4 (a67 2 hB uB) a80
def C3 : aa0 := bq3 3 2 oB S1
def T2 : aa0 := opT 3 a80 oB (a67 2 hB uB)
theorem cB9 : N4 = aa1.mk dbA 4 [{ S1 with Backlog := [3] }, T2, C3] := rfl
def N5 : aa1 := aa1.mk dbA 4 [S1, T2, { C3 with Opens := 1 }]
def bA8 : Str := [104, 101, 108, 108, 111]
def N6 : aa1 := aa1.mk dbA 4 [S1, T2, { C3 with Opens := 1, Data := bA8 }]
theorem cu5 : aC3 = some N0 := rfl
theorem fit0 : Fit N0 := by
 refine ⟨⟨by decide +kernel, by decide, by decide, by decide, fun t h => (nomatch h), ?_⟩, ⟨?_, fun t h => (nomatch h), fun t h => (nomatch h)⟩⟩
 ·exact { inc := .nil, rng := fun t h => (nomatch h), blen := fun t h => (nomatch h), bst := fun t h => (nomatch h), bnd := fun t h => (nomatch h), bc := fun t h => (nomatch h), pe := fun t h => (nomatch h), p0 := fun t h => (nomatch h), an := fun t h => (nomatch h), au := fun t h => (nomatch h), w1 := fun t h => (nomatch h), w2 := fun t h => (nomatch h) }
 ·refine ⟨by decide, fun x hx => ?_⟩
  have hx : x ∈ dbA := hx
  simp only [dbA, List.mem_cons, List.not_mem_nil, or_false] at hx
  rcases hx with rfl | rfl | rfl <;> refine ⟨by simp, fun a ha => ?_⟩ <;> (rw [List.mem_singleton.1 ha]; exact ⟨by simp, by simp⟩)
theorem w3 : (-9223372036854775808 : Int) ≤ 3 ∧ (3 : Int) ≤ 9223372036854775807 := by omega
theorem w2 : (-9223372036854775808 : Int) ≤ 2 ∧ (2 : Int) ≤ 9223372036854775807 := by omega
theorem eC2 : eC 2 = 0 := by decide +kernel
theorem p26 : bG9 2 false 6 = 0 := by decide +kernel
theorem cC0 : aU7 N0 hA uA 2 = (N1, 17, false, 0) := by
 unfold aU7
 rw [eC2]; rfl
theorem fit1 : Fit N1 := by
 have := (bo8 (host := hA) (user := uA) fit0 (by decide) 2).1.fit
 rw [cC0] at this; exact this
def cu6 : Str := [116, 99, 112, 33, 42, 33, 56, 48]
def cz3 : Str := [116, 99, 112, 33, 97, 33, 56, 49]
def cu7 : Str := [116, 99, 112, 33, 97, 33, 56, 48]
theorem cu8 : aD4 [97, 110, 110, 111, 117, 110, 99, 101, 32, 116, 99, 112, 33, 42, 33, 56, 48] = [aQ5, cu6] := by decide +kernel
theorem cu9 : aD4 [99, 111, 110, 110, 101, 99, 116, 32, 116, 99, 112, 33, 97, 33, 56, 49] = [aM5, cz3] := by decide +kernel
theorem cv0 : aD4 [99, 111, 110, 110, 101, 99, 116, 32, 116, 99, 112, 33, 97, 33, 56, 48] = [aM5, cu7] := by decide +kernel
theorem tr1 : ap5 dbA hA (ba3 (af9 cu6).1) = ([a80], 0) := by kernel_rfl
theorem tr2 : ap5 dbA hB (af9 cz3).1 = ([a81], 0) := by kernel_rfl
theorem tr3 : ap5 dbA hB (af9 cu7).1 = ([a80], 0) := by kernel_rfl
theorem pa1 : (af9 cu6).2 = 0 := by decide +kernel
theorem pa2 : (af9 cz3).2 = 0 := by decide +kernel
theorem pa3 : (af9 cu7).2 = 0 := by decide +kernel
theorem cC1 : bu4 N1 hA uA 1 [aQ5, cu6] = (N2, 0) := by
 show b08 N1 (a67 1 hA uA) cu6 = _
 unfold b08
 rw [if_neg (by decide), if_neg (by rw [pa1]; decide)]
 unfold b23
 rw [show ap5 N1.Db (a67 1 hA uA).Host (ba3 (af9 cu6).1) = ([a80], 0) from tr1]
 rfl
theorem fit2 : Fit N2 := by
 have := (bA6 (host := hA) (id := 1) fit1 uA [aQ5, cu6]).fit
 rw [cC1] at this; exact this
theorem cC2 : aU7 N2 hB uB 2 = (N3, 33, false, 0) := by
 unfold aU7
 rw [eC2]; rfl
theorem cC3 : Fit N3 := by
 have := (bo8 (host := hB) (user := uB) fit2 (by decide) 2).1.fit
 rw [cC2] at this; exact this
theorem file3 : TFile N3 hA 19 S1 0 3 := ⟨rfl, rfl, by omega, by omega, rfl, by decide, by decide⟩
theorem step4 : bg7 N3 19 3 S1 uA 2 = (N3, 0, true, 0) := by
 unfold bg7
 rw [show eT 3 S1 uA 2 = 0 from p26]; rfl
theorem step5 : bu4 N3 hB uB 2 [aM5, cz3] = (N3, 40) := by
 show bP7 N3 (a67 2 hB uB) cz3 = _
 unfold bP7
 rw [if_neg (by decide), if_neg (by rw [pa2]; decide), show ap5 N3.Db (a67 2 hB uB).Host (af9 cz3).1 = ([a81], 0) from tr2]
 rfl
theorem cC4 : bu4 N3 hB uB 2 [aM5, cu7] = (N4, 0) := by
 show bP7 N3 (a67 2 hB uB) cu7 = _
 unfold bP7
 rw [if_neg (by decide), if_neg (by rw [pa3]; decide), show ap5 N3.Db (a67 2 hB uB).Host (af9 cu7).1 = ([a80], 0) from tr3]
 rfl
theorem fit4 : Fit N4 := by
 have := (bA6 (host := hB) (id := 2) cC3 uB [aM5, cu7]).fit
 rw [cC4] at this; exact this
theorem cC5 : TFile N4 hA 19 { S1 with Backlog := [3] } 0 3 := ⟨by rw [cB9]; rfl, rfl, by omega, by omega, rfl, by decide, by decide⟩
theorem cC6 : bg7 N4 19 3 { S1 with Backlog := [3] } uA 2 = (N5, 49, false, 0) := by
 unfold bg7
 rw [show eT 3 { S1 with Backlog := [3] } uA 2 = 0 from p26, cB9]; rfl
theorem fit5 : Fit N5 := by
 have := (bI8 (host := hA) (id := 19) (k := 3) fit4 (List.mem_of_getElem? cC5.at_) rfl uA 2).1.fit
 rw [cC6] at this; exact this
theorem cC7 : TFile N5 hB 34 T2 1 2 := ⟨rfl, rfl, by omega, by omega, rfl, by decide, by decide⟩
theorem cC8 : ba4 N5 uB 2 T2 bA8 (aD4 bA8) = (N6, 5, false, 0) := rfl
theorem fit6 : Fit N6 := by
 have := (bv4 (host := hB) (k := 2) fit5 (List.mem_of_getElem? cC7.at_) rfl uB bA8 (aD4 bA8)).1.fit
 rw [cC8] at this; exact this
theorem file6 : TFile N6 hA 50 { C3 with Opens := 1, Data := bA8 } 2 2 := ⟨rfl, rfl, by omega, by omega, rfl, by decide, by decide⟩
theorem step9 : ∃ m, bA3 N6 2 { C3 with Opens := 1, Data := bA8 } 0 9 = (m, bA8, false, 0) := ⟨_, rfl⟩
theorem ctlP {n : aa1} {host user line : Str} {id : Int} {ws : List Str} (f : Fit n) (hl : line.length ≤ 10000) (hf : aD4 line = ws) : ag2 n host user id line = some (bu4 n host user id ws) :=
 cb8 f.g f.L user (by rw [aT7 (by omega), hf]) (by rw [← hf]; exact aQ6 hl)
theorem bv5 : ae1 = some true := by
 have e1 : ag0 N0 [97] [97, 110, 110] 3 2 = some (N1, 17, false, 0) := by rw [← cC0]; exact (a17 fit0.g fit0.mod w2).1
 have e2 : ag2 N1 [97] [97, 110, 110] 1 [97, 110, 110, 111, 117, 110, 99, 101, 32, 116, 99, 112, 33, 42, 33, 56, 48] = some (N2, 0) := by rw [← cC1]; exact ctlP fit1 (by decide) cu8
 have e3 : ag0 N2 [98] [98, 111, 98] 3 2 = some (N3, 33, false, 0) := by rw [← cC2]; exact (a17 fit2.g fit2.mod w2).1
 have e4 : ag0 N3 [97] [97, 110, 110] 19 2 = some (N3, 0, true, 0) := by rw [← step4]; exact bo3 cC3.g cC3.mod file3 w2
 have e5 : ag2 N3 [98] [98, 111, 98] 2 [99, 111, 110, 110, 101, 99, 116, 32, 116, 99, 112, 33, 97, 33, 56, 49] = some (N3, 40) := by rw [← step5]; exact ctlP cC3 (by decide) cu9
 have e6 : ag2 N3 [98] [98, 111, 98] 2 [99, 111, 110, 110, 101, 99, 116, 32, 116, 99, 112, 33, 97, 33, 56, 48] = some (N4, 0) := by rw [← cC4]; exact ctlP cC3 (by decide) cv0
 have e7 : ag0 N4 [97] [97, 110, 110] 19 2 = some (N5, 49, false, 0) := by rw [← cC6]; exact bo3 fit4.g fit4.mod cC5 w2
 have e8 : ag7 N5 [98] [98, 111, 98] 34 [104, 101, 108, 108, 111] = some (N6, 5, false, 0) := by rw [← cC8]; exact bu8 fit5.g fit5.L cC7 uB (by decide) (fun h => absurd h (by decide)) (aQ6 (by decide))
 obtain ⟨m, e9⟩ := step9
 have e9' : ah2 N6 [97] 50 0 9 = some (m, bA8, false, 0) := by rw [← e9]; exact bI2 fit6.g fit6.L file6 0 9
 have e10 : au4 N6 = some true := by rw [ck2 fit6.mod, bV1.2 fit6.g]
 unfold ae1
 simp only [cu5, e1, e2, e3, e4, e5, e6, e7, e8, e9', e10, Option.bind_some]
 rfl
theorem aY7 (n : aa1) (o : an3) (w0 : a14 n) (w1 : aL1 o) : az0 n o = some true := by
 unfold az0
 rw [cl7, bv5]
 cases hs : cc5 n with
 | false => rfl
 | true =>
  obtain ⟨L, hm⟩ := cc6 hs
  obtain ⟨b, hb, hl⟩ := cl8 o
  rw [bG2 hm, hb]
  cases b with
  | false => rfl
  | true =>
   cases hr : bn9 n with
   | false => rfl
   | true =>
    have g := bV1.1 hr
    obtain ⟨l1, l2, l3⟩ := hl rfl
    obtain ⟨r, r1, r2, r3, r4⟩ := cd0 ⟨g, L⟩ o w1 l1 l3
    have hlen := g.len
    simp only [Option.bind_some, Bool.not_true, Bool.false_eq_true, if_false, r1]
    refine (by3 n.Talks (fun _ => true) _ (fun i hi => ?_) ?_).trans (by simp)
    ·have ht : n.Talks[i] ∈ n.Talks := List.getElem_mem hi
     simp only [an5, dlt hi, if_true, aa6 hi, Option.bind_some, bI9 w0.2.2.1, aa8 (show i ≤ 1000000 by omega)]
     split
     ·rfl
     ·rename_i hc
      have hlm := r3.fit.g.len
      rw [bI9 (n := r.1) (by unfold aW0; omega), Option.bind_some]
      have hmem : n.Talks[i] ∈ r.1.Talks := by
       refine r3.far _ ht ⟨fun e => hc (by simp [e]), fun p hp he hh => hc ?_⟩ ?_
       ·have hp0 := (g.idr p hp).1
        have hne : ¬ n.Talks[i].Peer = 0 := by omega
        have hf : fdT n.Talks n.Talks[i].Peer = some p := by rw [← he]; exact a19 g.tk.inc hp
        simp [cc7, hf, hne, hh]
       ·by_cases h2 : n.Talks[i].State = 2
        ·left
         intro hk
         apply hc
         have hkb : (decide (o.Kind = 1) || decide (o.Kind = 4)) = true := by simpa using hk
         rw [h2, hkb]
         cases decide (n.Talks[i].Host = o.Host) <;> cases (decide (n.Talks[i].Peer = 0)) <;> simp
        ·exact .inr h2
      have hf : cc7 r.1 n.Talks[i].Id = (n.Talks[i], true) := by
       unfold cc7
       rw [a19 r3.fit.g.tk.inc hmem]
      have hbl := g.tk.blen _ ht
      simp only [hf, Bool.not_true, Bool.false_eq_true, if_false, bA7 (t := n.Talks[i]) (by omega), Option.bind_some]
    ·simp only [an5, dge, Bool.false_eq_true, if_false, ax2, bv5]; rfl
end Go.Proofs.YtofpfpkjdigabaaGreatDoor
