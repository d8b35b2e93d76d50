import Derived.Test.YtofpfpkjdigabaaGreatDoorNV
import Derived.Test.YtofpfpkjdigabaaGreatDoorVmR
namespace Go.Proofs.YtofpfpkjdigabaaGreatDoor
open Go.Vm
set_option autoImplicit false
set_option linter.unusedVariables false
set_option linter.unusedSimpArgs false
set_option maxRecDepth 100000
variable {n : aa1} {host : Str} {id k : Int} {t : aa0} {i : Nat}
noncomputable def pmS (m : Int) : Int × Int := (aE4 m).getD (0, 0)
noncomputable def bL3 (m : Int) (d : Bool) (g : Int) : Int := if (pmS m).2 ≠ 0 then (pmS m).2 else if d = true ∧ m ≠ 0 then 10 else if 64 ≤ m ∨ gr (pmS m).1 g = true then 11 else 0
theorem be7 {f : aa4} {user : Str} {m : Int} {d : Bool} {M : Int} {D : ab2} (w : -9223372036854775808 ≤ m ∧ m ≤ 9223372036854775807) (hd : ab6 f = some d) (hm : ak1 f = some M) (ho : aq1 n f = some D) :
  ao0 n f user m = some (bL3 m d (if user = D.Uid then Int.tmod (IntKind.wrap .i64 (Int.tdiv M 64)) 8 else Int.tmod M 8)) := by
 obtain ⟨a, b, e, h1, h2, h3⟩ := bR7 w
 have hp : pmS m = (a, e) := by unfold pmS; rw [h1]; rfl
 have h8 : ∀ g, al2 m (a, e) g = some (if 64 ≤ m ∨ gr a g = true then 11 else 0) := by
  intro g
  unfold al2 gr
  by_cases q : 64 ≤ m
  ·simp [q]
  ·simp only [q, decide_false, Bool.false_or, false_or]
   split <;> rfl
 unfold ao0 bL3
 rw [h1, hp]
 simp only [Option.bind_some, hd, hm, ho, h8]
 by_cases he : e = 0
 ·by_cases hdm : d = true ∧ m ≠ 0
  ·simp [he, hdm.1, hdm.2]
  ·have : (d && !decide (m = 0)) = false := by
    rw [Bool.eq_false_iff]; intro q; apply hdm; simpa using q
   simp only [he, decide_true, Bool.not_true, Bool.false_eq_true, if_false, this, ne_eq, not_true_eq_false, hdm]
   by_cases hu : user = D.Uid <;> simp [hu]
 ·simp [he]
theorem ch5 {user : Str} {m : Int} {d : Bool} {M own : Int} {b : Bool} (w : -9223372036854775808 ≤ m ∧ m ≤ 9223372036854775807) (hx : ac5 n host id = some true) (hd : ab5 id = some d) (hm : aC9 id = some M)
  (ho : aE7 n host (IntKind.wrap .i64 (Int.tdiv id 16)) = some own) (hb : (if (decide (16 ≤ id)) then (ab0 n.Talks own).bind fun x19 => some (decide (x19.Owner = user)) else some false) = some b)
  (hg : ∀ b : Bool, (if b then Int.tmod (IntKind.wrap .i64 (Int.tdiv M 64)) 8 else Int.tmod M 8) ∈ ([5, 6, 0, 4] : List Int)) :
  aK6 n host user id m = some (bL3 m d (if b then Int.tmod (IntKind.wrap .i64 (Int.tdiv M 64)) 8 else Int.tmod M 8)) := by
 obtain ⟨a, b', e, h1, h2, h3⟩ := bR7 w
 have hp : pmS m = (a, e) := by unfold pmS; rw [h1]; rfl
 have h6 : ∀ g, e = 0 → g ∈ ([5, 6, 0, 4] : List Int) → ax8 id m (b', e) g = some (if d = true ∧ m ≠ 0 then 10 else if 64 ≤ m ∨ gr a g = true then 11 else 0) := by
  intro g he hg
  have := h3 he g hg
  unfold ax8
  rw [hd, Option.bind_some, this]
  by_cases hdm : d = true ∧ m ≠ 0
  ·simp [hdm.1, hdm.2]
  ·have q0 : (d && !decide (m = 0)) = false := by
    rw [Bool.eq_false_iff]; intro q; apply hdm; simpa using q
   rw [q0, if_neg (by simp), if_neg hdm]
   show (if (decide (64 ≤ m) || gr2 b' g) = true then some 11 else some 0) = _
   by_cases q : 64 ≤ m
   ·simp [q]
   ·cases gr2 b' g <;> simp [q]
 unfold aK6 bL3
 rw [hx, h2, hp]
 simp only [Option.bind_some, Bool.not_true, Bool.false_eq_true, if_false, hm, ho, hb]
 by_cases he : e = 0
 ·have q1 := h6 _ he (hg true)
  have q2 := h6 _ he (hg false)
  simp only [if_true, Bool.false_eq_true, if_false] at q1 q2
  cases b
  ·simp only [he, decide_true, Bool.not_true, Bool.false_eq_true, if_false, ne_eq, not_true_eq_false]; rw [he] at q2; exact q2
  ·simp only [he, decide_true, Bool.not_true, Bool.false_eq_true, if_false, ne_eq, not_true_eq_false, if_true]; rw [he] at q1; exact q1
 ·simp [he]
def grS (k : Int) (o : Bool) : Int := if k = 0 then 5 else if k ≤ 3 then (if o then 6 else 0) else 4
theorem ch6 (k : Int) (o : Bool) : (if o = true then Int.tmod (IntKind.wrap .i64 (Int.tdiv (bD7 k) 64)) 8 else Int.tmod (bD7 k) 8) = grS k o := by
 unfold bD7 grS
 by_cases h0 : k = 0
 ·rw [if_pos h0, if_pos h0]; cases o <;> decide +kernel
 ·rw [if_neg h0, if_neg h0]
  by_cases h3 : k ≤ 3
  ·rw [if_pos h3, if_pos h3]; cases o <;> decide +kernel
  ·rw [if_neg h3, if_neg h3]; cases o <;> decide +kernel
noncomputable def eT (k : Int) (t : aa0) (user : Str) (m : Int) : Int := bL3 m (decide (k = 0)) (grS k (decide (t.Owner = user)))
theorem TFile.permitted (F : TFile n host id t i k) {user : Str} {m : Int} (w : -9223372036854775808 ≤ m ∧ m ≤ 9223372036854775807) : ao0 n (aa4.mk id (i : Int) k) user m = some (eT k t user m) := by
 rw [be7 w F.isDir F.mode F.dirOf]
 unfold eT
 rw [← ch6]
 congr 2
 show (if user = t.Owner then _ else _) = _
 by_cases h : t.Owner = user
 ·rw [if_pos h.symm, if_pos (by simp [h])]
 ·rw [if_neg (fun q => h q.symm), if_neg (by simp [h])]
theorem TFile.own (g : Good n) (F : TFile n host id t i k) : aE7 n host t.Id = some (i : Int) := by
 rw [bR6 g.hl, F.fd g]
 simp only [F.host, if_true, F.ix g]
noncomputable def eC (m : Int) : Int := bL3 m false 6
theorem bm9 {user : Str} {m : Int} (w : -9223372036854775808 ≤ m ∧ m ≤ 9223372036854775807) : ao0 n (aa4.mk 3 (-1) 0) user m = some (eC m) := by
 rw [be7 (d := false) (M := 438) w rfl rfl (bm5 0)]
 unfold eC
 congr 2
 split <;> decide +kernel
theorem bL4 (g : Good n) {user : Str} {m : Int} (w : -9223372036854775808 ≤ m ∧ m ≤ 9223372036854775807) : aK6 n host user 3 m = some (eC m) := by
 rw [ch5 (d := false) (M := 438) (b := false) w rfl rfl rfl (bR6 g.hl host _) rfl (fun b => by cases b <;> decide +kernel)]
 unfold eC
 congr 2
abbrev RO : Type := aa1 × Int × Bool × Int
noncomputable def aU0 (n : aa1) (host user : Str) (m : Int) : RO := if eC m ≠ 0 then (n, 0, false, eC m) else if 32 < user.length then (n, 0, false, 25) else if 64 ≤ n.Talks.length ∨ 1048575 < n.Next then (n, 0, false, 22) else
 (aa1.mk n.Db (n.Next + 1) (n.Talks ++ [a56 n.Next host user]), 16 * n.Next + 1, false, 0)
def incT (t : aa0) : aa0 := { t with Opens := t.Opens + 1 }
noncomputable def bp0 (n : aa1) (id k : Int) (t : aa0) (user : Str) (m : Int) : RO :=
 if eT k t user m ≠ 0 then (n, 0, false, eT k t user m) else if k = 0 then (n, id, false, 0) else if k = 3 then (if t.State ≠ 2 then (n, 0, false, 43) else match t.Backlog with
  | [] => (n, 0, true, 0)
  | c :: r => (aa1.mk n.Db n.Next (n.Talks.map (bn6 t.Id c r)), 16 * c + 1, false, 0))
 else if t.Opens = 0 then (n, 0, false, 43) else if 9007199254740991 ≤ t.Opens then (n, 0, false, 22) else (aa1.mk n.Db n.Next (upT n.Talks t.Id incT), id, false, 0)
theorem bs9 (g : Good n) (hm : Mod n) {user : Str} {m : Int} (w : -9223372036854775808 ≤ m ∧ m ≤ 9223372036854775807) : ah2 n host user 3 m = some (aU0 n host user m) ∧ a04 n host user 3 m = some (aU0 n host user m) := by
 have hl := g.len
 have n1 := g.n1
 have n9 := g.n9
 have c64 : decide ((64 : Int) ≤ (n.Talks.length : Int)) = decide (64 ≤ n.Talks.length) := by simp; omega
 have c32 : decide ((32 : Int) < (user.length : Int)) = decide (32 < user.length) := by simp; omega
 have e1 : IntKind.wrap .i64 (n.Next + 1) = n.Next + 1 := ag0 (by omega) (by omega)
 have e2 : IntKind.wrap .i64 (IntKind.wrap .i64 (16 * n.Next) + 1) = 16 * n.Next + 1 := by rw [ag0 (n := 16 * n.Next) (by omega) (by omega), ag0 (by omega) (by omega)]
 have a1 : as5 200 n.Talks [a56 n.Next host user] = some (n.Talks ++ [a56 n.Next host user]) := ab3 (by simp; omega) (by simp; omega)
 have a0 : as5 200 ([] : List aa0) n.Talks = some n.Talks := by rw [ab3 (by simp; omega) (by simp; omega)]; rfl
 constructor
 ·unfold ah2 aU0
  rw [aK9 hm, show ad5 n host 3 = some (aa4.mk 3 (-1) 0, true) from rfl]
  simp only [Option.bind_some, Bool.not_true, Bool.false_eq_true, if_false, bm9 w, show ab6 (aa4.mk 3 (-1) 0) = some false from rfl, decide_true, if_true, c64, c32]
  rw [show (aa0.mk n.Next host user 1 (aa2.mk [] [] []) (aa2.mk [] [] []) 0 [] ([] : List Int) 1) = a56 n.Next host user from rfl, a1, e1, e2]
  by_cases h : eC m = 0
  ·by_cases h32 : 32 < user.length
   ·simp [h, h32]
   ·by_cases h64 : 64 ≤ n.Talks.length
    ·simp [h, h32, h64]
    ·by_cases hn : 1048575 < n.Next <;> simp [h, h32, h64, hn]
  ·simp [h]
 ·unfold a04 aU0 aO9
  rw [bL4 g w]
  simp only [Option.bind_some, show ab5 3 = some false from rfl, decide_true, if_true, c64, c32, a0]
  rw [show (aa0.mk n.Next host user 1 (aa2.mk [] [] []) (aa2.mk [] [] []) 0 [] ([] : List Int) 1) = a56 n.Next host user from rfl, a1, e1, e2]
  by_cases h : eC m = 0
  ·by_cases h32 : 32 < user.length
   ·simp [h, h32]
   ·by_cases h64 : 64 ≤ n.Talks.length
    ·simp [h, h32, h64]
    ·by_cases hn : 1048575 < n.Next <;> simp [h, h32, h64, hn]
  ·simp [h]
theorem cz3 {l : List aa0} {a c : Int} {r : List Int} (hac : a ≠ c) : upT (upT l a fun t => { t with Backlog := r }) c (fun t => { t with Opens := 1 }) = l.map (bn6 a c r) := by
 unfold upT
 rw [List.map_map]
 apply List.map_congr_left
 intro x hx
 show (if (if x.Id = a then ({ x with Backlog := r } : aa0) else x).Id = c then ({ (if x.Id = a then ({ x with Backlog := r } : aa0) else x) with Opens := 1 } : aa0) else (if x.Id = a then ({ x with Backlog := r } : aa0) else x)) = bn6 a c r x
 unfold bn6
 by_cases h1 : x.Id = a
 ·rw [if_pos h1, if_pos h1, if_neg (by show ¬ x.Id = c; omega)]
 ·rw [if_neg h1, if_neg h1]
theorem ch7 {l : List aa0} (hi : l.Pairwise fun a b => a.Id < b.Id) {a : Int} {f : aa0 → aa0} (hf : ∀ t, (f t).Id = t.Id) {u : aa0} (hu : u ∈ l) (hne : u.Id ≠ a) :
  ∃ j : Nat, j < (upT l a f).length ∧ ixT (upT l a f) u.Id = (j : Int) ∧ (upT l a f)[j]? = some u := by
 have hm : u ∈ upT l a f := by
  unfold upT
  refine List.mem_map.2 ⟨u, hu, by rw [if_neg hne]⟩
 obtain ⟨j, j1, j2, j3, j4⟩ := ar2 (bx3 (bs7 hf hi) hm)
 exact ⟨j, j1, j2, j3⟩
theorem cut1 {c : Int} {r : List Int} : cut (c :: r) 1 ((c :: r).length : Int) = some r := by
 have := a77 (l := c :: r) (a := 1) (by simp)
 simpa using this
theorem GoodT.head {l : List aa0} (G : GoodT l) (ht : t ∈ l) {c : Int} {r : List Int} (hb : t.Backlog = c :: r) : ∃ u ∈ l, u.Id = c ∧ t.Id ≠ c := by
 obtain ⟨u, hu, e, _⟩ := G.bc t ht c (by rw [hb]; simp)
 refine ⟨u, hu, e, fun q => ?_⟩
 have := G.self ht
 rw [hb, q] at this
 simp at this
theorem bE6 (g : Good n) (hmod : Mod n) (F : TFile n host id t i k) {user : Str} {m : Int} (w : -9223372036854775808 ≤ m ∧ m ≤ 9223372036854775807) : ah2 n host user id m = some (bp0 n id k t user m) := by
 have h := F.big
 have h3 : ¬ id = 3 := by omega
 have ht := List.mem_of_getElem? F.at_
 have r := g.tk.rng t ht
 have hbl := g.tk.blen t ht
 have ids := g.tk.inc
 unfold ah2 bp0
 rw [aK9 hmod, F.look g]
 simp only [Option.bind_some, Bool.not_true, Bool.false_eq_true, if_false, F.permitted w, F.isDir, h3, decide_false, ah0 F.at_, Int.toNat_natCast]
 generalize eT k t user m = e
 by_cases he : e = 0
 ·by_cases h0 : k = 0
  ·simp [he, h0]
  ·by_cases hk3 : k = 3
   ·by_cases h2 : t.State = 2
    ·cases hb : t.Backlog with
     | nil => simp [he, hk3, h2]
     | cons c rr =>
      obtain ⟨u, hu, eu, hne⟩ := g.tk.head ht hb
      have hl0 : ¬ (((c :: rr).length : Int) = 0) := by simp; omega
      have hrl : rr.length ≤ 8 := by rw [hb] at hbl; simp at hbl; omega
      have hset : List.set n.Talks i (aa0.mk t.Id t.Host t.Owner t.State t.Local t.Remote t.Peer t.Data rr t.Opens) = upT n.Talks t.Id (fun t => { t with Backlog := rr }) := aL0 (f := fun t => { t with Backlog := rr }) ids F.at_
      obtain ⟨j, j1, j2, j3⟩ := ch7 (f := fun t => ({ t with Backlog := rr } : aa0)) ids (fun _ => rfl) hu (by rw [eu]; exact fun q => hne q.symm)
      rw [h2] at hset
      have hcl : ae4 rr = some rr := by
       unfold ae4
       rw [ab3 (by simp; omega) (by simp; omega)]; rfl
      have hset2 : List.set (upT n.Talks t.Id (fun t => { t with Backlog := rr })) j (aa0.mk u.Id u.Host u.Owner u.State u.Local u.Remote u.Peer u.Data u.Backlog 1) = n.Talks.map (bn6 t.Id c rr) := by
       have := aL0 (f := fun t => { t with Opens := 1 }) (bs7 (f := fun t => ({ t with Backlog := rr } : aa0)) (fun _ => rfl) ids) j3
       rw [← cz3 hne, ← eu]; exact this
      obtain ⟨q1, q2⟩ := g.idr u hu
      have := g.n9
      have hw : IntKind.wrap .i64 (IntKind.wrap .i64 (16 * c) + 1) = 16 * c + 1 := by rw [ag0 (n := 16 * c) (by omega) (by omega), ag0 (by omega) (by omega)]
      have hlen : (upT n.Talks t.Id (fun t => ({ t with Backlog := rr } : aa0))).length ≤ 100000 := by rw [bs8]; exact g.hl
      simp only [he, hk3, h2, decide_true, Bool.not_true, Bool.false_eq_true, if_false, if_true, decide_eq_false hl0, show ab0 (c :: rr) 0 = some c from rfl, cut1, hcl, Option.bind_some, hset, hw, ne_eq, not_true_eq_false, show ¬ ((3 : Int) = 0) by decide, decide_false]
      rw [aF4 (n := aa1.mk n.Db n.Next (upT n.Talks t.Id (fun t => { t with Backlog := rr }))) hlen, Option.bind_some]
      simp only [eu ▸ j2, ah0 j3, Option.bind_some, Int.toNat_natCast, hset2]
    ·simp [he, hk3, h2]
   ·by_cases ho : t.Opens = 0
    ·simp [he, h0, hk3, ho]
    ·have o0 := r.o0
     by_cases h9 : 9007199254740991 ≤ t.Opens
     ·simp [he, h0, hk3, ho, h9]
     ·have e1 : IntKind.wrap .i64 (t.Opens + 1) = t.Opens + 1 := ag0 (by omega) (by omega)
      have hset : List.set n.Talks i (aa0.mk t.Id t.Host t.Owner t.State t.Local t.Remote t.Peer t.Data t.Backlog (t.Opens + 1)) = upT n.Talks t.Id incT := aL0 (f := incT) ids F.at_
      simp [he, h0, hk3, ho, h9, e1, hset]
 ·simp [he]
def bL5 (a : aa2) : Prop := a.Net.length ≤ 10000 ∧ a.Host.length ≤ 10000 ∧ a.Service.length ≤ 10000
structure Lim (n : aa1) : Prop where
 db : okX n.Db
 ho : ∀ t ∈ n.Talks, t.Host.length ≤ 1000
 ad : ∀ t ∈ n.Talks, bL5 t.Local ∧ bL5 t.Remote
theorem okX.okT {l : List aa3} (h : okX l) : okT l := ⟨⟨by have := h.1; omega, fun x hx => by have := (h.2 x hx).1; omega⟩, fun x hx a ha => ((h.2 x hx).2 a ha).2⟩
theorem a52 {s more : Str} {most : Nat} (h : an1 s more most = true) : s.length ≤ most := by
 unfold an1 at h
 simp only [Bool.and_eq_true, decide_eq_true_eq] at h
 exact h.2.1
theorem bn0 {a : aa2} (h : av2 a = true) : a.Net.length ≤ 32 ∧ a.Host.length ≤ 64 ∧ a.Service.length ≤ 32 := by
 unfold av2 bJ8 svcB aP3 at h
 simp only [Bool.and_eq_true, Bool.or_eq_true, decide_eq_true_eq] at h
 obtain ⟨⟨h1, _⟩, h2, h3⟩ := h
 refine ⟨a52 h1, ?_, ?_⟩
 ·rcases h2 with h2 | h2
  ·rw [h2]; simp
  ·exact a52 h2
 ·rcases h3 with h3 | h3
  ·rw [h3]; simp
  ·exact a52 h3
theorem bn1 {s : Str} (h : (af5 s).2 = 0) : av2 (af5 s).1 = true := by
 unfold af5 at h ⊢
 split
 ·rename_i n h' e
  rw [e] at h
  by_cases q : av2 ⟨n, h', []⟩ = true
  ·simp [q]
  ·simp [q, bf2] at h
 ·rename_i n h' v e
  rw [e] at h
  by_cases q : (av2 ⟨n, h', v⟩ && !decide (v = [])) = true
  ·rw [if_pos q]; exact (Bool.and_eq_true_iff.1 q).1
  ·simp [q, bf2] at h
 ·rename_i h1 h2
  split at h
  ·rename_i e; exact absurd e (h1 _ _)
  ·rename_i e; exact absurd e (h2 _ _ _)
  ·simp [bf2] at h
theorem bx9 {l : List Str} (h : ∀ v ∈ l, v.length ≤ 5000) : (ap0 l).length ≤ 5000 := by
 induction l with
 | nil => simp [ap0]
 | cons a r ih =>
  unfold ap0
  split
  ·exact h a (by simp)
  ·exact ih fun v hv => h v (List.mem_cons_of_mem _ hv)
theorem bE7 {l : List aa3} {net svc : Str} (h : okT l) (hs : svc.length ≤ 5000) : (bC8 l net svc).length ≤ 5000 := by
 unfold bC8
 split
 ·exact hs
 ·exact bx9 (av5 h)
theorem b81 {l : List aa3} {net svc : Str} (h : okT l) (hs : svc.length ≤ 5000) : (aK8 l net svc).length ≤ 5000 := by
 unfold aK8
 split
 ·split
  ·simp
  ·rename_i x r e
   exact bE7 h (av5 h x (by rw [e]; simp))
 ·exact bE7 h hs
theorem bE8 {l : List aa3} {host name : Str} (h : okT l) (hh : host.length ≤ 1000) : ∀ v ∈ aG1 l host name, v.length ≤ 5000 := by
 intro v hv
 unfold aG1 at hv
 split at hv
 ·rename_i e; rw [List.mem_singleton.1 hv, e]; simp
 ·split at hv
  ·split at hv
   ·rw [List.mem_singleton.1 hv]; omega
   ·cases hv
  ·split at hv
   ·rename_i hc
    rw [List.mem_singleton.1 hv]
    exact a06 h _ (List.contains_iff_mem.1 hc)
   ·exact av5 h v (List.mem_filter.1 hv).1
theorem bE9 {l : List aa3} {host : Str} {a : aa2} (h : okT l) (hh : host.length ≤ 1000) : ∀ x ∈ (ap1 l host a).1, bL5 x := by
 intro x hx
 unfold ap1 at hx
 split at hx
 ·cases hx
 ·rename_i hv
  have hv := bn0 (Bool.not_eq_false _ ▸ hv)
  split at hx
  ·cases hx
  ·split at hx
   ·cases hx
   ·split at hx
    ·cases hx
    ·obtain ⟨n, hn, hx⟩ := List.mem_flatMap.1 hx
     unfold ai8 at hx
     split at hx
     ·cases hx
     ·obtain ⟨ho, hho, rfl⟩ := List.mem_map.1 hx
      have h1 := (b50 hn).1
      have h2 := a06 h _ h1
      have h3 := bE8 h hh _ hho
      have h4 := b81 (net := n) h (show a.Service.length ≤ 5000 by omega)
      exact ⟨by show n.length ≤ _; omega, by show ho.length ≤ _; omega, by show (aK8 l n a.Service).length ≤ _; omega⟩
theorem bS0 {l : List aa3} {host : Str} {a : aa2} (h : okT l) : (ap1 l host a).1.length ≤ 1000000 := by
 have hn := bm3 (name := a.Net) h.1
 have hh := bb6 (host := host) (name := a.Host) h.1
 have := bh0 (l := l) (svc := a.Service) hh (aP6 l a.Net)
 have h3 : (aP6 l a.Net).length * 1000 ≤ 1000 * 1000 := Nat.mul_le_mul_right _ hn
 unfold ap1
 split
 ·simp
 ·split
  ·simp
  ·split
   ·simp
   ·split
    ·simp
    ·exact Nat.le_trans this (by omega)
def bY1 (n : aa1) (t : aa0) (a : aa2) : aa1 × Int :=
 if (ap1 n.Db t.Host a).2 ≠ 0 then (n, (ap1 n.Db t.Host a).2) else match (ap1 n.Db t.Host a).1 with
 | [] => (n, 38)
 | x :: _ => if x.Host ≠ t.Host then (n, 38) else if n.Talks.any (bx0 t.Id t.Host x) = true then (n, 41) else (aa1.mk n.Db n.Next (upT n.Talks t.Id (anT x)), 0)
def a90 (a : aa2) : aa2 := if a.Host = [42] then ⟨a.Net, bm1, a.Service⟩ else a
def bW9 (n : aa1) (t : aa0) (w : Str) : aa1 × Int :=
 if t.State ≠ 1 then (n, 43) else if (af5 w).2 ≠ 0 then (n, (af5 w).2) else bY1 n t (a90 (af5 w).1)
theorem cr5 (g : Good n) (L : Lim n) (h : n.Talks[i]? = some t) {a : aa2} (h1 : a.Net.length ≤ 1000000) (h2 : a.Host.length ≤ 1000000) (h3 : a.Service.length ≤ 1000000) :
  ai1 n (i : Int) t a = some (bY1 n t a) ∧ aj9 n (i : Int) t a = some (bY1 n t a) := by
 have hi : i < n.Talks.length := (List.getElem?_eq_some_iff.1 h).1
 have hh := L.ho t (List.mem_of_getElem? h)
 have hT := L.db.okT
 have len0 : ∀ (x : aa2) (r : List aa2), ¬ (((x :: r).length : Int) = 0) := by intro x r; simp; omega
 constructor
 ·unfold ai1 bY1
  rw [be3 hT h3]
  simp only [Option.bind_some]
  by_cases he : (ap1 n.Db t.Host a).2 = 0
  ·cases hl : (ap1 n.Db t.Host a).1 with
   | nil => simp [he]
   | cons x r =>
    have e0 : ab0 (x :: r) 0 = some x := rfl
    have hset : List.set n.Talks i (aa0.mk t.Id t.Host t.Owner 2 x t.Remote t.Peer t.Data t.Backlog t.Opens) = upT n.Talks t.Id (anT x) := aL0 (f := anT x) g.tk.inc h
    simp only [he, decide_true, Bool.not_true, Bool.false_eq_true, if_false, ne_eq, not_true_eq_false, decide_eq_false (len0 x r), e0, Option.bind_some, cg2 g.hl, aS2, ah0 h, Int.toNat_natCast, bh1 hi, List.set_set, hset]
    by_cases hx : x.Host = t.Host
    ·by_cases ha : n.Talks.any (bx0 t.Id t.Host x) = true
     ·simp [hx, ha]
     ·simp [hx, ha]
    ·simp [hx]
  ·simp [he]
 ·unfold aj9 bY1
  rw [aX6 hT h1 h2 h3 (by omega)]
  simp only [Option.bind_some]
  by_cases he : (ap1 n.Db t.Host a).2 = 0
  ·cases hl : (ap1 n.Db t.Host a).1 with
   | nil => simp [he]
   | cons x r =>
    have e0 : ab0 (x :: r) 0 = some x := rfl
    have hset : List.set n.Talks i (aa0.mk t.Id t.Host t.Owner 2 x t.Remote t.Peer t.Data t.Backlog t.Opens) = upT n.Talks t.Id (anT x) := aL0 (f := anT x) g.tk.inc h
    simp only [he, decide_true, Bool.not_true, Bool.false_eq_true, if_false, ne_eq, not_true_eq_false, decide_eq_false (len0 x r), e0, Option.bind_some, bD2 g.hl, bL2 g.hl hi, hset]
    by_cases hx : x.Host = t.Host
    ·by_cases ha : n.Talks.any (bx0 t.Id t.Host x) = true
     ·simp [hx, ha]
     ·simp [hx, ha]
    ·simp [hx]
  ·simp [he]
theorem cr6 (g : Good n) (L : Lim n) (h : n.Talks[i]? = some t) {w : Str} (hw : w.length ≤ 50000) : ay3 n (i : Int) w = some (bW9 n t w) ∧ aD9 n (i : Int) w = some (bW9 n t w) := by
 have key : (af5 w).2 = 0 → ai1 n (i : Int) t (a90 (af5 w).1) = some (bY1 n t (a90 (af5 w).1)) ∧ aj9 n (i : Int) t (a90 (af5 w).1) = some (bY1 n t (a90 (af5 w).1)) := by
  intro h0
  have hv := bn0 (bn1 h0)
  have : (a90 (af5 w).1).Net.length ≤ 32 ∧ (a90 (af5 w).1).Host.length ≤ 64 ∧ (a90 (af5 w).1).Service.length ≤ 32 := by
   unfold a90; split
   ·exact ⟨hv.1, by simp [bm1], hv.2.2⟩
   ·exact hv
  exact cr5 g L h (by omega) (by omega) (by omega)
 have hs : ∀ {β : Type} (f : aa2 → β), (if (decide ((af5 w).1.Host = [42])) = true then f (aa2.mk (af5 w).1.Net [115, 101, 108, 102] (af5 w).1.Service) else f (af5 w).1) = f (a90 (af5 w).1) := by
  intro β f
  unfold a90 bm1
  by_cases q : (af5 w).1.Host = [42] <;> simp [q]
 constructor
 ·unfold ay3 bW9
  rw [ah0 h, b47 hw]
  simp only [Option.bind_some, hs]
  by_cases h1 : t.State = 1
  ·by_cases h2 : (af5 w).2 = 0
   ·simp [h1, h2, (key h2).1]
   ·simp [h1, h2]
  ·simp [h1]
 ·unfold aD9 bW9
  rw [ah0 h, bs1 hw]
  simp only [Option.bind_some, hs]
  by_cases h1 : t.State = 1
  ·by_cases h2 : (af5 w).2 = 0
   ·simp [h1, h2, (key h2).2]
   ·simp [h1, h2]
  ·simp [h1]
def bY2 (a : aa2) (x : aa0) : Bool := decide (x.Host = a.Host) && (decide (x.State = 2) && (decide (x.Local.Net = a.Net) && (decide (x.Local.Service = a.Service) && decide (x.Backlog.length < 8))))
def aL1 (t : aa0) (a : aa2) : aa2 := ⟨a.Net, t.Host, Go.Lib.itoa (32768 + t.Id)⟩
def ch8 (n : aa1) (t s : aa0) (a : aa2) : aa1 := aa1.mk n.Db (n.Next + 1) (n.Talks.map (a09 t.Id s.Id n.Next a (aL1 t a)) ++ [bo9 n.Next t.Id (aL1 t a) s])
def a11 (n : aa1) (t : aa0) : List aa2 → aa1 × Int
 | [] => (n, 40)
 | a :: r => match n.Talks.find? (bY2 a) with
  | some s => (ch8 n t s a, 0)
  | none => a11 n t r
def bL6 (n : aa1) (t : aa0) (w : Str) : aa1 × Int :=
 if t.State ≠ 1 then (n, 43) else if (af5 w).2 ≠ 0 then (n, (af5 w).2) else if (ap1 n.Db t.Host (af5 w).1).2 ≠ 0 then (n, (ap1 n.Db t.Host (af5 w).1).2)
 else if 64 ≤ n.Talks.length ∨ 1048575 < n.Next then (n, 22) else a11 n t (ap1 n.Db t.Host (af5 w).1).1
theorem cz4 (x : aa0) (a : aa2) : al6 x a.Host a = some (bY2 a x) := by
 unfold al6 aJ6 bY2
 have e : decide ((x.Backlog.length : Int) < 8) = decide (x.Backlog.length < 8) := by simp; omega
 rw [e]
 cases decide (x.Host = a.Host) <;> cases decide (x.State = 2) <;> cases decide (x.Local.Net = a.Net) <;> cases decide (x.Local.Service = a.Service) <;> rfl
theorem ch9 (hl : n.Talks.length ≤ 100000) (a : aa2) : aq4 n a.Host a = some (aU2 (bY2 a) n.Talks) := by
 unfold aq4
 rw [bb0]
 unfold ae9
 refine aw6 (by omega) ?_ ?_
 ·intro i hi
  simp only [ac0, dlt hi, if_true, aa6 hi, Option.bind_some, cz4]
 ·simp [ac0]
theorem b82 (hl : n.Talks.length ≤ 100000) (a : aa2) : aL9 n a = some (aU2 (bY2 a) n.Talks) := by
 unfold aL9
 refine aw6 (by omega) ?_ ?_
 ·intro i hi
  have e : decide ((n.Talks[i].Backlog.length : Int) < 8) = decide (n.Talks[i].Backlog.length < 8) := by simp; omega
  simp only [ay4, dlt hi, if_true, aa6 hi, Option.bind_some, e]
  rfl
 ·simp [ay4]
theorem cz5 {l : List aa0} {x y : Int} (hxy : x ≠ y) (nx : Int) (a b : aa2) : upT (upT l y fun t => { t with Backlog := t.Backlog ++ [nx] }) x (opT nx a b) = l.map (a09 x y nx a b) := by
 unfold upT
 rw [List.map_map]
 apply List.map_congr_left
 intro u hu
 show (if (if u.Id = y then ({ u with Backlog := u.Backlog ++ [nx] } : aa0) else u).Id = x then opT nx a b (if u.Id = y then ({ u with Backlog := u.Backlog ++ [nx] } : aa0) else u) else (if u.Id = y then ({ u with Backlog := u.Backlog ++ [nx] } : aa0) else u)) = a09 x y nx a b u
 unfold a09
 by_cases h1 : u.Id = y
 ·rw [if_pos h1, if_neg (by show ¬ u.Id = x; omega), if_neg (by omega)]
 ·rw [if_neg h1]
theorem cr7 {l : List aa0} {x y : Int} (hxy : x ≠ y) (nx : Int) (a b : aa2) : upT (upT l x (opT nx a b)) y (fun t => { t with Backlog := t.Backlog ++ [nx] }) = l.map (a09 x y nx a b) := by
 unfold upT
 rw [List.map_map]
 apply List.map_congr_left
 intro u hu
 have hid : ∀ u : aa0, (opT nx a b u).Id = u.Id := fun _ => rfl
 show (if (if u.Id = x then opT nx a b u else u).Id = y then ({ (if u.Id = x then opT nx a b u else u) with Backlog := (if u.Id = x then opT nx a b u else u).Backlog ++ [nx] } : aa0) else (if u.Id = x then opT nx a b u else u)) = a09 x y nx a b u
 unfold a09
 by_cases h1 : u.Id = x
 ·rw [if_pos h1, if_neg (by rw [hid]; omega), if_pos h1]
 ·rw [if_neg h1, if_neg h1]
theorem cr8 (g : Good n) (L : Lim n) (h : n.Talks[i]? = some t) {w : Str} (hw : w.length ≤ 50000) : as8 n (i : Int) w = some (bL6 n t w) ∧ aH2 n (i : Int) w = some (bL6 n t w) := by
 have hi : i < n.Talks.length := (List.getElem?_eq_some_iff.1 h).1
 have ht := List.mem_of_getElem? h
 have hh := L.ho t ht
 have hT := L.db.okT
 have hl := g.len
 have n1 := g.n1
 have n9 := g.n9
 obtain ⟨id1, id2⟩ := g.idr t ht
 have c64 : decide ((64 : Int) ≤ (n.Talks.length : Int)) = decide (64 ≤ n.Talks.length) := by simp; omega
 have e1 : IntKind.wrap .i64 (n.Next + 1) = n.Next + 1 := ag0 (by omega) (by omega)
 have e2 : IntKind.wrap .i64 (32768 + t.Id) = 32768 + t.Id := ag0 (by omega) (by omega)
 have loopP : t.State = 1 → ∀ (x5 : List aa2 × Int), x5.1.length ≤ 1000000 → aa9 (fun s => ah9 n (i : Int) t x5 s) 0 = some (a11 n t x5.1) := by
  intro hs1 x5 hx
  refine (ab7 (σ := Unit) x5.1.length (fun _ j => j) _ (fun j _ => a11 n t (x5.1.drop j)) (fun _ _ => True) (s0 := ()) trivial ?_ ?_).trans (by simp)
  ·intro _ j hj _
   rw [List.drop_eq_getElem_cons hj, a11]
   simp only [ah9, dlt hj, if_true, aa6 hj, Option.bind_some, ch9 g.hl]
   cases hf : n.Talks.find? (bY2 x5.1[j]) with
   | none =>
    left
    refine ⟨(), ?_, rfl, trivial⟩
    rw [bL0 hf, if_pos (by decide), aa7 (by omega)]
   | some s =>
    right
    obtain ⟨m, m1, m2, m3, m4⟩ := bw9 hf
    have hs := List.mem_of_getElem? m3
    have m4' := m4
    unfold bY2 at m4'
    simp only [Bool.and_eq_true, decide_eq_true_eq] at m4'
    have hne : t.Id ≠ s.Id := by
     intro q
     have := ag3 g.tk.inc t ht s hs q
     rw [← this] at m4'; omega
    have b1 : as5 8 s.Backlog [n.Next] = some (s.Backlog ++ [n.Next]) := ab3 (by simp; omega) (by simp; omega)
    have hset : List.set n.Talks m (aa0.mk s.Id s.Host s.Owner s.State s.Local s.Remote s.Peer s.Data (s.Backlog ++ [n.Next]) s.Opens) = upT n.Talks s.Id (fun t => { t with Backlog := t.Backlog ++ [n.Next] }) := aL0 (f := fun t => { t with Backlog := t.Backlog ++ [n.Next] }) g.tk.inc m3
    have hat : (upT n.Talks s.Id (fun t => ({ t with Backlog := t.Backlog ++ [n.Next] } : aa0)))[i]? = some t := by rw [cq8 h, if_neg hne]
    have hset2 : List.set (upT n.Talks s.Id (fun t => ({ t with Backlog := t.Backlog ++ [n.Next] } : aa0))) i (aa0.mk t.Id t.Host t.Owner 3 (aL1 t x5.1[j]) x5.1[j] n.Next t.Data t.Backlog t.Opens) = n.Talks.map (a09 t.Id s.Id n.Next x5.1[j] (aL1 t x5.1[j])) := by
     rw [← cz5 hne]
     exact aL0 (f := opT n.Next x5.1[j] (aL1 t x5.1[j])) (bs7 (f := fun t => ({ t with Backlog := t.Backlog ++ [n.Next] } : aa0)) (fun _ => rfl) g.tk.inc) hat
    have h0 : decide ((m : Int) < 0) = false := by simp
    rw [m2]
    simp only [h0, Bool.false_eq_true, if_false, ah0 m3, Option.bind_some, b1, e2, aS5 (show -9223372036854775808 ≤ 32768 + t.Id by omega) (show 32768 + t.Id ≤ 9223372036854775807 by omega), Int.toNat_natCast, hset, ah0 hat, e1]
    rw [show (aa2.mk x5.1[j].Net t.Host (Go.Lib.itoa (32768 + t.Id))) = aL1 t x5.1[j] from rfl, hset2, ab3 (by simp; omega) (by simp; omega)]
    rfl
  ·intro _ _
   simp [ah9, a11]
 have loopR : t.State = 1 → ∀ (x5 : List aa2 × Int), x5.1.length ≤ 1000000 → aa9 (fun s => ao8 n (i : Int) x5 s) 0 = some (a11 n t x5.1) := by
  intro hs1 x5 hx
  refine (ab7 (σ := Unit) x5.1.length (fun _ j => j) _ (fun j _ => a11 n t (x5.1.drop j)) (fun _ _ => True) (s0 := ()) trivial ?_ ?_).trans (by simp)
  ·intro _ j hj _
   rw [List.drop_eq_getElem_cons hj, a11]
   simp only [ao8, dlt hj, if_true, aa6 hj, Option.bind_some, b82 g.hl]
   cases hf : n.Talks.find? (bY2 x5.1[j]) with
   | none =>
    left
    refine ⟨(), ?_, rfl, trivial⟩
    rw [bL0 hf, if_neg (by decide), aa7 (by omega)]
   | some s =>
    right
    obtain ⟨m, m1, m2, m3, m4⟩ := bw9 hf
    have hs := List.mem_of_getElem? m3
    have m4' := m4
    unfold bY2 at m4'
    simp only [Bool.and_eq_true, decide_eq_true_eq] at m4'
    have hne : t.Id ≠ s.Id := by
     intro q
     have := ag3 g.tk.inc t ht s hs q
     rw [← this] at m4'; omega
    have b0 : as5 8 ([] : List Int) s.Backlog = some s.Backlog := by rw [ab3 (by simp; omega) (by simp; omega)]; rfl
    have b1 : as5 8 s.Backlog [n.Next] = some (s.Backlog ++ [n.Next]) := ab3 (by simp; omega) (by simp; omega)
    have hset : List.set n.Talks i (aa0.mk t.Id t.Host t.Owner 3 (aL1 t x5.1[j]) x5.1[j] n.Next t.Data t.Backlog t.Opens) = upT n.Talks t.Id (opT n.Next x5.1[j] (aL1 t x5.1[j])) := aL0 (f := opT n.Next x5.1[j] (aL1 t x5.1[j])) g.tk.inc h
    have hat : (upT n.Talks t.Id (opT n.Next x5.1[j] (aL1 t x5.1[j])))[m]? = some s := by rw [cq8 m3, if_neg (fun q => hne q.symm)]
    have hset2 : List.set (upT n.Talks t.Id (opT n.Next x5.1[j] (aL1 t x5.1[j]))) m (aa0.mk s.Id s.Host s.Owner s.State s.Local s.Remote s.Peer s.Data (s.Backlog ++ [n.Next]) s.Opens) = n.Talks.map (a09 t.Id s.Id n.Next x5.1[j] (aL1 t x5.1[j])) := by
     rw [← cr7 hne]
     exact aL0 (f := fun t => { t with Backlog := t.Backlog ++ [n.Next] }) (bs7 (f := opT n.Next x5.1[j] (aL1 t x5.1[j])) (fun _ => rfl) g.tk.inc) hat
    have h0 : decide (0 ≤ (m : Int)) = true := by simp
    have w1 := bL2 (n := n) g.hl hi (aa0.mk t.Id t.Host t.Owner 3 (aL1 t x5.1[j]) x5.1[j] n.Next t.Data t.Backlog t.Opens)
    rw [hset] at w1
    have w2 := bL2 (n := aa1.mk n.Db n.Next (upT n.Talks t.Id (opT n.Next x5.1[j] (aL1 t x5.1[j])))) (i := m) (by show (upT _ _ _).length ≤ _; rw [bs8]; exact g.hl) (by show m < (upT _ _ _).length; rw [bs8]; exact m1) (aa0.mk s.Id s.Host s.Owner s.State s.Local s.Remote s.Peer s.Data (s.Backlog ++ [n.Next]) s.Opens)
    rw [m2]
    simp only [h0, if_true, a02, ah0 h, ah0 m3, Option.bind_some, b0, b1, e2, aS4 (show -9223372036854775808 ≤ 32768 + t.Id by omega) (show 32768 + t.Id ≤ 9223372036854775807 by omega), e1]
    rw [show (aa2.mk x5.1[j].Net t.Host (Go.Lib.itoa (32768 + t.Id))) = aL1 t x5.1[j] from rfl, w1, Option.bind_some, w2, Option.bind_some]
    simp only [hset2]
    rw [ab3 (by simp; omega) (by simp; omega)]
    rfl
  ·intro _ _
   simp [ao8, a11]
 have hv : (af5 w).2 = 0 → (af5 w).1.Net.length ≤ 1000000 ∧ (af5 w).1.Host.length ≤ 1000000 ∧ (af5 w).1.Service.length ≤ 1000000 := by
  intro h0
  have := bn0 (bn1 h0)
  omega
 constructor
 ·unfold as8 bL6
  rw [ah0 h, b47 hw]
  simp only [Option.bind_some, c64]
  by_cases h1 : t.State = 1
  ·by_cases h2 : (af5 w).2 = 0
   ·rw [be3 hT (hv h2).2.2, Option.bind_some]
    rw [loopP h1 _ (bS0 hT)]
    by_cases h3 : (ap1 n.Db t.Host (af5 w).1).2 = 0
    ·by_cases h4 : 64 ≤ n.Talks.length
     ·simp [h1, h2, h3, h4]
     ·by_cases h5 : 1048575 < n.Next <;> simp [h1, h2, h3, h4, h5]
    ·simp [h1, h2, h3]
   ·simp [h1, h2]
  ·simp [h1]
 ·unfold aH2 bL6 aO9
  rw [ah0 h, bs1 hw]
  simp only [Option.bind_some, c64]
  by_cases h1 : t.State = 1
  ·by_cases h2 : (af5 w).2 = 0
   ·rw [aX6 hT (hv h2).1 (hv h2).2.1 (hv h2).2.2 (by omega), Option.bind_some]
    rw [loopR h1 _ (bS0 hT)]
    by_cases h3 : (ap1 n.Db t.Host (af5 w).1).2 = 0
    ·by_cases h4 : 64 ≤ n.Talks.length
     ·simp [h1, h2, h3, h4]
     ·by_cases h5 : 1048575 < n.Next <;> simp [h1, h2, h3, h4, h5]
    ·simp [h1, h2, h3]
   ·simp [h1, h2]
  ·simp [h1]
def aX8 : Str := [97, 110, 110, 111, 117, 110, 99, 101]
def aS7 : Str := [99, 111, 110, 110, 101, 99, 116]
def b83 : Str := [104, 97, 110, 103, 117, 112]
def ci0 (n : aa1) (t : aa0) : aa1 := aa1.mk n.Db n.Next (hangS n.Talks t)
def ci1 (n : aa1) (t : aa0) : List Str → aa1 × Int
 | [w] => if w = b83 then (if t.State = 3 ∨ t.State = 2 then (ci0 n t, 0) else (n, 43)) else (n, 54)
 | [w, x] => if w = aX8 then bW9 n t x else if w = aS7 then bL6 n t x else (n, 54)
 | _ => (n, 54)
def bL7 (n : aa1) (host user : Str) (id : Int) (ws : List Str) : aa1 × Int := match fdT n.Talks id with
 | none => (n, 8)
 | some t => if t.Host ≠ host then (n, 8) else if t.Owner ≠ user then (n, 11) else ci1 n t ws
theorem ci2 {a : aa2} (h : (bY1 n t a).2 ≠ 0) : (bY1 n t a).1 = n := by
 unfold bY1 at h ⊢
 split
 ·rfl
 ·rename_i h1
  rw [if_neg h1] at h
  split
  ·rfl
  ·rename_i x r e
   rw [e] at h
   dsimp only at h
   split
   ·rfl
   ·rename_i h2
    rw [if_neg h2] at h
    split
    ·rfl
    ·rename_i h3
     rw [if_neg h3] at h; exact absurd rfl h
theorem bS1 {w : Str} (h : (bW9 n t w).2 ≠ 0) : (bW9 n t w).1 = n := by
 unfold bW9 at h ⊢
 split
 ·rfl
 ·rename_i h1
  rw [if_neg h1] at h
  split
  ·rfl
  ·rename_i h2
   rw [if_neg h2] at h
   exact ci2 h
theorem b84 {l : List aa2} (h : (a11 n t l).2 ≠ 0) : (a11 n t l).1 = n := by
 induction l with
 | nil => rfl
 | cons a r ih =>
  unfold a11 at h ⊢
  split
  ·rename_i s e
   rw [e] at h; exact absurd rfl h
  ·rename_i e
   rw [e] at h; exact ih h
theorem bS2 {w : Str} (h : (bL6 n t w).2 ≠ 0) : (bL6 n t w).1 = n := by
 unfold bL6 at h ⊢
 split
 ·rfl
 ·rename_i h1
  rw [if_neg h1] at h
  split
  ·rfl
  ·rename_i h2
   rw [if_neg h2] at h
   split
   ·rfl
   ·rename_i h3
    rw [if_neg h3] at h
    split
    ·rfl
    ·rename_i h4
     rw [if_neg h4] at h
     exact b84 h
theorem ci3 {ws : List Str} (h : (ci1 n t ws).2 ≠ 0) : (ci1 n t ws).1 = n := by
 unfold ci1 at h ⊢
 split
 ·dsimp only at h
  split
  ·rename_i h1
   rw [if_pos h1] at h
   split
   ·rename_i h2
    rw [if_pos h2] at h; exact absurd rfl h
   ·rfl
  ·rfl
 ·dsimp only at h
  split
  ·rename_i h1
   rw [if_pos h1] at h; exact bS1 h
  ·rename_i h1
   rw [if_neg h1] at h
   split
   ·rename_i h2
    rw [if_pos h2] at h; exact bS2 h
   ·rfl
 ·rfl
theorem bF0 (hm : Mod n) {r : aa1 × Int} (h : r.2 ≠ 0 → r.1 = n) : ae5 n r.2 r.1.Db r.1.Next r.1.Talks = some r := by
 unfold ae5
 rw [aK9 hm]
 by_cases q : r.2 = 0
 ·simp only [q, decide_true, Bool.not_true, Bool.false_eq_true, if_false]
  rw [cr1, ← q]
 ·simp only [q, decide_false, Bool.not_false, if_true, Option.bind_some]
  rw [← h q]
theorem by0 : ∀ (s cur : Str), ∀ w ∈ bD0 cur s, w.length ≤ cur.length + s.length
 | [], cur, w, h => by
  rw [bQ9] at h
  split at h
  ·cases h
  ·rw [List.mem_singleton.1 h]; simp
 | c :: r, cur, w, h => by
  cases hc : cl1 c with
  | true =>
   rw [bQ8 hc] at h
   rcases List.mem_append.1 h with h | h
   ·split at h
    ·cases h
    ·rw [List.mem_singleton.1 h]; simp
   ·have := by0 r [] w h
    simp at this ⊢; omega
  | false =>
   rw [b57 hc] at h
   have := by0 r (cur ++ [c]) w h
   simp at this ⊢; omega
theorem cm0 (g : Good n) (L : Lim n) (user : Str) {line : Str} {ws : List Str} (hf : aH9 line = some ws) (hw : ∀ w ∈ ws, w.length ≤ 50000) : af7 n host user id line = some (bL7 n host user id ws) := by
 have hm : Mod n := g.mod L.db
 unfold af7 bL7
 rw [aF4 g.hl, Option.bind_some]
 cases hfd : fdT n.Talks id with
 | none => rw [aH6 hfd]; simp [aK9 hm]
 | some t =>
  obtain ⟨i, i1, i2, i3, i4⟩ := ar2 hfd
  obtain ⟨ht, hid⟩ := a89 hfd
  have h0 : decide ((i : Int) < 0) = false := by simp
  rw [i2]
  simp only [h0, Bool.false_eq_true, if_false, ah0 i3, Option.bind_some, aK9 hm, hf]
  by_cases hh : t.Host = host
  ·by_cases ho : t.Owner = user
   ·simp only [hh, ho, decide_true, Bool.not_true, Bool.false_eq_true, if_false, ne_eq, not_true_eq_false]
    have k54 : ae5 n 54 n.Db n.Next n.Talks = some (n, 54) := bF0 hm (r := (n, 54)) (fun _ => rfl)
    have k43 : ae5 n 43 n.Db n.Next n.Talks = some (n, 43) := bF0 hm (r := (n, 43)) (fun _ => rfl)
    cases ws with
    | nil => simp [ci1, k54]
    | cons w r =>
     cases r with
     | nil =>
      have l1 : (List.length [w] : Int) = 1 := rfl
      have hu := cg9 g.inv ht (g.tk.waits ht)
      rw [hid] at hu
      have k0 : ae5 n 0 n.Db n.Next (hangS n.Talks t) = some (ci0 n t, 0) := bF0 hm (r := (ci0 n t, 0)) (fun q => absurd rfl q)
      simp only [l1, show decide ((1 : Int) = 2) = false from rfl, Bool.false_eq_true, if_false, Option.bind_some, decide_true, if_true, show ab0 [w] 0 = some w from rfl, hu, ci1, b83]
      by_cases hw1 : w = [104, 97, 110, 103, 117, 112]
      ·by_cases s3 : t.State = 3
       ·simp [hw1, s3, k0]
       ·by_cases s2 : t.State = 2
        ·simp [hw1, s2, k0]
        ·simp [hw1, s3, s2, k43]
      ·simp [hw1, k54]
     | cons x r =>
      cases r with
      | nil =>
       have l2 : (List.length [w, x] : Int) = 2 := rfl
       have hx := hw x (by simp)
       have ka := bF0 hm (r := bW9 n t x) bS1
       have kc := bF0 hm (r := bL6 n t x) bS2
       simp only [l2, decide_true, if_true, show ab0 [w, x] 0 = some w from rfl, show ab0 [w, x] 1 = some x from rfl, Option.bind_some, (cr6 g L i3 hx).1, (cr8 g L i3 hx).1, ka, kc, ci1, aX8, aS7, show decide ((2 : Int) = 1) = false from rfl, Bool.false_eq_true, if_false, k54]
       by_cases w1 : w = [97, 110, 110, 111, 117, 110, 99, 101]
       ·simp [w1]
       ·by_cases w2 : w = [99, 111, 110, 110, 101, 99, 116]
        ·simp [w2]
        ·simp [w1, w2]
      | cons y r =>
       have l2 : ¬ ((List.length (w :: x :: y :: r) : Int) = 2) := by simp; omega
       have l1 : ¬ ((List.length (w :: x :: y :: r) : Int) = 1) := by simp; omega
       simp only [decide_eq_false l2, decide_eq_false l1, Bool.false_eq_true, if_false, Option.bind_some, k54, ci1]
   ·simp [hh, ho]
  ·simp [hh]
abbrev RR : Type := aa1 × Str × Bool × Int
def b85 (s : Str) (off cnt : Int) : Str := (s.drop off.toNat).take cnt.toNat
def b86 (s : Int) : Str := if s = 1 then [105, 100, 108, 101] else if s = 2 then [97, 110, 110, 111, 117, 110, 99, 101, 100] else if s = 3 then [111, 112, 101, 110] else [104, 117, 110, 103, 117, 112]
def bX0 (t : aa0) (k : Int) : Str := if k = 1 then Go.Lib.itoa t.Id else if k = 4 then b86 t.State else if k = 5 then (bs3 t.Local).1 else if k = 6 then (bs3 t.Remote).1 else []
def cr9 (c : Nat) (t : aa0) : aa0 := { t with Data := t.Data.drop c }
def cs0 (n : aa1) (k : Int) (t : aa0) (off cnt : Int) : RR :=
 if k = 0 then (n, [], false, 10) else if off < 0 ∨ cnt < 0 then (n, [], false, 1) else if k ≠ 2 then (n, b85 (bX0 t k) off (min cnt 65536), false, 0)
 else if t.State ≤ 2 then (n, [], false, 43) else if t.Data = [] then (n, [], decide (t.State = 3), 0) else (aa1.mk n.Db n.Next (upT n.Talks t.Id (cr9 (min cnt 65536).toNat)), t.Data.take (min cnt 65536).toNat, false, 0)
theorem bt0 {a : aa2} (h : bL5 a) : (bs3 a).1.length ≤ 50000 := by
 obtain ⟨h1, h2, h3⟩ := h
 unfold bs3
 split
 ·simp only [List.length_append, List.length_singleton]
  split
  ·simp; omega
  ·simp; omega
 ·simp
theorem b87 (g : Good n) (L : Lim n) (ht : t ∈ n.Talks) (k : Int) : (bX0 t k).length ≤ 50000 := by
 obtain ⟨r1, r2⟩ := g.idr t ht
 have := g.n9
 have h1 := bQ7 (n := t.Id) (by omega) (by omega)
 have h2 := bt0 (L.ad t ht).1
 have h3 := bt0 (L.ad t ht).2
 unfold bX0 b86
 repeat' split
 all_goals first | omega | simp
theorem b88 {s : Str} {off cnt : Int} (h0 : 0 ≤ off) (h1 : 0 ≤ cnt) (hs : s.length ≤ 1000000) :
  cut s (min off (List.length s : Int)) (IntKind.wrap .i64 ((min off (List.length s : Int)) + (min cnt (IntKind.wrap .i64 ((List.length s : Int) - (min off (List.length s : Int))))))) = some (b85 s off cnt) := by
 rw [ag0 (n := (List.length s : Int) - (min off (List.length s : Int))) (by omega) (by omega), ag0 (by omega) (by omega)]
 have e1 : min off (List.length s : Int) = ((min off.toNat s.length : Nat) : Int) := by omega
 have e2 : min off (List.length s : Int) + min cnt ((List.length s : Int) - min off (List.length s : Int)) = ((min off.toNat s.length + min cnt.toNat (s.length - min off.toNat s.length) : Nat) : Int) := by omega
 rw [e2, e1, a32 (by omega) (by omega)]
 unfold b85
 congr 1
 rw [List.drop_take]
 by_cases q : off.toNat ≤ s.length
 ·rw [Nat.min_eq_left q]
  have : off.toNat + min cnt.toNat (s.length - off.toNat) - off.toNat = min cnt.toNat (s.length - off.toNat) := by omega
  rw [this]
  by_cases q2 : cnt.toNat ≤ s.length - off.toNat
  ·rw [Nat.min_eq_left q2]
  ·rw [Nat.min_eq_right (by omega), List.take_of_length_le (by simp), List.take_of_length_le (by simp; omega)]
 ·rw [Nat.min_eq_right (by omega), List.drop_of_length_le (by omega), List.drop_of_length_le (by omega)]; simp
theorem lim6 {a : aa2} (h : bL5 a) : a.Net.length ≤ 1000000 ∧ a.Host.length ≤ 1000000 ∧ a.Service.length ≤ 1000000 := by
 obtain ⟨h1, h2, h3⟩ := h; omega
theorem ci4 {s : Int} (h1 : 1 ≤ s) (h4 : s ≤ 4) : ab0 [[], [105, 100, 108, 101], [97, 110, 110, 111, 117, 110, 99, 101, 100], [111, 112, 101, 110], [104, 117, 110, 103, 117, 112]] s = some (b86 s) := by
 rcases (by omega : s = 1 ∨ s = 2 ∨ s = 3 ∨ s = 4) with rfl | rfl | rfl | rfl <;> rfl
theorem TFile.contents (g : Good n) (L : Lim n) (F : TFile n host id t i k) : aD4 n (aa4.mk id (i : Int) k) = some (bX0 t k) := by
 have ht := List.mem_of_getElem? F.at_
 have r := g.tk.rng t ht
 have l1 := lim6 (L.ad t ht).1
 have l2 := lim6 (L.ad t ht).2
 have h0 : decide ((i : Int) < 0) = false := by simp
 unfold aD4 bX0
 simp only [h0, Bool.false_eq_true, if_false, ah0 F.at_, Option.bind_some, aS5 (show -9223372036854775808 ≤ t.Id by have := F.id1; omega) (show t.Id ≤ 9223372036854775807 by have := F.id2; omega), ci4 r.s1 r.s4, b48 l1.1 l1.2.1 l1.2.2, b48 l2.1 l2.2.1 l2.2.2]
 by_cases k1 : k = 1
 ·simp [k1]
 by_cases k4 : k = 4
 ·simp [k4]
 by_cases k5 : k = 5
 ·simp [k5]
 by_cases k6 : k = 6
 ·simp [k6]
 ·simp [k1, k4, k5, k6]
theorem bS3 {s : Str} {c : Int} (h : 0 ≤ c) : cut s 0 (min c (List.length s : Int)) = some (s.take c.toNat) ∧ cut s (min c (List.length s : Int)) (List.length s : Int) = some (s.drop c.toNat) := by
 have e1 : min c (List.length s : Int) = ((min c.toNat s.length : Nat) : Int) := by omega
 rw [e1, a74 (by omega), a77 (by omega)]
 by_cases q : c.toNat ≤ s.length
 ·rw [Nat.min_eq_left q]; exact ⟨rfl, rfl⟩
 ·rw [Nat.min_eq_right (by omega), List.take_of_length_le (Nat.le_refl _), List.take_of_length_le (by omega), List.drop_of_length_le (Nat.le_refl _), List.drop_of_length_le (by omega)]; exact ⟨rfl, rfl⟩
theorem b89 (g : Good n) (L : Lim n) (F : TFile n host id t i k) (off cnt : Int) : ar6 n host id off cnt = some (cs0 n k t off cnt) := by
 have ht := List.mem_of_getElem? F.at_
 have h0 : decide ((i : Int) < 0) = false := by simp
 have hc := b87 g L ht k
 unfold ar6 cs0
 rw [aK9 (g.mod L.db), F.look g]
 simp only [Option.bind_some, Bool.not_true, Bool.false_eq_true, if_false, F.isDir, h0, Bool.false_or, ah0 F.at_, F.contents g L, Int.toNat_natCast]
 by_cases k0 : k = 0
 ·simp [k0]
 by_cases ho : off < 0
 ·simp [k0, ho]
 by_cases hn : cnt < 0
 ·simp [k0, ho, hn]
 ·have c0 : 0 ≤ min cnt 65536 := by omega
  simp only [k0, ho, hn, decide_false, Bool.or_self, Bool.false_eq_true, if_false, or_self, b88 (show 0 ≤ off by omega) c0 (show (bX0 t k).length ≤ 1000000 by omega), Option.bind_some, (bS3 (s := t.Data) c0).1, (bS3 (s := t.Data) c0).2]
  by_cases k2 : k = 2
  ·by_cases s2 : t.State ≤ 2
   ·simp [k2, s2]
   ·by_cases hd : t.Data = []
    ·simp [k2, s2, hd]
    ·have hset : List.set n.Talks i (aa0.mk t.Id t.Host t.Owner t.State t.Local t.Remote t.Peer (t.Data.drop (min cnt 65536).toNat) t.Backlog t.Opens) = upT n.Talks t.Id (cr9 (min cnt 65536).toNat) := aL0 (f := cr9 (min cnt 65536).toNat) g.tk.inc F.at_
     simp [k2, s2, hd, hset]
  ·simp [k2]
def addT (s : Str) (t : aa0) : aa0 := { t with Data := t.Data ++ s }
def bX1 (n : aa1) (t : aa0) (data : Str) : RO :=
 if t.State ≤ 2 then (n, 0, false, 43) else if t.State = 4 then (n, 0, false, 30) else if 8192 < data.length then (n, 0, false, 4) else match fdT n.Talks t.Peer with
 | none => (n, 0, true, 0)
 | some p => if 8192 < p.Data.length + data.length then (n, 0, true, 0) else (aa1.mk n.Db n.Next (upT n.Talks p.Id (addT data)), (data.length : Int), false, 0)
def bn2 (n : aa1) (user : Str) (k : Int) (t : aa0) (data : Str) (ws : List Str) : RO :=
 if k = 0 then (n, 0, false, 10) else if k ≠ 1 ∧ k ≠ 2 then (n, 0, false, 11) else if k = 1 then (if (bL7 n t.Host user t.Id ws).2 ≠ 0 then (n, 0, false, (bL7 n t.Host user t.Id ws).2) else ((bL7 n t.Host user t.Id ws).1, (data.length : Int), false, 0))
 else bX1 n t data
theorem ci5 {user : Str} {ws : List Str} (h : (bL7 n host user id ws).2 ≠ 0) : (bL7 n host user id ws).1 = n := by
 unfold bL7 at h ⊢
 split
 ·rfl
 ·rename_i t e
  rw [e] at h
  dsimp only at h
  split
  ·rfl
  ·rename_i h1
   rw [if_neg h1] at h
   split
   ·rfl
   ·rename_i h2
    rw [if_neg h2] at h
    exact ci3 h
theorem bX2 (g : Good n) (L : Lim n) (F : TFile n host id t i k) (user : Str) {data : Str} {ws : List Str} (hd : data.length ≤ 50000) (hf : k = 1 → aH9 data = some ws) (hw : ∀ w ∈ ws, w.length ≤ 50000) : am5 n host user id data = some (bn2 n user k t data ws) := by
 have ht := List.mem_of_getElem? F.at_
 have h0 : decide ((i : Int) < 0) = false := by simp
 unfold am5 bn2
 rw [aK9 (g.mod L.db), F.look g]
 simp only [Option.bind_some, Bool.not_true, Bool.false_eq_true, if_false, F.isDir, h0, Bool.false_or, ah0 F.at_, F.tdiv, Int.toNat_natCast]
 by_cases k0 : k = 0
 ·simp [k0]
 by_cases k1 : k = 1
 ·have hc := cm0 (host := t.Host) (id := t.Id) g L user (hf k1) hw
  rw [← F.host, hc]
  have he := ci5 (n := n) (host := t.Host) (id := t.Id) (user := user) (ws := ws)
  generalize bL7 n t.Host user t.Id ws = r at he
  by_cases h2 : r.2 = 0
  ·simp [k1, h2]
  ·simp [k1, h2, he h2]
 ·by_cases k2 : k = 2
  ·unfold bX1
   simp only [k0, k1, k2, decide_true, decide_false, Bool.not_true, Bool.not_false, Bool.and_false, Bool.false_eq_true, if_false, ne_eq, not_true_eq_false, and_false, show ¬ ((2 : Int) = 0) by decide, show ¬ ((2 : Int) = 1) by decide]
   by_cases s2 : t.State ≤ 2
   ·simp [s2]
   by_cases s4 : t.State = 4
   ·simp [s4]
   have c1 : decide ((8192 : Int) < (data.length : Int)) = decide (8192 < data.length) := by simp; omega
   by_cases hl : 8192 < data.length
   ·simp [s2, s4, hl, c1]
   ·simp only [s2, s4, hl, c1, decide_false, Bool.false_eq_true, if_false, aF4 g.hl, Option.bind_some]
    cases hfd : fdT n.Talks t.Peer with
    | none => simp [aH6 hfd]
    | some p =>
     obtain ⟨j, j1, j2, j3, j4⟩ := ar2 hfd
     have hp := (a89 hfd).1
     have hpd := (g.tk.rng p hp).dt
     have hj0 : decide ((j : Int) < 0) = false := by simp
     have e1 : IntKind.wrap .i64 ((List.length p.Data : Int) + (List.length data : Int)) = (List.length p.Data : Int) + (List.length data : Int) := ag0 (by omega) (by omega)
     have c2 : decide ((8192 : Int) < (List.length p.Data : Int) + (List.length data : Int)) = decide (8192 < p.Data.length + data.length) := by simp; omega
     have hset : List.set n.Talks j (aa0.mk p.Id p.Host p.Owner p.State p.Local p.Remote p.Peer (p.Data ++ data) p.Backlog p.Opens) = upT n.Talks p.Id (addT data) := aL0 (f := addT data) g.tk.inc j3
     have hcat : ay8 p.Data data = some (p.Data ++ data) := ae0 (by omega)
     rw [j2]
     simp only [hj0, Bool.false_eq_true, if_false, ah0 j3, Option.bind_some, e1, c2, hcat, Int.toNat_natCast, hset]
     by_cases h3 : 8192 < p.Data.length + data.length
     ·simp [h3]
     ·simp [h3]
  ·simp [k0, k1, k2]
structure Fit (n : aa1) : Prop where
 g : Good n
 L : Lim n
def Kin (l l' : List aa0) : Prop := ∀ t' ∈ l', ∃ u ∈ l, u.Id = t'.Id ∧ u.Host = t'.Host ∧ u.Local = t'.Local ∧ u.Remote = t'.Remote
theorem Fit.kin (f : Fit n) {l : List aa0} (G : GoodT l) (hl : l.length ≤ 64) (hk : Kin n.Talks l) : Fit (aa1.mk n.Db n.Next l) := by
 refine ⟨⟨f.g.db, f.g.n1, f.g.n9, hl, ?_, G⟩, ⟨f.L.db, ?_, ?_⟩⟩
 ·intro t ht
  obtain ⟨u, hu, e, _⟩ := hk t ht
  rw [← e]; exact f.g.idr u hu
 ·intro t ht
  obtain ⟨u, hu, _, e, _⟩ := hk t ht
  rw [← e]; exact f.L.ho u hu
 ·intro t ht
  obtain ⟨u, hu, _, _, e1, e2⟩ := hk t ht
  rw [← e1, ← e2]; exact f.L.ad u hu
theorem Kin.map {l : List aa0} {f : aa0 → aa0} (h : ∀ t, (f t).Id = t.Id ∧ (f t).Host = t.Host ∧ (f t).Local = t.Local ∧ (f t).Remote = t.Remote) : Kin l (l.map f) := by
 intro t' ht'
 obtain ⟨t, ht, rfl⟩ := List.mem_map.1 ht'
 obtain ⟨a, b, c, d⟩ := h t
 exact ⟨t, ht, a.symm, b.symm, c.symm, d.symm⟩
theorem Kin.up {l : List aa0} {id : Int} {f : aa0 → aa0} (h : ∀ t, (f t).Id = t.Id ∧ (f t).Host = t.Host ∧ (f t).Local = t.Local ∧ (f t).Remote = t.Remote) : Kin l (upT l id f) := by
 refine Kin.map fun t => ?_
 rcases aE0 id f t with ⟨_, e⟩ | ⟨_, e⟩ <;> rw [e]
 ·exact h t
 ·exact ⟨rfl, rfl, rfl, rfl⟩
theorem Kin.trans {a b c : List aa0} (h1 : Kin a b) (h2 : Kin b c) : Kin a c := by
 intro t ht
 obtain ⟨u, hu, e1, e2, e3, e4⟩ := h2 t ht
 obtain ⟨v, hv, f1, f2, f3, f4⟩ := h1 u hu
 exact ⟨v, hv, f1.trans e1, f2.trans e2, f3.trans e3, f4.trans e4⟩
theorem Kin.hg (l : List aa0) (R : List Int) : Kin l (hgL l R) := Kin.map fun t => ⟨(aj5 R t).1, (aj5 R t).2.1, (aj5 R t).2.2.2.1, (aj5 R t).2.2.2.2.1⟩
theorem Kin.cut (l : List aa0) (R : List Int) : Kin l (cutS l R) := by
 intro t' ht'
 obtain ⟨t, ht, _, rfl⟩ := b65.1 ht'
 have := aj5 R t
 exact ⟨t, ht, this.1.symm, this.2.1.symm, this.2.2.2.1.symm, this.2.2.2.2.1.symm⟩
theorem Kin.hang (l : List aa0) (t : aa0) : Kin l (hangS l t) := by
 unfold hangS
 split
 ·exact (Kin.up (f := clT) fun _ => ⟨rfl, rfl, rfl, rfl⟩).trans (Kin.cut _ _)
 ·exact Kin.hg _ _
theorem ci6 (l : List aa0) (t : aa0) : (hangS l t).length ≤ l.length := by
 unfold hangS
 split
 ·exact Nat.le_trans (cr2 _ _) (by rw [bs8]; exact Nat.le_refl _)
 ·unfold hgL; rw [List.length_map]; exact Nat.le_refl _
theorem GoodT.up {l : List aa0} (G : GoodT l) (ht : t ∈ l) {f : aa0 → aa0} (K : ∀ t, (f t).Id = t.Id ∧ (f t).Host = t.Host ∧ (f t).State = t.State ∧ (f t).Peer = t.Peer ∧ (f t).Local = t.Local ∧ (f t).Backlog = t.Backlog)
  (ho : (f t).Opens = 0 ↔ t.Opens = 0) (hr : Rng (f t)) : GoodT (upT l t.Id f) := by
 have C : ∀ x ∈ l, (x = t ∧ (if x.Id = t.Id then f x else x) = f t) ∨ (if x.Id = t.Id then f x else x) = x := by
  intro x hx
  rcases aE0 t.Id f x with ⟨q, e⟩ | ⟨q, e⟩
  ·have := ag3 G.inc x hx t ht q; subst this; exact .inl ⟨rfl, e⟩
  ·exact .inr e
 refine G.same (fun x => if x.Id = t.Id then f x else x) ?_ ?_ ?_
 ·intro x
  rcases aE0 t.Id f x with ⟨q, e⟩ | ⟨q, e⟩ <;> rw [e]
  ·exact K x
  ·exact ⟨rfl, rfl, rfl, rfl, rfl, rfl⟩
 ·intro x hx
  rcases C x hx with ⟨rfl, e⟩ | e <;> rw [e]
  exact ho
 ·intro x hx
  rcases C x hx with ⟨rfl, e⟩ | e <;> rw [e]
  ·exact hr
  ·exact G.rng x hx
def Far (l : List aa0) (host : Str) (t : aa0) : Prop := t.Host ≠ host ∧ ∀ p ∈ l, p.Id = t.Peer → p.Host ≠ host
def Keeps (n m : aa1) (host : Str) (all : Prop) : Prop := ∀ t ∈ n.Talks, Far n.Talks host t → (all ∨ t.State ≠ 2) → t ∈ m.Talks
theorem Keeps.refl (n : aa1) (host : Str) (all : Prop) : Keeps n n host all := fun t ht _ _ => ht
theorem bL8 {l : List aa0} {id : Int} {f : aa0 → aa0} {x : aa0} (hx : x ∈ l) (h : x.Id ≠ id) : x ∈ upT l id f := List.mem_map.2 ⟨x, hx, if_neg h⟩
theorem ci7 {l : List aa0} {R : List Int} {x : aa0} (hx : x ∈ l) (h1 : x.Id ∉ R) (h2 : x.Peer ∉ R) : x ∈ cutS l R := by
 refine b65.2 ⟨x, hx, h1, ?_⟩
 unfold hg1; rw [if_neg]; rintro ⟨_, q | q⟩
 ·exact h1 q
 ·exact h2 q
theorem cs1 {l : List aa0} {R : List Int} {x : aa0} (hx : x ∈ l) (h1 : x.Id ∉ R) (h2 : x.Peer ∉ R) : x ∈ hgL l R := by
 refine List.mem_map.2 ⟨x, hx, ?_⟩
 unfold hg1; rw [if_neg]; rintro ⟨_, q | q⟩
 ·exact h1 q
 ·exact h2 q
theorem b90 {l : List aa0} (G : GoodT l) {x : aa0} (hx : x ∈ l) {R : List Int} (hR : ∀ c ∈ R, ∃ u ∈ l, u.Id = c ∧ u.Host = host) (hf : Far l host x) : x.Id ∉ R ∧ x.Peer ∉ R := by
 constructor
 ·intro q
  obtain ⟨u, hu, e, h⟩ := hR _ q
  have := ag3 G.inc u hu x hx e; subst this
  exact hf.1 h
 ·intro q
  obtain ⟨u, hu, e, h⟩ := hR _ q
  exact hf.2 u hu e h
theorem bc2 {l : List aa0} {x : aa0} (hx : x ∈ l) (ht : t ∈ l) (hh : t.Host = host) (G : GoodT l) (hf : Far l host x) : x.Id ≠ t.Id := by
 intro e
 have := ag3 G.inc x hx t ht e; subst this
 exact hf.1 hh
theorem GoodT.bhost {l : List aa0} (G : GoodT l) (ht : t ∈ l) : ∀ c ∈ t.Backlog, ∃ u ∈ l, u.Id = c ∧ u.Host = t.Host := by
 intro c hc
 obtain ⟨u, hu, e1, e2, _⟩ := G.bc t ht c hc
 exact ⟨u, hu, e1, e2⟩
structure Was (n : aa1) (host : Str) (all : Prop) (m : aa1) : Prop where
 fit : Fit m
 far : Keeps n m host all
theorem Was.refl (f : Fit n) (host : Str) (all : Prop) : Was n host all n := ⟨f, Keeps.refl n host all⟩
theorem Was.up (f : Fit n) (all : Prop) (ht : t ∈ n.Talks) {f' : aa0 → aa0} (K : ∀ t, (f' t).Id = t.Id ∧ (f' t).Host = t.Host ∧ (f' t).State = t.State ∧ (f' t).Peer = t.Peer ∧ (f' t).Local = t.Local ∧ (f' t).Backlog = t.Backlog ∧ (f' t).Remote = t.Remote)
  (ho : (f' t).Opens = 0 ↔ t.Opens = 0) (hr : Rng (f' t)) (hh : ∀ x ∈ n.Talks, Far n.Talks host x → x.Id ≠ t.Id) : Was n host all (aa1.mk n.Db n.Next (upT n.Talks t.Id f')) := by
 refine ⟨f.kin (f.g.tk.up ht (fun t => ?_) ho hr) (by rw [bs8]; exact f.g.len) (Kin.up fun t => ?_), fun x hx hf _ => bL8 hx (hh x hx hf)⟩
 ·obtain ⟨a, b, c, d, e, g, h⟩ := K t; exact ⟨a, b, c, d, e, g⟩
 ·obtain ⟨a, b, c, d, e, g, h⟩ := K t; exact ⟨a, b, e, h⟩
theorem bF1 (f : Fit n) {user : Str} (hh : host.length ≤ 1000) (m : Int) : Was n host True (aU0 n host user m).1 ∧ ((aU0 n host user m).2.2.1 = true → aU0 n host user m = (n, 0, true, 0)) := by
 unfold aU0
 split
 ·exact ⟨Was.refl f _ _, fun q => by cases q⟩
 ·split
  ·exact ⟨Was.refl f _ _, fun q => by cases q⟩
  ·split
   ·exact ⟨Was.refl f _ _, fun q => by cases q⟩
   ·rename_i hu hfull
    have n1 := f.g.n1
    have n9 := f.g.n9
    have M : ∀ t', t' ∈ n.Talks ++ [a56 n.Next host user] → t' ∈ n.Talks ∨ t' = a56 n.Next host user := by intro t' h; simpa using h
    refine ⟨⟨⟨⟨f.g.db, by show 1 ≤ n.Next + 1; omega, by show n.Next + 1 ≤ 1048576; omega, by show (n.Talks ++ [a56 n.Next host user]).length ≤ 64; simp; omega, ?_, f.g.tk.add (fun t ht => (f.g.idr t ht).2) host (by omega)⟩, ⟨f.L.db, ?_, ?_⟩⟩, fun x hx _ _ => List.mem_append_left _ hx⟩, fun q => by cases q⟩
    ·intro t ht
     rcases M t ht with h | rfl
     ·have := f.g.idr t h; exact ⟨this.1, by show t.Id < n.Next + 1; omega⟩
     ·exact ⟨by show 1 ≤ n.Next; omega, by show n.Next < n.Next + 1; omega⟩
    ·intro t ht
     rcases M t ht with h | rfl
     ·exact f.L.ho t h
     ·exact hh
    ·intro t ht
     rcases M t ht with h | rfl
     ·exact f.L.ad t h
     ·exact ⟨⟨by simp [a56, be6], by simp [a56, be6], by simp [a56, be6]⟩, ⟨by simp [a56, be6], by simp [a56, be6], by simp [a56, be6]⟩⟩
theorem b91 (f : Fit n) (ht : t ∈ n.Talks) (hh : t.Host = host) (user : Str) (m : Int) : Was n host True (bp0 n id k t user m).1 ∧ ((bp0 n id k t user m).2.2.1 = true → bp0 n id k t user m = (n, 0, true, 0)) := by
 have R := Was.refl f host True
 have r := f.g.tk.rng t ht
 unfold bp0
 split
 ·exact ⟨R, fun q => by cases q⟩
 ·split
  ·exact ⟨R, fun q => by cases q⟩
  ·split
   ·split
    ·exact ⟨R, fun q => by cases q⟩
    ·split
     ·exact ⟨R, fun _ => rfl⟩
     ·rename_i c rr hb
      refine ⟨⟨f.kin (f.g.tk.lis ht hb) (by rw [List.length_map]; exact f.g.len) (Kin.map fun t' => ?_), fun x hx hf _ => ?_⟩, fun q => by cases q⟩
      ·unfold bn6; split
       ·exact ⟨rfl, rfl, rfl, rfl⟩
       ·split <;> exact ⟨rfl, rfl, rfl, rfl⟩
      ·obtain ⟨u, hu, e1, e2⟩ := f.g.tk.bhost ht c (by rw [hb]; simp)
       refine List.mem_map.2 ⟨x, hx, ?_⟩
       have q1 := bc2 hx ht hh f.g.tk hf
       have q2 := bc2 hx hu (e2.trans hh) f.g.tk hf
       unfold bn6
       rw [if_neg q1, if_neg (by omega)]
   ·split
    ·exact ⟨R, fun q => by cases q⟩
    ·split
     ·exact ⟨R, fun q => by cases q⟩
     ·rename_i o1 o2
      refine ⟨Was.up f True ht (f' := incT) (fun _ => ⟨rfl, rfl, rfl, rfl, rfl, rfl, rfl⟩) ?_ ?_ fun x hx hf => bc2 hx ht hh f.g.tk hf, fun q => by cases q⟩
      ·have := r.o0
       show t.Opens + 1 = 0 ↔ t.Opens = 0
       omega
      ·have := r.o0
       exact ⟨r.s1, r.s4, by show 0 ≤ t.Opens + 1; omega, by show t.Opens + 1 ≤ 9007199254740991; omega, r.dt, r.ow, r.d0⟩
theorem ci8 (f : Fit n) (ht : t ∈ n.Talks) (hh : t.Host = host) (all : Prop) : Was n host all (ci0 n t) := by
 refine ⟨f.kin (f.g.tk.hangS ht) (Nat.le_trans (ci6 _ _) f.g.len) (Kin.hang _ _), fun x hx hf _ => ?_⟩
 show x ∈ hangS n.Talks t
 unfold hangS
 have q0 := bc2 hx ht hh f.g.tk hf
 split
 ·have hR : ∀ c ∈ t.Backlog, ∃ u ∈ n.Talks, u.Id = c ∧ u.Host = host := fun c hc => by
   obtain ⟨u, hu, a, b⟩ := f.g.tk.bhost ht c hc; exact ⟨u, hu, a, b.trans hh⟩
  obtain ⟨q1, q2⟩ := b90 f.g.tk hx hR hf
  exact ci7 (bL8 hx q0) q1 q2
 ·have hR : ∀ c ∈ [t.Id], ∃ u ∈ n.Talks, u.Id = c ∧ u.Host = host := fun c hc => ⟨t, ht, (List.mem_singleton.1 hc).symm, hh⟩
  obtain ⟨q1, q2⟩ := b90 f.g.tk hx hR hf
  exact cs1 hx q1 q2
theorem cs2 (f : Fit n) (ht : t ∈ n.Talks) (hh : t.Host = host) (w : Str) (all : Prop) : Was n host all (bW9 n t w).1 := by
 have R := Was.refl f host all
 unfold bW9
 split
 ·exact R
 ·rename_i hs
  have hs : t.State = 1 := Classical.not_not.1 hs
  split
  ·exact R
  ·unfold bY1
   split
   ·exact R
   ·split
    ·exact R
    ·rename_i x r e
     split
     ·exact R
     ·rename_i hx
      have hx : x.Host = t.Host := Classical.not_not.1 hx
      split
      ·exact R
      ·rename_i ha
       have hlim := bE9 (a := a90 (af5 w).1) f.L.db.okT (f.L.ho t ht) x (by rw [e]; simp)
       have K : ∀ t', (if t'.Id = t.Id then anT x t' else t').Id = t'.Id ∧ (if t'.Id = t.Id then anT x t' else t').Host = t'.Host := by
        intro t'; split <;> exact ⟨rfl, rfl⟩
       refine ⟨⟨⟨f.g.db, f.g.n1, f.g.n9, by rw [bs8]; exact f.g.len, ?_, f.g.tk.ann ht hs hx (by simpa using ha)⟩, ⟨f.L.db, ?_, ?_⟩⟩, fun y hy hf _ => bL8 hy (bc2 hy ht hh f.g.tk hf)⟩
       ·intro y hy
        obtain ⟨z, hz, rfl⟩ := List.mem_map.1 hy
        rw [(K z).1]; exact f.g.idr z hz
       ·intro y hy
        obtain ⟨z, hz, rfl⟩ := List.mem_map.1 hy
        rw [(K z).2]; exact f.L.ho z hz
       ·intro y hy
        obtain ⟨z, hz, rfl⟩ := List.mem_map.1 hy
        split
        ·exact ⟨hlim, (f.L.ad z hz).2⟩
        ·exact f.L.ad z hz
theorem bX3 (l : List aa2) : a11 n t l = (n, 40) ∨ ∃ a ∈ l, ∃ s ∈ n.Talks, bY2 a s = true ∧ a11 n t l = (ch8 n t s a, 0) := by
 induction l with
 | nil => exact .inl rfl
 | cons a r ih =>
  unfold a11
  cases hf : n.Talks.find? (bY2 a) with
  | none =>
   rcases ih with h | ⟨b, hb, q⟩
   ·exact .inl h
   ·exact .inr ⟨b, List.mem_cons_of_mem _ hb, q⟩
  | some s => exact .inr ⟨a, by simp, s, List.mem_of_find?_eq_some hf, List.find?_some hf, rfl⟩
theorem cs3 (f : Fit n) (ht : t ∈ n.Talks) (hh : t.Host = host) (w : Str) : Was n host False (bL6 n t w).1 := by
 have R := Was.refl f host False
 unfold bL6
 split
 ·exact R
 ·rename_i hs
  have hs : t.State = 1 := Classical.not_not.1 hs
  split
  ·exact R
  ·split
   ·exact R
   ·split
    ·exact R
    ·rename_i hfull
     rcases bX3 (n := n) (t := t) (ap1 n.Db t.Host (af5 w).1).1 with e | ⟨a, ha, s, hsm, hp, e⟩ <;> rw [e]
     ·exact R
     ·have hlim := bE9 (a := (af5 w).1) f.L.db.okT (f.L.ho t ht) a ha
      unfold bY2 at hp
      simp only [Bool.and_eq_true, decide_eq_true_eq] at hp
      obtain ⟨p1, p2, p3, p4, p5⟩ := hp
      have n1 := f.g.n1
      have n9 := f.g.n9
      obtain ⟨i1, i2⟩ := f.g.idr t ht
      have hil := bQ7 (n := 32768 + t.Id) (by omega) (by omega)
      have hO : bL5 (aL1 t a) := ⟨hlim.1, by have := f.L.ho t ht; show t.Host.length ≤ 10000; omega, by show (Go.Lib.itoa (32768 + t.Id)).length ≤ 10000; omega⟩
      have K : ∀ t', (a09 t.Id s.Id n.Next a (aL1 t a) t').Id = t'.Id ∧ (a09 t.Id s.Id n.Next a (aL1 t a) t').Host = t'.Host := by
       intro t'; unfold a09; split
       ·exact ⟨rfl, rfl⟩
       ·split <;> exact ⟨rfl, rfl⟩
      have M : ∀ y ∈ (ch8 n t s a).Talks, (∃ z ∈ n.Talks, a09 t.Id s.Id n.Next a (aL1 t a) z = y) ∨ y = bo9 n.Next t.Id (aL1 t a) s := by
       intro y hy
       rcases List.mem_append.1 hy with h | h
       ·exact .inl (List.mem_map.1 h)
       ·exact .inr (List.mem_singleton.1 h)
      refine ⟨⟨⟨f.g.db, by show 1 ≤ n.Next + 1; omega, by show n.Next + 1 ≤ 1048576; omega, by show (List.map _ _ ++ [_]).length ≤ 64; simp; omega, ?_, f.g.tk.con (fun t ht => (f.g.idr t ht).2) ht hsm hs p2 p5 a (aL1 t a)⟩, ⟨f.L.db, ?_, ?_⟩⟩, fun y hy hf hal => ?_⟩
      ·intro y hy
       rcases M y hy with ⟨z, hz, rfl⟩ | rfl
       ·rw [(K z).1]
        have := f.g.idr z hz; exact ⟨this.1, by show z.Id < n.Next + 1; omega⟩
       ·exact ⟨by show 1 ≤ n.Next; omega, by show n.Next < n.Next + 1; omega⟩
      ·intro y hy
       rcases M y hy with ⟨z, hz, rfl⟩ | rfl
       ·rw [(K z).2]; exact f.L.ho z hz
       ·exact f.L.ho s hsm
      ·intro y hy
       rcases M y hy with ⟨z, hz, rfl⟩ | rfl
       ·unfold a09
        split
        ·exact ⟨hO, hlim⟩
        ·split
         ·exact f.L.ad z hz
         ·exact f.L.ad z hz
       ·exact ⟨(f.L.ad s hsm).1, hO⟩
      ·refine List.mem_append_left _ (List.mem_map.2 ⟨y, hy, ?_⟩)
       have q1 := bc2 hy ht hh f.g.tk hf
       have q2 : y.Id ≠ s.Id := by
        intro e
        have := ag3 f.g.tk.inc y hy s hsm e; subst this
        rcases hal with h | h
        ·exact h
        ·exact h p2
       unfold a09
       rw [if_neg q1, if_neg q2]
theorem bL9 (f : Fit n) (user : Str) (ws : List Str) : Was n host False (bL7 n host user id ws).1 := by
 have R := Was.refl f host False
 unfold bL7
 split
 ·exact R
 ·rename_i t e
  obtain ⟨ht, _⟩ := a89 e
  split
  ·exact R
  ·rename_i hh
   have hh : t.Host = host := Classical.not_not.1 hh
   split
   ·exact R
   ·unfold ci1
    split
    ·split
     ·split
      ·exact ci8 f ht hh _
      ·exact R
     ·exact R
    ·split
     ·exact cs2 f ht hh _ _
     ·split
      ·exact cs3 f ht hh _
      ·exact R
    ·exact R
theorem b92 (f : Fit n) (ht : t ∈ n.Talks) (hh : t.Host = host) {data : Str} : Was n host False (bX1 n t data).1 ∧ ((bX1 n t data).2.2.1 = true → bX1 n t data = (n, 0, true, 0)) := by
 have R := Was.refl f host False
 unfold bX1
 split
 ·exact ⟨R, fun q => by cases q⟩
 ·rename_i s2
  split
  ·exact ⟨R, fun q => by cases q⟩
  ·rename_i s4
   split
   ·exact ⟨R, fun q => by cases q⟩
   ·have s4' := (f.g.tk.rng t ht).s4
    have s3 : t.State = 3 := by omega
    obtain ⟨p, hp, e1, e2, e3, e4⟩ := f.g.tk.pe t ht s3
    have hfd : fdT n.Talks t.Peer = some p := by rw [← e1]; exact bx3 f.g.tk.inc hp
    rw [hfd]
    dsimp only
    split
    ·exact ⟨R, fun _ => rfl⟩
    ·rename_i hl
     have r := f.g.tk.rng p hp
     refine ⟨Was.up f False hp (f' := addT data) (fun _ => ⟨rfl, rfl, rfl, rfl, rfl, rfl, rfl⟩) Iff.rfl ?_ fun x hx hf e => ?_, fun q => by cases q⟩
     ·refine ⟨r.s1, r.s4, r.o0, r.o9, ?_, r.ow, ?_⟩
      ·show (p.Data ++ data).length ≤ 8192
       rw [List.length_append]; omega
      ·intro q
       have q : p.State ≤ 2 := q
       omega
     ·have := ag3 f.g.tk.inc x hx p hp e; subst this
      exact hf.2 t ht e4.symm hh
theorem bX4 (f : Fit n) (ht : t ∈ n.Talks) (hh : t.Host = host) (user data : Str) (ws : List Str) : Was n host False (bn2 n user k t data ws).1 ∧ ((bn2 n user k t data ws).2.2.1 = true → bn2 n user k t data ws = (n, 0, true, 0)) := by
 have R := Was.refl f host False
 unfold bn2
 split
 ·exact ⟨R, fun q => by cases q⟩
 ·split
  ·exact ⟨R, fun q => by cases q⟩
  ·split
   ·split
    ·exact ⟨R, fun q => by cases q⟩
    ·rw [hh]; exact ⟨bL9 f _ _, fun q => by cases q⟩
   ·exact b92 f ht hh
theorem wfI {n : Int} (h : (Lit.int .i64 n).wf = true) : -9223372036854775808 ≤ n ∧ n ≤ 9223372036854775807 := by
 have h2 : IntKind.i64.min ≤ n ∧ n ≤ IntKind.i64.max := by simpa [Lit.wf] using h
 exact h2
theorem Fit.mod (f : Fit n) : Mod n := f.g.mod f.L.db
theorem bn3 {l : List ab2} (h : l.length ≤ 100000) : aP1 l l = some true := by
 unfold aP1
 simp only [decide_true, Bool.not_true, Bool.false_eq_true, if_false]
 refine (bP7 l (fun _ => true) _ (fun i hi => ?_) ?_).trans (by simp)
 ·simp only [aH5, dlt hi, if_true, aa6 hi, Option.bind_some, decide_true, Bool.and_self, Bool.not_true, Bool.false_eq_true, if_false]
  rw [aa7 (by omega)]
 ·simp [aH5]
def smA (a : aa5) : Bool := !(decide ((200 : Int) < (List.length a.Name : Int)) || decide ((200 : Int) < (List.length a.Value : Int)))
def smE (x : aa3) : Bool := !decide ((20 : Int) < (List.length x.Attrs : Int)) && x.Attrs.all smA
def shB (a : aa2) : Bool := ((decide ((List.length a.Net : Int) ≤ 200)) && ((decide ((List.length a.Host : Int) ≤ 200)) && (decide ((List.length a.Service : Int) ≤ 200))))
def smT (t : aa0) : Bool := !(decide ((20 : Int) < (List.length t.Backlog : Int)) || (decide ((10000 : Int) < (List.length t.Data : Int)) || (decide ((200 : Int) < (List.length t.Host : Int)) || (decide ((200 : Int) < (List.length t.Owner : Int)) || (!shB t.Local || !shB t.Remote)))))
def b93 (n : aa1) : Bool := !((decide (30 < (List.length n.Talks : Int))) || (decide (30 < (List.length n.Db : Int)))) && (n.Db.all smE && n.Talks.all smT)
theorem ci9 (n : aa1) : aq0 n = some (b93 n) := by
 unfold aq0 b93
 cases hb : ((decide (30 < (List.length n.Talks : Int))) || (decide (30 < (List.length n.Db : Int)))) with
 | true => rfl
 | false =>
  simp only [Bool.or_eq_false_iff, decide_eq_false_iff_not] at hb
  obtain ⟨b1, b2⟩ := hb
  simp only [Bool.false_eq_true, if_false, Bool.not_false, Bool.true_and]
  have hT : aa9 (fun s => at7 n s) 0 = some (n.Talks.all smT) := by
   refine bP7 n.Talks smT _ (fun i hi => ?_) ?_
   ·simp only [at7, dlt hi, if_true, aa6 hi, Option.bind_some, aJ1, smT]
    rw [aa7 (by omega)]
    rw [show (decide ((List.length n.Talks[i].Local.Net : Int) ≤ 200) && (decide ((List.length n.Talks[i].Local.Host : Int) ≤ 200) && decide ((List.length n.Talks[i].Local.Service : Int) ≤ 200))) = shB n.Talks[i].Local from rfl]
    rw [show (decide ((List.length n.Talks[i].Remote.Net : Int) ≤ 200) && (decide ((List.length n.Talks[i].Remote.Host : Int) ≤ 200) && decide ((List.length n.Talks[i].Remote.Service : Int) ≤ 200))) = shB n.Talks[i].Remote from rfl]
    by_cases q1 : (20 : Int) < (List.length n.Talks[i].Backlog : Int)
    ·simp [q1]
    by_cases q2 : (10000 : Int) < (List.length n.Talks[i].Data : Int)
    ·simp [q2]
    by_cases q3 : (200 : Int) < (List.length n.Talks[i].Host : Int)
    ·simp [q3]
    by_cases q4 : (200 : Int) < (List.length n.Talks[i].Owner : Int)
    ·simp [q4]
    simp only [q1, q2, q3, q4, decide_false, Bool.false_eq_true, if_false, Bool.false_or]
    cases shB n.Talks[i].Local <;> cases shB n.Talks[i].Remote <;> rfl
   ·simp [at7]
  refine (bB1 n.Db smE false (n.Talks.all smT) _ (fun i hi => ?_) ?_).trans ?_
  ·simp only [az5, dlt hi, if_true, aa6 hi, Option.bind_some, smE]
   by_cases ha : (20 : Int) < (List.length n.Db[i].Attrs : Int)
   ·simp [ha]
   ·have hin : aa9 (fun s => at6 n (i : Int) n.Db[i] s) 0 = some (if n.Db[i].Attrs.all smA = true then (Step.cont ((i : Int) + 1) : Step Int Bool) else Step.done false) := by
     refine bB1 n.Db[i].Attrs smA (Step.done false : Step Int Bool) (Step.cont ((i : Int) + 1)) _ (fun k hk => ?_) ?_
     ·simp only [at6, dlt hk, if_true, aa6 hi, aa6 hk, Option.bind_some, smA]
      rw [aa7 (by omega)]
      by_cases q1 : (200 : Int) < (List.length n.Db[i].Attrs[k].Name : Int)
      ·simp [q1]
      by_cases q2 : (200 : Int) < (List.length n.Db[i].Attrs[k].Value : Int)
      ·simp [q1, q2]
      ·simp [q1, q2]
     ·simp only [at6, dge, Bool.false_eq_true, if_false]
      rw [aa7 (by omega)]
    simp only [ha, decide_false, Bool.false_eq_true, if_false, hin, Bool.not_false, Bool.true_and]
  ·simp [az5, hT]
  ·cases n.Db.all smE <;> rfl
theorem cm1 {a : aa2} (h : shB a = true) : bL5 a := by
 unfold shB at h
 simp only [Bool.and_eq_true, decide_eq_true_eq] at h
 exact ⟨by omega, by omega, by omega⟩
theorem b94 (h : b93 n = true) : Lim n ∧ Mod n := by
 unfold b93 at h
 simp only [Bool.and_eq_true, Bool.not_eq_true', Bool.or_eq_false_iff, decide_eq_false_iff_not, List.all_eq_true] at h
 obtain ⟨⟨b1, b2⟩, h1, h2⟩ := h
 have hdb : okX n.Db := by
  refine ⟨by omega, fun x hx => ?_⟩
  have := h1 x hx
  unfold smE at this
  simp only [Bool.and_eq_true, Bool.not_eq_true', decide_eq_false_iff_not, List.all_eq_true] at this
  refine ⟨by omega, fun a ha => ?_⟩
  have := this.2 a ha
  unfold smA at this
  simp only [Bool.not_eq_true', Bool.or_eq_false_iff, decide_eq_false_iff_not] at this
  exact ⟨by omega, by omega⟩
 have ht : ∀ t ∈ n.Talks, t.Backlog.length ≤ 20 ∧ t.Host.length ≤ 200 ∧ shB t.Local = true ∧ shB t.Remote = true := by
  intro t ht
  have := h2 t ht
  unfold smT at this
  simp only [Bool.not_eq_true', Bool.or_eq_false_iff, decide_eq_false_iff_not, Bool.not_eq_false'] at this
  exact ⟨by omega, by omega, this.2.2.2.2.1, this.2.2.2.2.2⟩
 exact ⟨⟨hdb, fun t h => by have := (ht t h).2.1; omega, fun t h => ⟨cm1 (ht t h).2.2.1, cm1 (ht t h).2.2.2⟩⟩, ⟨hdb, by omega, fun t h => by have := (ht t h).1; omega⟩⟩
theorem bF2 {s : Str} (h : s.length ≤ 10000) : ∀ w ∈ aS6 s, w.length ≤ 50000 := by
 intro w hw
 have := by0 s [] w hw
 simp only [List.length_nil] at this
 omega
theorem Was.weak {m : aa1} (h : Was n host True m) (all : Prop) : Was n host all m := ⟨h.fit, fun t ht hf _ => h.far t ht hf (.inl trivial)⟩
def hA : Str := [97]
def hB : Str := [98]
def uA : Str := [97, 110, 110]
def uB : Str := [98, 111, 98]
def dbA : List aa3 := [aa3.mk [aa5.mk [110, 101, 116] [116, 99, 112] false], aa3.mk [aa5.mk [104, 111, 115, 116] [97] false], aa3.mk [aa5.mk [104, 111, 115, 116] [98] false]]
def N0 : aa1 := aa1.mk dbA 1 []
def tcp : Str := [116, 99, 112]
def a80 : aa2 := ⟨tcp, hA, [56, 48]⟩
def a81 : aa2 := ⟨tcp, hA, [56, 49]⟩
def N1 : aa1 := aa1.mk dbA 2 [a56 1 hA uA]
def S1 : aa0 := anT a80 (a56 1 hA uA)
def N2 : aa1 := aa1.mk dbA 2 [S1]
def N3 : aa1 := aa1.mk dbA 3 [S1, a56 2 hB uB]
def N4 : aa1 := ch8 N3 (a56 2 hB uB) S1 a80
def oB : aa2 := aL1 (a56 2 hB uB) a80
def C3 : aa0 := bo9 3 2 oB S1
def T2 : aa0 := opT 3 a80 oB (a56 2 hB uB)
theorem cz6 : N4 = aa1.mk dbA 4 [{ S1 with Backlog := [3] }, T2, C3] := rfl
def N5 : aa1 := aa1.mk dbA 4 [S1, T2, { C3 with Opens := 1 }]
def by1 : Str := [104, 101, 108, 108, 111]
def N6 : aa1 := aa1.mk dbA 4 [S1, T2, { C3 with Opens := 1, Data := by1 }]
theorem cs4 : aC0 = some N0 := rfl
theorem fit0 : Fit N0 := by
 refine ⟨⟨by decide +kernel, by decide, by decide, by decide, fun t h => (nomatch h), ?_⟩, ⟨?_, fun t h => (nomatch h), fun t h => (nomatch h)⟩⟩
 ·exact { inc := .nil, rng := fun t h => (nomatch h), blen := fun t h => (nomatch h), bst := fun t h => (nomatch h), bnd := fun t h => (nomatch h), bc := fun t h => (nomatch h), pe := fun t h => (nomatch h), p0 := fun t h => (nomatch h), an := fun t h => (nomatch h), au := fun t h => (nomatch h), w1 := fun t h => (nomatch h), w2 := fun t h => (nomatch h) }
 ·refine ⟨by decide, fun x hx => ?_⟩
  have hx : x ∈ dbA := hx
  simp only [dbA, List.mem_cons, List.not_mem_nil, or_false] at hx
  rcases hx with rfl | rfl | rfl <;> refine ⟨by simp, fun a ha => ?_⟩ <;> (rw [List.mem_singleton.1 ha]; exact ⟨by simp, by simp⟩)
theorem w3 : (-9223372036854775808 : Int) ≤ 3 ∧ (3 : Int) ≤ 9223372036854775807 := by omega
theorem w2 : (-9223372036854775808 : Int) ≤ 2 ∧ (2 : Int) ≤ 9223372036854775807 := by omega
theorem eC2 : eC 2 = 0 := by decide +kernel
theorem p26 : bL3 2 false 6 = 0 := by decide +kernel
theorem cz7 : aU0 N0 hA uA 2 = (N1, 17, false, 0) := by
 unfold aU0
 rw [eC2]; rfl
theorem fit1 : Fit N1 := by
 have := (bF1 (host := hA) (user := uA) fit0 (by decide) 2).1.fit
 rw [cz7] at this; exact this
def cs5 : Str := [116, 99, 112, 33, 42, 33, 56, 48]
def cx0 : Str := [116, 99, 112, 33, 97, 33, 56, 49]
def cs6 : Str := [116, 99, 112, 33, 97, 33, 56, 48]
theorem cs7 : aS6 [97, 110, 110, 111, 117, 110, 99, 101, 32, 116, 99, 112, 33, 42, 33, 56, 48] = [aX8, cs5] := by decide +kernel
theorem cs8 : aS6 [99, 111, 110, 110, 101, 99, 116, 32, 116, 99, 112, 33, 97, 33, 56, 49] = [aS7, cx0] := by decide +kernel
theorem cs9 : aS6 [99, 111, 110, 110, 101, 99, 116, 32, 116, 99, 112, 33, 97, 33, 56, 48] = [aS7, cs6] := by decide +kernel
theorem tr1 : ap1 dbA hA (a90 (af5 cs5).1) = ([a80], 0) := by kernel_rfl
theorem tr2 : ap1 dbA hB (af5 cx0).1 = ([a81], 0) := by kernel_rfl
theorem tr3 : ap1 dbA hB (af5 cs6).1 = ([a80], 0) := by kernel_rfl
theorem pa1 : (af5 cs5).2 = 0 := by decide +kernel
theorem pa2 : (af5 cx0).2 = 0 := by decide +kernel
theorem pa3 : (af5 cs6).2 = 0 := by decide +kernel
theorem cz8 : bL7 N1 hA uA 1 [aX8, cs5] = (N2, 0) := by
 show bW9 N1 (a56 1 hA uA) cs5 = _
 unfold bW9
 rw [if_neg (by decide), if_neg (by rw [pa1]; decide)]
 unfold bY1
 rw [show ap1 N1.Db (a56 1 hA uA).Host (a90 (af5 cs5).1) = ([a80], 0) from tr1]
 rfl
theorem fit2 : Fit N2 := by
 have := (bL9 (host := hA) (id := 1) fit1 uA [aX8, cs5]).fit
 rw [cz8] at this; exact this
theorem cz9 : aU0 N2 hB uB 2 = (N3, 33, false, 0) := by
 unfold aU0
 rw [eC2]; rfl
theorem cA0 : Fit N3 := by
 have := (bF1 (host := hB) (user := uB) fit2 (by decide) 2).1.fit
 rw [cz9] at this; exact this
theorem file3 : TFile N3 hA 19 S1 0 3 := ⟨rfl, rfl, by omega, by omega, rfl, by decide, by decide⟩
theorem step4 : bp0 N3 19 3 S1 uA 2 = (N3, 0, true, 0) := by
 unfold bp0
 rw [show eT 3 S1 uA 2 = 0 from p26]; rfl
theorem step5 : bL7 N3 hB uB 2 [aS7, cx0] = (N3, 40) := by
 show bL6 N3 (a56 2 hB uB) cx0 = _
 unfold bL6
 rw [if_neg (by decide), if_neg (by rw [pa2]; decide), show ap1 N3.Db (a56 2 hB uB).Host (af5 cx0).1 = ([a81], 0) from tr2]
 rfl
theorem cA1 : bL7 N3 hB uB 2 [aS7, cs6] = (N4, 0) := by
 show bL6 N3 (a56 2 hB uB) cs6 = _
 unfold bL6
 rw [if_neg (by decide), if_neg (by rw [pa3]; decide), show ap1 N3.Db (a56 2 hB uB).Host (af5 cs6).1 = ([a80], 0) from tr3]
 rfl
theorem fit4 : Fit N4 := by
 have := (bL9 (host := hB) (id := 2) cA0 uB [aS7, cs6]).fit
 rw [cA1] at this; exact this
theorem cA2 : TFile N4 hA 19 { S1 with Backlog := [3] } 0 3 := ⟨by rw [cz6]; rfl, rfl, by omega, by omega, rfl, by decide, by decide⟩
theorem cA3 : bp0 N4 19 3 { S1 with Backlog := [3] } uA 2 = (N5, 49, false, 0) := by
 unfold bp0
 rw [show eT 3 { S1 with Backlog := [3] } uA 2 = 0 from p26, cz6]; rfl
theorem fit5 : Fit N5 := by
 have := (b91 (host := hA) (id := 19) (k := 3) fit4 (List.mem_of_getElem? cA2.at_) rfl uA 2).1.fit
 rw [cA3] at this; exact this
theorem cA4 : TFile N5 hB 34 T2 1 2 := ⟨rfl, rfl, by omega, by omega, rfl, by decide, by decide⟩
theorem cA5 : bn2 N5 uB 2 T2 by1 (aS6 by1) = (N6, 5, false, 0) := rfl
theorem fit6 : Fit N6 := by
 have := (bX4 (host := hB) (k := 2) fit5 (List.mem_of_getElem? cA4.at_) rfl uB by1 (aS6 by1)).1.fit
 rw [cA5] at this; exact this
theorem file6 : TFile N6 hA 50 { C3 with Opens := 1, Data := by1 } 2 2 := ⟨rfl, rfl, by omega, by omega, rfl, by decide, by decide⟩
theorem step9 : ∃ m, cs0 N6 2 { C3 with Opens := 1, Data := by1 } 0 9 = (m, by1, false, 0) := ⟨_, rfl⟩
theorem ctlP {n : aa1} {host user line : Str} {id : Int} {ws : List Str} (f : Fit n) (hl : line.length ≤ 10000) (hf : aS6 line = ws) : af7 n host user id line = some (bL7 n host user id ws) :=
 cm0 f.g f.L user (by rw [bw8 (by omega), hf]) (by rw [← hf]; exact bF2 hl)
theorem bX5 : ad9 = some true := by
 have e1 : ah2 N0 [97] [97, 110, 110] 3 2 = some (N1, 17, false, 0) := by rw [← cz7]; exact (bs9 fit0.g fit0.mod w2).1
 have e2 : af7 N1 [97] [97, 110, 110] 1 [97, 110, 110, 111, 117, 110, 99, 101, 32, 116, 99, 112, 33, 42, 33, 56, 48] = some (N2, 0) := by rw [← cz8]; exact ctlP fit1 (by decide) cs7
 have e3 : ah2 N2 [98] [98, 111, 98] 3 2 = some (N3, 33, false, 0) := by rw [← cz9]; exact (bs9 fit2.g fit2.mod w2).1
 have e4 : ah2 N3 [97] [97, 110, 110] 19 2 = some (N3, 0, true, 0) := by rw [← step4]; exact bE6 cA0.g cA0.mod file3 w2
 have e5 : af7 N3 [98] [98, 111, 98] 2 [99, 111, 110, 110, 101, 99, 116, 32, 116, 99, 112, 33, 97, 33, 56, 49] = some (N3, 40) := by rw [← step5]; exact ctlP cA0 (by decide) cs8
 have e6 : af7 N3 [98] [98, 111, 98] 2 [99, 111, 110, 110, 101, 99, 116, 32, 116, 99, 112, 33, 97, 33, 56, 48] = some (N4, 0) := by rw [← cA1]; exact ctlP cA0 (by decide) cs9
 have e7 : ah2 N4 [97] [97, 110, 110] 19 2 = some (N5, 49, false, 0) := by rw [← cA3]; exact bE6 fit4.g fit4.mod cA2 w2
 have e8 : am5 N5 [98] [98, 111, 98] 34 [104, 101, 108, 108, 111] = some (N6, 5, false, 0) := by rw [← cA5]; exact bX2 fit5.g fit5.L cA4 uB (by decide) (fun h => absurd h (by decide)) (bF2 (by decide))
 obtain ⟨m, e9⟩ := step9
 have e9' : ar6 N6 [97] 50 0 9 = some (m, by1, false, 0) := by rw [← e9]; exact b89 fit6.g fit6.L file6 0 9
 have e10 : au2 N6 = some true := by rw [cg5 fit6.mod, bR3.2 fit6.g]
 unfold ad9
 simp only [cs4, e1, e2, e3, e4, e5, e6, e7, e8, e9', e10, Option.bind_some]
 rfl
theorem aX9 (n : aa1) (host : Str) (id : Int) (name : Str) (w0 : a05 n) (w1 : List.length host ≤ maxLen) (w2 : (Lit.int .i64 id).wf = true) (w3 : List.length name ≤ maxLen) : ay5 n host id name = some true := by
 have w := wfI w2
 unfold ay5
 rw [ci9, bX5]
 cases hs : b93 n with
 | false => rfl
 | true =>
  obtain ⟨L, hm⟩ := b94 hs
  rw [bD5 hm]
  by_cases h1 : (200 : Int) < (List.length host : Int)
  ·simp [h1]
  by_cases h2 : (2000 : Int) < (List.length name : Int)
  ·simp [h1, h2]
  cases hr : bm4 n with
  | false => simp [h1, h2]
  | true =>
   have g := bR3.1 hr
   obtain ⟨a, a1, a2⟩ := b75 g host w name
   obtain ⟨b, b1, b2⟩ := b76 g host w
   obtain ⟨c, c1, c2, c3⟩ := b80 g host w
   have hsame := bn3 (l := c.1) (by omega)
   simp only [Option.bind_some, Bool.not_true, Bool.false_eq_true, if_false, h1, h2, decide_false, a1, a2, b1, b2, c1, c2, decide_true, Bool.or_self, Bool.and_self, if_true, hsame]
end Go.Proofs.YtofpfpkjdigabaaGreatDoor
