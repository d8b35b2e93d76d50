import Derived.Test.YtpnaccnofbkhiaaGreatDoorNV
import Derived.Test.YtpnaccnofbkhiaaGreatDoorVmR
import Derived.KernelRfl
namespace Go.Proofs.YtpnaccnofbkhiaaGreatDoor
open Go.Vm
set_option autoImplicit false
set_option linter.unusedVariables false
set_option linter.unusedSimpArgs false
set_option maxRecDepth 100000
variable {n : aa1} {host : Str} {id k : Int} {t : aa0} {i : Nat}
noncomputable def pmS (m : Int) : Int × Int := (aD9 m).getD (0, 0)
noncomputable def bH4 (m : Int) (d : Bool) (g : Int) : Int := if (pmS m).2 ≠ 0 then (pmS m).2 else if d = true ∧ m ≠ 0 then 10 else if 64 ≤ m ∨ gr (pmS m).1 g = true then 11 else 0
theorem aW0 {f : ac2} {user : Str} {m : Int} {d : Bool} {M : Int} {D : aC2} (w : -9223372036854775808 ≤ m ∧ m ≤ 9223372036854775807) (hd : ac7 f = some d) (hm : ai1 f = some M) (ho : at8 n f = some D) :
  al3 n f user m = some (bH4 m d (if user = D.Uid then Int.tmod (IntKind.wrap .i64 (Int.tdiv M 64)) 8 else Int.tmod M 8)) := by
 obtain ⟨a, e, h1⟩ := b18 w
 have hp : pmS m = (a, e) := by unfold pmS; rw [h1]; rfl
 have h8 : ∀ g, aj0 m (a, e) g = some (if 64 ≤ m ∨ gr a g = true then 11 else 0) := by
  intro g
  unfold aj0 gr
  by_cases q : 64 ≤ m
  ·simp [q]
  ·simp only [q, decide_false, Bool.false_or, false_or]
   split <;> rfl
 unfold al3 bH4
 rw [h1, hp]
 simp only [Option.bind_some, hd, hm, ho, h8]
 by_cases he : e = 0
 ·by_cases hdm : d = true ∧ m ≠ 0
  ·simp [he, hdm.1, hdm.2]
  ·have : (d && !decide (m = 0)) = false := by
    rw [Bool.eq_false_iff]; intro q; apply hdm; simpa using q
   simp only [he, decide_true, Bool.not_true, Bool.false_eq_true, if_false, this, ne_eq, not_true_eq_false, hdm]
   by_cases hu : user = D.Uid <;> simp [hu]
 ·simp [he]
def grS (k : Int) (o : Bool) : Int := if k = 0 then 5 else if k ≤ 3 then (if o then 6 else 0) else 4
theorem b19 (k : Int) (o : Bool) : (if o = true then Int.tmod (IntKind.wrap .i64 (Int.tdiv (bH3 k) 64)) 8 else Int.tmod (bH3 k) 8) = grS k o := by
 unfold bH3 grS
 by_cases h0 : k = 0
 ·rw [if_pos h0, if_pos h0]; cases o <;> decide +kernel
 ·rw [if_neg h0, if_neg h0]
  by_cases h3 : k ≤ 3
  ·rw [if_pos h3, if_pos h3]; cases o <;> decide +kernel
  ·rw [if_neg h3, if_neg h3]; cases o <;> decide +kernel
noncomputable def eT (k : Int) (t : aa0) (user : Str) (m : Int) : Int := bH4 m (decide (k = 0)) (grS k (decide (t.Owner = user)))
theorem TFile.permitted (F : TFile n host id t i k) {user : Str} {m : Int} (w : -9223372036854775808 ≤ m ∧ m ≤ 9223372036854775807) : al3 n (ac2.mk id (i : Int) k) user m = some (eT k t user m) := by
 rw [aW0 w F.isDir F.mode F.dirOf]
 unfold eT
 rw [← b19]
 congr 2
 show (if user = t.Owner then _ else _) = _
 by_cases h : t.Owner = user
 ·rw [if_pos h.symm, if_pos (by simp [h])]
 ·rw [if_neg (fun q => h q.symm), if_neg (by simp [h])]
noncomputable def eR (m : Int) : Int := bH4 m true 5
noncomputable def eC (m : Int) : Int := bH4 m false 6
theorem a45 {user : Str} {m : Int} (w : -9223372036854775808 ≤ m ∧ m ≤ 9223372036854775807) : al3 n (ac2.mk 3 (-1) 0) user m = some (eC m) := by
 rw [aW0 (d := false) (M := 438) w rfl rfl (bu2 0)]
 unfold eC
 congr 2
 split <;> decide +kernel
abbrev RO : Type := aa1 × Int × Bool × Int
noncomputable def aM4 (n : aa1) (host user : Str) (m : Int) : RO := if eC m ≠ 0 then (n, 0, false, eC m) else if 32 < user.length then (n, 0, false, 25) else if 64 ≤ n.Talks.length ∨ 1048575 < n.Next then (n, 0, false, 22) else
 (aa1.mk n.Db (n.Next + 1) (n.Talks ++ [aR0 n.Next host user]), 16 * n.Next + 1, false, 0)
def incT (t : aa0) : aa0 := { t with Opens := t.Opens + 1 }
noncomputable def bm5 (n : aa1) (id k : Int) (t : aa0) (user : Str) (m : Int) : RO :=
 if eT k t user m ≠ 0 then (n, 0, false, eT k t user m) else if k = 0 then (n, id, false, 0) else if k = 3 then (if t.State ≠ 2 then (n, 0, false, 43) else match t.Backlog with
  | [] => (n, 0, true, 0)
  | c :: r => (aa1.mk n.Db n.Next (n.Talks.map (a55 t.Id c r)), 16 * c + 1, false, 0))
 else if t.Opens = 0 then (n, 0, false, 43) else if 9007199254740991 ≤ t.Opens then (n, 0, false, 22) else (aa1.mk n.Db n.Next (upT n.Talks t.Id incT), id, false, 0)
theorem bb9 (g : Good n) (hm : Mod n) {user : Str} {m : Int} (w : -9223372036854775808 ≤ m ∧ m ≤ 9223372036854775807) : ag5 n host user 3 m = some (aM4 n host user m) := by
 have hl := g.len
 have n1 := g.n1
 have n9 := g.n9
 have c64 : decide ((64 : Int) ≤ (n.Talks.length : Int)) = decide (64 ≤ n.Talks.length) := by simp; omega
 have c32 : decide ((32 : Int) < (user.length : Int)) = decide (32 < user.length) := by simp; omega
 have e1 : IntKind.wrap .i64 (n.Next + 1) = n.Next + 1 := ah9 (by omega) (by omega)
 have e2 : IntKind.wrap .i64 (IntKind.wrap .i64 (16 * n.Next) + 1) = 16 * n.Next + 1 := by rw [ah9 (n := 16 * n.Next) (by omega) (by omega), ah9 (by omega) (by omega)]
 have a1 : aD4 200 n.Talks [aR0 n.Next host user] = some (n.Talks ++ [aR0 n.Next host user]) := ag4 (by simp; omega) (by simp; omega)
 have a0 : aD4 200 ([] : List aa0) n.Talks = some n.Talks := by rw [ag4 (by simp; omega) (by simp; omega)]; rfl
 ·unfold ag5 aM4
  rw [aA7 hm, show ao6 n host 3 = some (ac2.mk 3 (-1) 0, true) from rfl]
  simp only [Option.bind_some, Bool.not_true, Bool.false_eq_true, if_false, a45 w, show ac7 (ac2.mk 3 (-1) 0) = some false from rfl, decide_true, if_true, c64, c32]
  rw [show (aa0.mk n.Next host user 1 (aa3.mk [] [] []) (aa3.mk [] [] []) 0 [] ([] : List Int) 1) = aR0 n.Next host user from rfl, a1, e1, e2]
  by_cases h : eC m = 0
  ·by_cases h32 : 32 < user.length
   ·simp [h, h32]
   ·by_cases h64 : 64 ≤ n.Talks.length
    ·simp [h, h32, h64]
    ·by_cases hn : 1048575 < n.Next <;> simp [h, h32, h64, hn]
  ·simp [h]
theorem ci0 {l : List aa0} {a c : Int} {r : List Int} (hac : a ≠ c) : upT (upT l a fun t => { t with Backlog := r }) c (fun t => { t with Opens := 1 }) = l.map (a55 a c r) := by
 unfold upT
 rw [List.map_map]
 apply List.map_congr_left
 intro x hx
 show (if (if x.Id = a then ({ x with Backlog := r } : aa0) else x).Id = c then ({ (if x.Id = a then ({ x with Backlog := r } : aa0) else x) with Opens := 1 } : aa0) else (if x.Id = a then ({ x with Backlog := r } : aa0) else x)) = a55 a c r x
 unfold a55
 by_cases h1 : x.Id = a
 ·rw [if_pos h1, if_pos h1, if_neg (by show ¬ x.Id = c; omega)]
 ·rw [if_neg h1, if_neg h1]
theorem b20 {l : List aa0} (hi : l.Pairwise fun a b => a.Id < b.Id) {a : Int} {f : aa0 → aa0} (hf : ∀ t, (f t).Id = t.Id) {u : aa0} (hu : u ∈ l) (hne : u.Id ≠ a) :
  ∃ j : Nat, j < (upT l a f).length ∧ ixT (upT l a f) u.Id = (j : Int) ∧ (upT l a f)[j]? = some u := by
 have hm : u ∈ upT l a f := by
  unfold upT
  refine List.mem_map.2 ⟨u, hu, by rw [if_neg hne]⟩
 obtain ⟨j, j1, j2, j3, j4⟩ := as8 (bu1 (bm3 hf hi) hm)
 exact ⟨j, j1, j2, j3⟩
theorem cut1 {c : Int} {r : List Int} : cut (c :: r) 1 ((c :: r).length : Int) = some r := by
 have := aX8 (l := c :: r) (a := 1) (by simp)
 simpa using this
theorem GoodT.head {l : List aa0} (G : GoodT l) (ht : t ∈ l) {c : Int} {r : List Int} (hb : t.Backlog = c :: r) : ∃ u ∈ l, u.Id = c ∧ t.Id ≠ c := by
 obtain ⟨u, hu, e, _⟩ := G.bc t ht c (by rw [hb]; simp)
 refine ⟨u, hu, e, fun q => ?_⟩
 have := G.self ht
 rw [hb, q] at this
 simp at this
theorem bS5 (g : Good n) (hmod : Mod n) (F : TFile n host id t i k) {user : Str} {m : Int} (w : -9223372036854775808 ≤ m ∧ m ≤ 9223372036854775807) : ag5 n host user id m = some (bm5 n id k t user m) := by
 have h := F.big
 have h3 : ¬ id = 3 := by omega
 have ht := List.mem_of_getElem? F.at_
 have r := g.tk.rng t ht
 have hbl := g.tk.blen t ht
 have ids := g.tk.inc
 unfold ag5 bm5
 rw [aA7 hmod, F.look g]
 simp only [Option.bind_some, Bool.not_true, Bool.false_eq_true, if_false, F.permitted w, F.isDir, h3, decide_false, ak1 F.at_, Int.toNat_natCast]
 generalize eT k t user m = e
 by_cases he : e = 0
 ·by_cases h0 : k = 0
  ·simp [he, h0]
  ·by_cases hk3 : k = 3
   ·by_cases h2 : t.State = 2
    ·cases hb : t.Backlog with
     | nil => simp [he, hk3, h2]
     | cons c rr =>
      obtain ⟨u, hu, eu, hne⟩ := g.tk.head ht hb
      have hl0 : ¬ (((c :: rr).length : Int) = 0) := by simp; omega
      have hrl : rr.length ≤ 8 := by rw [hb] at hbl; simp at hbl; omega
      have hset : List.set n.Talks i (aa0.mk t.Id t.Host t.Owner t.State t.Local t.Remote t.Peer t.Data rr t.Opens) = upT n.Talks t.Id (fun t => { t with Backlog := rr }) := aG9 (f := fun t => { t with Backlog := rr }) ids F.at_
      obtain ⟨j, j1, j2, j3⟩ := b20 (f := fun t => ({ t with Backlog := rr } : aa0)) ids (fun _ => rfl) hu (by rw [eu]; exact fun q => hne q.symm)
      rw [h2] at hset
      have hcl : ac6 rr = some rr := by
       unfold ac6
       rw [ag4 (by simp; omega) (by simp; omega)]; rfl
      have hset2 : List.set (upT n.Talks t.Id (fun t => { t with Backlog := rr })) j (aa0.mk u.Id u.Host u.Owner u.State u.Local u.Remote u.Peer u.Data u.Backlog 1) = n.Talks.map (a55 t.Id c rr) := by
       have := aG9 (f := fun t => { t with Opens := 1 }) (bm3 (f := fun t => ({ t with Backlog := rr } : aa0)) (fun _ => rfl) ids) j3
       rw [← ci0 hne, ← eu]; exact this
      obtain ⟨q1, q2⟩ := g.idr u hu
      have := g.n9
      have hw : IntKind.wrap .i64 (IntKind.wrap .i64 (16 * c) + 1) = 16 * c + 1 := by rw [ah9 (n := 16 * c) (by omega) (by omega), ah9 (by omega) (by omega)]
      have hlen : (upT n.Talks t.Id (fun t => ({ t with Backlog := rr } : aa0))).length ≤ 100000 := by rw [bz9]; exact g.hl
      simp only [he, hk3, h2, decide_true, Bool.not_true, Bool.false_eq_true, if_false, if_true, decide_eq_false hl0, show ad5 (c :: rr) 0 = some c from rfl, cut1, hcl, Option.bind_some, hset, hw, ne_eq, not_true_eq_false, show ¬ ((3 : Int) = 0) by decide, decide_false]
      rw [aG6 (n := aa1.mk n.Db n.Next (upT n.Talks t.Id (fun t => { t with Backlog := rr }))) hlen, Option.bind_some]
      simp only [eu ▸ j2, ak1 j3, Option.bind_some, Int.toNat_natCast, hset2]
    ·simp [he, hk3, h2]
   ·by_cases ho : t.Opens = 0
    ·simp [he, h0, hk3, ho]
    ·have o0 := r.o0
     by_cases h9 : 9007199254740991 ≤ t.Opens
     ·simp [he, h0, hk3, ho, h9]
     ·have e1 : IntKind.wrap .i64 (t.Opens + 1) = t.Opens + 1 := ah9 (by omega) (by omega)
      have hset : List.set n.Talks i (aa0.mk t.Id t.Host t.Owner t.State t.Local t.Remote t.Peer t.Data t.Backlog (t.Opens + 1)) = upT n.Talks t.Id incT := aG9 (f := incT) ids F.at_
      simp [he, h0, hk3, ho, h9, e1, hset]
 ·simp [he]
def bH5 (a : aa3) : Prop := a.Net.length ≤ 10000 ∧ a.Host.length ≤ 10000 ∧ a.Service.length ≤ 10000
structure Lim (n : aa1) : Prop where
 db : okX n.Db
 ho : ∀ t ∈ n.Talks, t.Host.length ≤ 1000
 ad : ∀ t ∈ n.Talks, bH5 t.Local ∧ bH5 t.Remote
theorem okX.okT {l : List aa2} (h : okX l) : okT l := ⟨⟨by have := h.1; omega, fun x hx => by have := (h.2 x hx).1; omega⟩, fun x hx a ha => ((h.2 x hx).2 a ha).2⟩
theorem aN8 {s more : Str} {most : Nat} (h : ak4 s more most = true) : s.length ≤ most := by
 unfold ak4 at h
 simp only [Bool.and_eq_true, decide_eq_true_eq] at h
 exact h.2.1
theorem aJ2 {a : aa3} (h : am7 a = true) : a.Net.length ≤ 32 ∧ a.Host.length ≤ 64 ∧ a.Service.length ≤ 32 := by
 unfold am7 bR1 ce2 aH0 at h
 simp only [Bool.and_eq_true, Bool.or_eq_true, decide_eq_true_eq] at h
 obtain ⟨⟨h1, _⟩, h2, h3⟩ := h
 refine ⟨aN8 h1, ?_, ?_⟩
 ·rcases h2 with h2 | h2
  ·rw [h2]; simp
  ·exact aN8 h2
 ·rcases h3 with h3 | h3
  ·rw [h3]; simp
  ·exact aN8 h3
theorem a47 {s : Str} (h : (ae8 s).2 = 0) : am7 (ae8 s).1 = true := by
 unfold ae8 at h ⊢
 split
 ·rename_i n h' e
  rw [e] at h
  by_cases q : am7 ⟨n, h', []⟩ = true
  ·simp [q]
  ·simp [q, bl1] at h
 ·rename_i n h' v e
  rw [e] at h
  by_cases q : (am7 ⟨n, h', v⟩ && !decide (v = [])) = true
  ·rw [if_pos q]; exact (Bool.and_eq_true_iff.1 q).1
  ·simp [q, bl1] at h
 ·rename_i h1 h2
  split at h
  ·rename_i e; exact absurd e (h1 _ _)
  ·rename_i e; exact absurd e (h2 _ _ _)
  ·simp [bl1] at h
theorem bg3 {l : List Str} (h : ∀ v ∈ l, v.length ≤ 5000) : (am8 l).length ≤ 5000 := by
 induction l with
 | nil => simp [am8]
 | cons a r ih =>
  unfold am8
  split
  ·exact h a (by simp)
  ·exact ih fun v hv => h v (List.mem_cons_of_mem _ hv)
theorem bm6 {l : List aa2} {net svc : Str} (h : okT l) (hs : svc.length ≤ 5000) : (a77 l net svc).length ≤ 5000 := by
 unfold a77
 split
 ·exact hs
 ·exact bg3 (aA5 h)
theorem bS6 {l : List aa2} {net svc : Str} (h : okT l) (hs : svc.length ≤ 5000) : (ax8 l net svc).length ≤ 5000 := by
 unfold ax8
 split
 ·split
  ·simp
  ·rename_i x r e
   exact bm6 h (aA5 h x (by rw [e]; simp))
 ·exact bm6 h hs
theorem bm7 {l : List aa2} {host name : Str} (h : okT l) (hh : host.length ≤ 1000) : ∀ v ∈ aw3 l host name, v.length ≤ 5000 := by
 intro v hv
 unfold aw3 at hv
 split at hv
 ·rename_i e; rw [List.mem_singleton.1 hv, e]; simp
 ·split at hv
  ·split at hv
   ·rw [List.mem_singleton.1 hv]; omega
   ·cases hv
  ·split at hv
   ·rename_i hc
    rw [List.mem_singleton.1 hv]
    exact aT7 h _ (List.contains_iff_mem.1 hc)
   ·exact aA5 h v (List.mem_filter.1 hv).1
theorem bm8 {l : List aa2} {host : Str} {a : aa3} (h : okT l) (hh : host.length ≤ 1000) : ∀ x ∈ (ah8 l host a).1, bH5 x := by
 intro x hx
 unfold ah8 at hx
 split at hx
 ·cases hx
 ·rename_i hv
  have hv := aJ2 (Bool.not_eq_false _ ▸ hv)
  split at hx
  ·cases hx
  ·split at hx
   ·cases hx
   ·split at hx
    ·cases hx
    ·obtain ⟨n, hn, hx⟩ := List.mem_flatMap.1 hx
     unfold am6 at hx
     split at hx
     ·cases hx
     ·obtain ⟨ho, hho, rfl⟩ := List.mem_map.1 hx
      have h1 := (bl3 hn).1
      have h2 := aT7 h _ h1
      have h3 := bm7 h hh _ hho
      have h4 := bS6 (net := n) h (show a.Service.length ≤ 5000 by omega)
      exact ⟨by show n.length ≤ _; omega, by show ho.length ≤ _; omega, by show (ax8 l n a.Service).length ≤ _; omega⟩
theorem b21 {l : List aa2} {host : Str} {a : aa3} (h : okT l) : (ah8 l host a).1.length ≤ 1000000 := by
 have hn := bl6 (name := a.Net) h.1
 have hh := bb7 (host := host) (name := a.Host) h.1
 have := bf6 (l := l) (svc := a.Service) hh (aA6 l a.Net)
 have h3 : (aA6 l a.Net).length * 1000 ≤ 1000 * 1000 := Nat.mul_le_mul_right _ hn
 unfold ah8
 split
 ·simp
 ·split
  ·simp
  ·split
   ·simp
   ·split
    ·simp
    ·exact Nat.le_trans this (by omega)
def b22 (n : aa1) (t : aa0) (a : aa3) : aa1 × Int :=
 if (ah8 n.Db t.Host a).2 ≠ 0 then (n, (ah8 n.Db t.Host a).2) else match (ah8 n.Db t.Host a).1 with
 | [] => (n, 38)
 | x :: _ => if x.Host ≠ t.Host then (n, 38) else if n.Talks.any (bI8 t.Id t.Host x) = true then (n, 41) else (aa1.mk n.Db n.Next (upT n.Talks t.Id (anT x)), 0)
def aW5 (a : aa3) : aa3 := if a.Host = [42] then ⟨a.Net, a73, a.Service⟩ else a
def bH6 (n : aa1) (t : aa0) (w : Str) : aa1 × Int :=
 if t.State ≠ 1 then (n, 43) else if (ae8 w).2 ≠ 0 then (n, (ae8 w).2) else b22 n t (aW5 (ae8 w).1)
theorem cb8 (g : Good n) (L : Lim n) (h : n.Talks[i]? = some t) {a : aa3} (h1 : a.Net.length ≤ 1000000) (h2 : a.Host.length ≤ 1000000) (h3 : a.Service.length ≤ 1000000) :
  ag6 n (i : Int) t a = some (b22 n t a) := by
 have hi : i < n.Talks.length := (List.getElem?_eq_some_iff.1 h).1
 have hh := L.ho t (List.mem_of_getElem? h)
 have hT := L.db.okT
 have len0 : ∀ (x : aa3) (r : List aa3), ¬ (((x :: r).length : Int) = 0) := by intro x r; simp; omega
 ·unfold ag6 b22
  rw [aV7 hT h3]
  simp only [Option.bind_some]
  by_cases he : (ah8 n.Db t.Host a).2 = 0
  ·cases hl : (ah8 n.Db t.Host a).1 with
   | nil => simp [he]
   | cons x r =>
    have e0 : ad5 (x :: r) 0 = some x := rfl
    have hset : List.set n.Talks i (aa0.mk t.Id t.Host t.Owner 2 x t.Remote t.Peer t.Data t.Backlog t.Opens) = upT n.Talks t.Id (anT x) := aG9 (f := anT x) g.tk.inc h
    simp only [he, decide_true, Bool.not_true, Bool.false_eq_true, if_false, ne_eq, not_true_eq_false, decide_eq_false (len0 x r), e0, Option.bind_some, b11 g.hl, bz2, ak1 h, Int.toNat_natCast, aY2 hi, List.set_set, hset]
    by_cases hx : x.Host = t.Host
    ·by_cases ha : n.Talks.any (bI8 t.Id t.Host x) = true
     ·simp [hx, ha]
     ·simp [hx, ha]
    ·simp [hx]
  ·simp [he]
theorem cb9 (g : Good n) (L : Lim n) (h : n.Talks[i]? = some t) {w : Str} (hw : w.length ≤ 50000) : aq4 n (i : Int) w = some (bH6 n t w) := by
 have key : (ae8 w).2 = 0 → ag6 n (i : Int) t (aW5 (ae8 w).1) = some (b22 n t (aW5 (ae8 w).1)) := by
  intro h0
  have hv := aJ2 (a47 h0)
  have : (aW5 (ae8 w).1).Net.length ≤ 32 ∧ (aW5 (ae8 w).1).Host.length ≤ 64 ∧ (aW5 (ae8 w).1).Service.length ≤ 32 := by
   unfold aW5; split
   ·exact ⟨hv.1, by simp [a73], hv.2.2⟩
   ·exact hv
  exact cb8 g L h (by omega) (by omega) (by omega)
 have hs : ∀ {β : Type} (f : aa3 → β), (if (decide ((ae8 w).1.Host = [42])) = true then f (aa3.mk (ae8 w).1.Net [115, 101, 108, 102] (ae8 w).1.Service) else f (ae8 w).1) = f (aW5 (ae8 w).1) := by
  intro β f
  unfold aW5 a73
  by_cases q : (ae8 w).1.Host = [42] <;> simp [q]
 ·unfold aq4 bH6
  rw [ak1 h, bR2 hw]
  simp only [Option.bind_some, hs]
  by_cases h1 : t.State = 1
  ·by_cases h2 : (ae8 w).2 = 0
   ·simp [h1, h2, (key h2)]
   ·simp [h1, h2]
  ·simp [h1]
def bH7 (a : aa3) (x : aa0) : Bool := decide (x.Host = a.Host) && (decide (x.State = 2) && (decide (x.Local.Net = a.Net) && (decide (x.Local.Service = a.Service) && decide (x.Backlog.length < 8))))
def aR2 (t : aa0) (a : aa3) : aa3 := ⟨a.Net, t.Host, Go.Lib.itoa (32768 + t.Id)⟩
def cc0 (n : aa1) (t s : aa0) (a : aa3) : aa1 := aa1.mk n.Db (n.Next + 1) (n.Talks.map (aR1 t.Id s.Id n.Next a (aR2 t a)) ++ [a78 n.Next t.Id (aR2 t a) s])
def aT9 (n : aa1) (t : aa0) : List aa3 → aa1 × Int
 | [] => (n, 40)
 | a :: r => match n.Talks.find? (bH7 a) with
  | some s => (cc0 n t s a, 0)
  | none => aT9 n t r
def bS7 (n : aa1) (t : aa0) (w : Str) : aa1 × Int :=
 if t.State ≠ 1 then (n, 43) else if (ae8 w).2 ≠ 0 then (n, (ae8 w).2) else if (ah8 n.Db t.Host (ae8 w).1).2 ≠ 0 then (n, (ah8 n.Db t.Host (ae8 w).1).2)
 else if 64 ≤ n.Talks.length ∨ 1048575 < n.Next then (n, 22) else aT9 n t (ah8 n.Db t.Host (ae8 w).1).1
theorem ci1 (x : aa0) (a : aa3) : aj4 x a.Host a = some (bH7 a x) := by
 unfold aj4 aA2 bH7
 have e : decide ((x.Backlog.length : Int) < 8) = decide (x.Backlog.length < 8) := by simp; omega
 rw [e]
 cases decide (x.Host = a.Host) <;> cases decide (x.State = 2) <;> cases decide (x.Local.Net = a.Net) <;> cases decide (x.Local.Service = a.Service) <;> rfl
theorem b23 (hl : n.Talks.length ≤ 100000) (a : aa3) : ai4 n a.Host a = some (aO2 (bH7 a) n.Talks) := by
 unfold ai4
 rw [a35]
 unfold ad1
 refine aG5 (by omega) ?_ ?_
 ·intro i hi
  simp only [ab0, dlt hi, if_true, ac1 hi, Option.bind_some, ci1]
 ·simp [ab0]
theorem ci2 {l : List aa0} {x y : Int} (hxy : x ≠ y) (nx : Int) (a b : aa3) : upT (upT l y fun t => { t with Backlog := t.Backlog ++ [nx] }) x (opT nx a b) = l.map (aR1 x y nx a b) := by
 unfold upT
 rw [List.map_map]
 apply List.map_congr_left
 intro u hu
 show (if (if u.Id = y then ({ u with Backlog := u.Backlog ++ [nx] } : aa0) else u).Id = x then opT nx a b (if u.Id = y then ({ u with Backlog := u.Backlog ++ [nx] } : aa0) else u) else (if u.Id = y then ({ u with Backlog := u.Backlog ++ [nx] } : aa0) else u)) = aR1 x y nx a b u
 unfold aR1
 by_cases h1 : u.Id = y
 ·rw [if_pos h1, if_neg (by show ¬ u.Id = x; omega), if_neg (by omega)]
 ·rw [if_neg h1]
theorem cc1 (g : Good n) (L : Lim n) (h : n.Talks[i]? = some t) {w : Str} (hw : w.length ≤ 50000) : an3 n (i : Int) w = some (bS7 n t w) := by
 have hi : i < n.Talks.length := (List.getElem?_eq_some_iff.1 h).1
 have ht := List.mem_of_getElem? h
 have hh := L.ho t ht
 have hT := L.db.okT
 have hl := g.len
 have n1 := g.n1
 have n9 := g.n9
 obtain ⟨id1, id2⟩ := g.idr t ht
 have c64 : decide ((64 : Int) ≤ (n.Talks.length : Int)) = decide (64 ≤ n.Talks.length) := by simp; omega
 have e1 : IntKind.wrap .i64 (n.Next + 1) = n.Next + 1 := ah9 (by omega) (by omega)
 have e2 : IntKind.wrap .i64 (32768 + t.Id) = 32768 + t.Id := ah9 (by omega) (by omega)
 have loopP : t.State = 1 → ∀ (x5 : List aa3 × Int), x5.1.length ≤ 1000000 → ae5 (fun s => ag3 n (i : Int) t x5 s) 0 = some (aT9 n t x5.1) := by
  intro hs1 x5 hx
  refine (af8 (σ := Unit) x5.1.length (fun _ j => j) _ (fun j _ => aT9 n t (x5.1.drop j)) (fun _ _ => True) (s0 := ()) trivial ?_ ?_).trans (by simp)
  ·intro _ j hj _
   rw [List.drop_eq_getElem_cons hj, aT9]
   simp only [ag3, dlt hj, if_true, ac1 hj, Option.bind_some, b23 g.hl]
   cases hf : n.Talks.find? (bH7 x5.1[j]) with
   | none =>
    left
    refine ⟨(), ?_, rfl, trivial⟩
    rw [bR4 hf, if_pos (by decide), ad2 (by omega)]
   | some s =>
    right
    obtain ⟨m, m1, m2, m3, m4⟩ := bt9 hf
    have hs := List.mem_of_getElem? m3
    have m4' := m4
    unfold bH7 at m4'
    simp only [Bool.and_eq_true, decide_eq_true_eq] at m4'
    have hne : t.Id ≠ s.Id := by
     intro q
     have := af1 g.tk.inc t ht s hs q
     rw [← this] at m4'; omega
    have b1 : aD4 8 s.Backlog [n.Next] = some (s.Backlog ++ [n.Next]) := ag4 (by simp; omega) (by simp; omega)
    have hset : List.set n.Talks m (aa0.mk s.Id s.Host s.Owner s.State s.Local s.Remote s.Peer s.Data (s.Backlog ++ [n.Next]) s.Opens) = upT n.Talks s.Id (fun t => { t with Backlog := t.Backlog ++ [n.Next] }) := aG9 (f := fun t => { t with Backlog := t.Backlog ++ [n.Next] }) g.tk.inc m3
    have hat : (upT n.Talks s.Id (fun t => ({ t with Backlog := t.Backlog ++ [n.Next] } : aa0)))[i]? = some t := by rw [ch7 h, if_neg hne]
    have hset2 : List.set (upT n.Talks s.Id (fun t => ({ t with Backlog := t.Backlog ++ [n.Next] } : aa0))) i (aa0.mk t.Id t.Host t.Owner 3 (aR2 t x5.1[j]) x5.1[j] n.Next t.Data t.Backlog t.Opens) = n.Talks.map (aR1 t.Id s.Id n.Next x5.1[j] (aR2 t x5.1[j])) := by
     rw [← ci2 hne]
     exact aG9 (f := opT n.Next x5.1[j] (aR2 t x5.1[j])) (bm3 (f := fun t => ({ t with Backlog := t.Backlog ++ [n.Next] } : aa0)) (fun _ => rfl) g.tk.inc) hat
    have h0 : decide ((m : Int) < 0) = false := by simp
    rw [m2]
    simp only [h0, Bool.false_eq_true, if_false, ak1 m3, Option.bind_some, b1, e2, aN7 (show -9223372036854775808 ≤ 32768 + t.Id by omega) (show 32768 + t.Id ≤ 9223372036854775807 by omega), Int.toNat_natCast, hset, ak1 hat, e1]
    rw [show (aa3.mk x5.1[j].Net t.Host (Go.Lib.itoa (32768 + t.Id))) = aR2 t x5.1[j] from rfl, hset2, ag4 (by simp; omega) (by simp; omega)]
    rfl
  ·intro _ _
   simp [ag3, aT9]
 have hv : (ae8 w).2 = 0 → (ae8 w).1.Net.length ≤ 1000000 ∧ (ae8 w).1.Host.length ≤ 1000000 ∧ (ae8 w).1.Service.length ≤ 1000000 := by
  intro h0
  have := aJ2 (a47 h0)
  omega
 ·unfold an3 bS7
  rw [ak1 h, bR2 hw]
  simp only [Option.bind_some, c64]
  by_cases h1 : t.State = 1
  ·by_cases h2 : (ae8 w).2 = 0
   ·rw [aV7 hT (hv h2).2.2, Option.bind_some]
    rw [loopP h1 _ (b21 hT)]
    by_cases h3 : (ah8 n.Db t.Host (ae8 w).1).2 = 0
    ·by_cases h4 : 64 ≤ n.Talks.length
     ·simp [h1, h2, h3, h4]
     ·by_cases h5 : 1048575 < n.Next <;> simp [h1, h2, h3, h4, h5]
    ·simp [h1, h2, h3]
   ·simp [h1, h2]
  ·simp [h1]
def aj6 : Str := [97, 110, 110, 111, 117, 110, 99, 101]
def ax9 : Str := [99, 111, 110, 110, 101, 99, 116]
def bu3 : Str := [104, 97, 110, 103, 117, 112]
def b24 (n : aa1) (t : aa0) : aa1 := aa1.mk n.Db n.Next (hangS n.Talks t)
def bm9 (n : aa1) (t : aa0) : List Str → aa1 × Int
 | [w] => if w = bu3 then (if t.State = 3 ∨ t.State = 2 then (b24 n t, 0) else (n, 43)) else (n, 54)
 | [w, x] => if w = aj6 then bH6 n t x else if w = ax9 then bS7 n t x else (n, 54)
 | _ => (n, 54)
def a79 (n : aa1) (host user : Str) (id : Int) (ws : List Str) : aa1 × Int := match fdT n.Talks id with
 | none => (n, 8)
 | some t => if t.Host ≠ host then (n, 8) else if t.Owner ≠ user then (n, 11) else bm9 n t ws
theorem b25 {a : aa3} (h : (b22 n t a).2 ≠ 0) : (b22 n t a).1 = n := by
 unfold b22 at h ⊢
 split
 ·rfl
 ·rename_i h1
  rw [if_neg h1] at h
  split
  ·rfl
  ·rename_i x r e
   rw [e] at h
   dsimp only at h
   split
   ·rfl
   ·rename_i h2
    rw [if_neg h2] at h
    split
    ·rfl
    ·rename_i h3
     rw [if_neg h3] at h; exact absurd rfl h
theorem bA2 {w : Str} (h : (bH6 n t w).2 ≠ 0) : (bH6 n t w).1 = n := by
 unfold bH6 at h ⊢
 split
 ·rfl
 ·rename_i h1
  rw [if_neg h1] at h
  split
  ·rfl
  ·rename_i h2
   rw [if_neg h2] at h
   exact b25 h
theorem bS8 {l : List aa3} (h : (aT9 n t l).2 ≠ 0) : (aT9 n t l).1 = n := by
 induction l with
 | nil => rfl
 | cons a r ih =>
  unfold aT9 at h ⊢
  split
  ·rename_i s e
   rw [e] at h; exact absurd rfl h
  ·rename_i e
   rw [e] at h; exact ih h
theorem bA3 {w : Str} (h : (bS7 n t w).2 ≠ 0) : (bS7 n t w).1 = n := by
 unfold bS7 at h ⊢
 split
 ·rfl
 ·rename_i h1
  rw [if_neg h1] at h
  split
  ·rfl
  ·rename_i h2
   rw [if_neg h2] at h
   split
   ·rfl
   ·rename_i h3
    rw [if_neg h3] at h
    split
    ·rfl
    ·rename_i h4
     rw [if_neg h4] at h
     exact bS8 h
theorem b26 {ws : List Str} (h : (bm9 n t ws).2 ≠ 0) : (bm9 n t ws).1 = n := by
 unfold bm9 at h ⊢
 split
 ·dsimp only at h
  split
  ·rename_i h1
   rw [if_pos h1] at h
   split
   ·rename_i h2
    rw [if_pos h2] at h; exact absurd rfl h
   ·rfl
  ·rfl
 ·dsimp only at h
  split
  ·rename_i h1
   rw [if_pos h1] at h; exact bA2 h
  ·rename_i h1
   rw [if_neg h1] at h
   split
   ·rename_i h2
    rw [if_pos h2] at h; exact bA3 h
   ·rfl
 ·rfl
theorem bn0 (hm : Mod n) {r : aa1 × Int} (h : r.2 ≠ 0 → r.1 = n) : ac8 n r.2 r.1.Db r.1.Next r.1.Talks = some r := by
 unfold ac8
 rw [aA7 hm]
 by_cases q : r.2 = 0
 ·simp only [q, decide_true, Bool.not_true, Bool.false_eq_true, if_false]
  rw [cb4, ← q]
 ·simp only [q, decide_false, Bool.not_false, if_true, Option.bind_some]
  rw [← h q]
theorem bg4 : ∀ (s cur : Str), ∀ w ∈ bb8 cur s, w.length ≤ cur.length + s.length
 | [], cur, w, h => by
  rw [bf9] at h
  split at h
  ·cases h
  ·rw [List.mem_singleton.1 h]; simp
 | c :: r, cur, w, h => by
  cases hc : bg6 c with
  | true =>
   rw [aY1 hc] at h
   rcases List.mem_append.1 h with h | h
   ·split at h
    ·cases h
    ·rw [List.mem_singleton.1 h]; simp
   ·have := bg4 r [] w h
    simp at this ⊢; omega
  | false =>
   rw [bt8 hc] at h
   have := bg4 r (cur ++ [c]) w h
   simp at this ⊢; omega
theorem b60 (g : Good n) (L : Lim n) (user : Str) {line : Str} {ws : List Str} (hf : at9 line = some ws) (hw : ∀ w ∈ ws, w.length ≤ 50000) : ae3 n host user id line = some (a79 n host user id ws) := by
 have hm : Mod n := g.mod L.db
 unfold ae3 a79
 rw [aG6 g.hl, Option.bind_some]
 cases hfd : fdT n.Talks id with
 | none => rw [aQ9 hfd]; simp [aA7 hm]
 | some t =>
  obtain ⟨i, i1, i2, i3, i4⟩ := as8 hfd
  obtain ⟨ht, hid⟩ := bm2 hfd
  have h0 : decide ((i : Int) < 0) = false := by simp
  rw [i2]
  simp only [h0, Bool.false_eq_true, if_false, ak1 i3, Option.bind_some, aA7 hm, hf]
  by_cases hh : t.Host = host
  ·by_cases ho : t.Owner = user
   ·simp only [hh, ho, decide_true, Bool.not_true, Bool.false_eq_true, if_false, ne_eq, not_true_eq_false]
    have k54 : ac8 n 54 n.Db n.Next n.Talks = some (n, 54) := bn0 hm (r := (n, 54)) (fun _ => rfl)
    have k43 : ac8 n 43 n.Db n.Next n.Talks = some (n, 43) := bn0 hm (r := (n, 43)) (fun _ => rfl)
    cases ws with
    | nil => simp [bm9, k54]
    | cons w r =>
     cases r with
     | nil =>
      have l1 : (List.length [w] : Int) = 1 := rfl
      have hu := b17 g.inv ht (g.tk.waits ht)
      rw [hid] at hu
      have k0 : ac8 n 0 n.Db n.Next (hangS n.Talks t) = some (b24 n t, 0) := bn0 hm (r := (b24 n t, 0)) (fun q => absurd rfl q)
      simp only [l1, show decide ((1 : Int) = 2) = false from rfl, Bool.false_eq_true, if_false, Option.bind_some, decide_true, if_true, show ad5 [w] 0 = some w from rfl, hu, bm9, bu3]
      by_cases hw1 : w = [104, 97, 110, 103, 117, 112]
      ·by_cases s3 : t.State = 3
       ·simp [hw1, s3, k0]
       ·by_cases s2 : t.State = 2
        ·simp [hw1, s2, k0]
        ·simp [hw1, s3, s2, k43]
      ·simp [hw1, k54]
     | cons x r =>
      cases r with
      | nil =>
       have l2 : (List.length [w, x] : Int) = 2 := rfl
       have hx := hw x (by simp)
       have ka := bn0 hm (r := bH6 n t x) bA2
       have kc := bn0 hm (r := bS7 n t x) bA3
       simp only [l2, decide_true, if_true, show ad5 [w, x] 0 = some w from rfl, show ad5 [w, x] 1 = some x from rfl, Option.bind_some, (cb9 g L i3 hx), (cc1 g L i3 hx), ka, kc, bm9, aj6, ax9, show decide ((2 : Int) = 1) = false from rfl, Bool.false_eq_true, if_false, k54]
       by_cases w1 : w = [97, 110, 110, 111, 117, 110, 99, 101]
       ·simp [w1]
       ·by_cases w2 : w = [99, 111, 110, 110, 101, 99, 116]
        ·simp [w2]
        ·simp [w1, w2]
      | cons y r =>
       have l2 : ¬ ((List.length (w :: x :: y :: r) : Int) = 2) := by simp; omega
       have l1 : ¬ ((List.length (w :: x :: y :: r) : Int) = 1) := by simp; omega
       simp only [decide_eq_false l2, decide_eq_false l1, Bool.false_eq_true, if_false, Option.bind_some, k54, bm9]
   ·simp [hh, ho]
  ·simp [hh]
abbrev RR : Type := aa1 × Str × Bool × Int
def bS9 (s : Str) (off cnt : Int) : Str := (s.drop off.toNat).take cnt.toNat
def bT0 (s : Int) : Str := if s = 1 then [105, 100, 108, 101] else if s = 2 then [97, 110, 110, 111, 117, 110, 99, 101, 100] else if s = 3 then [111, 112, 101, 110] else [104, 117, 110, 103, 117, 112]
def bH8 (t : aa0) (k : Int) : Str := if k = 1 then Go.Lib.itoa t.Id else if k = 4 then bT0 t.State else if k = 5 then (aw1 t.Local).1 else if k = 6 then (aw1 t.Remote).1 else []
def cc2 (c : Nat) (t : aa0) : aa0 := { t with Data := t.Data.drop c }
def cc3 (n : aa1) (k : Int) (t : aa0) (off cnt : Int) : RR :=
 if k = 0 then (n, [], false, 10) else if off < 0 ∨ cnt < 0 then (n, [], false, 1) else if k ≠ 2 then (n, bS9 (bH8 t k) off (min cnt 65536), false, 0)
 else if t.State ≤ 2 then (n, [], false, 43) else if t.Data = [] then (n, [], decide (t.State = 3), 0) else (aa1.mk n.Db n.Next (upT n.Talks t.Id (cc2 (min cnt 65536).toNat)), t.Data.take (min cnt 65536).toNat, false, 0)
theorem bc0 {a : aa3} (h : bH5 a) : (aw1 a).1.length ≤ 50000 := by
 obtain ⟨h1, h2, h3⟩ := h
 unfold aw1
 split
 ·simp only [List.length_append, List.length_singleton]
  split
  ·simp; omega
  ·simp; omega
 ·simp
theorem bT1 (g : Good n) (L : Lim n) (ht : t ∈ n.Talks) (k : Int) : (bH8 t k).length ≤ 50000 := by
 obtain ⟨r1, r2⟩ := g.idr t ht
 have := g.n9
 have h1 := bz8 (n := t.Id) (by omega) (by omega)
 have h2 := bc0 (L.ad t ht).1
 have h3 := bc0 (L.ad t ht).2
 unfold bH8 bT0
 repeat' split
 all_goals first | omega | simp
theorem bT2 {s : Str} {off cnt : Int} (h0 : 0 ≤ off) (h1 : 0 ≤ cnt) (hs : s.length ≤ 1000000) :
  cut s (min off (List.length s : Int)) (IntKind.wrap .i64 ((min off (List.length s : Int)) + (min cnt (IntKind.wrap .i64 ((List.length s : Int) - (min off (List.length s : Int))))))) = some (bS9 s off cnt) := by
 rw [ah9 (n := (List.length s : Int) - (min off (List.length s : Int))) (by omega) (by omega), ah9 (by omega) (by omega)]
 have e1 : min off (List.length s : Int) = ((min off.toNat s.length : Nat) : Int) := by omega
 have e2 : min off (List.length s : Int) + min cnt ((List.length s : Int) - min off (List.length s : Int)) = ((min off.toNat s.length + min cnt.toNat (s.length - min off.toNat s.length) : Nat) : Int) := by omega
 rw [e2, e1, aT4 (by omega) (by omega)]
 unfold bS9
 congr 1
 rw [List.drop_take]
 by_cases q : off.toNat ≤ s.length
 ·rw [Nat.min_eq_left q]
  have : off.toNat + min cnt.toNat (s.length - off.toNat) - off.toNat = min cnt.toNat (s.length - off.toNat) := by omega
  rw [this]
  by_cases q2 : cnt.toNat ≤ s.length - off.toNat
  ·rw [Nat.min_eq_left q2]
  ·rw [Nat.min_eq_right (by omega), List.take_of_length_le (by simp), List.take_of_length_le (by simp; omega)]
 ·rw [Nat.min_eq_right (by omega), List.drop_of_length_le (by omega), List.drop_of_length_le (by omega)]; simp
theorem lim6 {a : aa3} (h : bH5 a) : a.Net.length ≤ 1000000 ∧ a.Host.length ≤ 1000000 ∧ a.Service.length ≤ 1000000 := by
 obtain ⟨h1, h2, h3⟩ := h; omega
theorem b27 {s : Int} (h1 : 1 ≤ s) (h4 : s ≤ 4) : ad5 [[], [105, 100, 108, 101], [97, 110, 110, 111, 117, 110, 99, 101, 100], [111, 112, 101, 110], [104, 117, 110, 103, 117, 112]] s = some (bT0 s) := by
 rcases (by omega : s = 1 ∨ s = 2 ∨ s = 3 ∨ s = 4) with rfl | rfl | rfl | rfl <;> rfl
theorem TFile.contents (g : Good n) (L : Lim n) (F : TFile n host id t i k) : aq0 n (ac2.mk id (i : Int) k) = some (bH8 t k) := by
 have ht := List.mem_of_getElem? F.at_
 have r := g.tk.rng t ht
 have l1 := lim6 (L.ad t ht).1
 have l2 := lim6 (L.ad t ht).2
 have h0 : decide ((i : Int) < 0) = false := by simp
 unfold aq0 bH8
 simp only [h0, Bool.false_eq_true, if_false, ak1 F.at_, Option.bind_some, aN7 (show -9223372036854775808 ≤ t.Id by have := F.id1; omega) (show t.Id ≤ 9223372036854775807 by have := F.id2; omega), b27 r.s1 r.s4, bt2 l1.1 l1.2.1 l1.2.2, bt2 l2.1 l2.2.1 l2.2.2]
 by_cases k1 : k = 1
 ·simp [k1]
 by_cases k4 : k = 4
 ·simp [k4]
 by_cases k5 : k = 5
 ·simp [k5]
 by_cases k6 : k = 6
 ·simp [k6]
 ·simp [k1, k4, k5, k6]
theorem bA4 {s : Str} {c : Int} (h : 0 ≤ c) : cut s 0 (min c (List.length s : Int)) = some (s.take c.toNat) ∧ cut s (min c (List.length s : Int)) (List.length s : Int) = some (s.drop c.toNat) := by
 have e1 : min c (List.length s : Int) = ((min c.toNat s.length : Nat) : Int) := by omega
 rw [e1, bb2 (by omega), aX8 (by omega)]
 by_cases q : c.toNat ≤ s.length
 ·rw [Nat.min_eq_left q]; exact ⟨rfl, rfl⟩
 ·rw [Nat.min_eq_right (by omega), List.take_of_length_le (Nat.le_refl _), List.take_of_length_le (by omega), List.drop_of_length_le (Nat.le_refl _), List.drop_of_length_le (by omega)]; exact ⟨rfl, rfl⟩
theorem bT3 (g : Good n) (L : Lim n) (F : TFile n host id t i k) (off cnt : Int) : au4 n host id off cnt = some (cc3 n k t off cnt) := by
 have ht := List.mem_of_getElem? F.at_
 have h0 : decide ((i : Int) < 0) = false := by simp
 have hc := bT1 g L ht k
 unfold au4 cc3
 rw [aA7 (g.mod L.db), F.look g]
 simp only [Option.bind_some, Bool.not_true, Bool.false_eq_true, if_false, F.isDir, h0, Bool.false_or, ak1 F.at_, F.contents g L, Int.toNat_natCast]
 by_cases k0 : k = 0
 ·simp [k0]
 by_cases ho : off < 0
 ·simp [k0, ho]
 by_cases hn : cnt < 0
 ·simp [k0, ho, hn]
 ·have c0 : 0 ≤ min cnt 65536 := by omega
  simp only [k0, ho, hn, decide_false, Bool.or_self, Bool.false_eq_true, if_false, or_self, bT2 (show 0 ≤ off by omega) c0 (show (bH8 t k).length ≤ 1000000 by omega), Option.bind_some, (bA4 (s := t.Data) c0).1, (bA4 (s := t.Data) c0).2]
  by_cases k2 : k = 2
  ·by_cases s2 : t.State ≤ 2
   ·simp [k2, s2]
   ·by_cases hd : t.Data = []
    ·simp [k2, s2, hd]
    ·have hset : List.set n.Talks i (aa0.mk t.Id t.Host t.Owner t.State t.Local t.Remote t.Peer (t.Data.drop (min cnt 65536).toNat) t.Backlog t.Opens) = upT n.Talks t.Id (cc2 (min cnt 65536).toNat) := aG9 (f := cc2 (min cnt 65536).toNat) g.tk.inc F.at_
     simp [k2, s2, hd, hset]
  ·simp [k2]
def addT (s : Str) (t : aa0) : aa0 := { t with Data := t.Data ++ s }
def bH9 (n : aa1) (t : aa0) (data : Str) : RO :=
 if t.State ≤ 2 then (n, 0, false, 43) else if t.State = 4 then (n, 0, false, 30) else if 8192 < data.length then (n, 0, false, 4) else match fdT n.Talks t.Peer with
 | none => (n, 0, true, 0)
 | some p => if 8192 < p.Data.length + data.length then (n, 0, true, 0) else (aa1.mk n.Db n.Next (upT n.Talks p.Id (addT data)), (data.length : Int), false, 0)
def a48 (n : aa1) (user : Str) (k : Int) (t : aa0) (data : Str) (ws : List Str) : RO :=
 if k = 0 then (n, 0, false, 10) else if k ≠ 1 ∧ k ≠ 2 then (n, 0, false, 11) else if k = 1 then (if (a79 n t.Host user t.Id ws).2 ≠ 0 then (n, 0, false, (a79 n t.Host user t.Id ws).2) else ((a79 n t.Host user t.Id ws).1, (data.length : Int), false, 0))
 else bH9 n t data
theorem b28 {user : Str} {ws : List Str} (h : (a79 n host user id ws).2 ≠ 0) : (a79 n host user id ws).1 = n := by
 unfold a79 at h ⊢
 split
 ·rfl
 ·rename_i t e
  rw [e] at h
  dsimp only at h
  split
  ·rfl
  ·rename_i h1
   rw [if_neg h1] at h
   split
   ·rfl
   ·rename_i h2
    rw [if_neg h2] at h
    exact b26 h
theorem bI0 (g : Good n) (L : Lim n) (F : TFile n host id t i k) (user : Str) {data : Str} {ws : List Str} (hd : data.length ≤ 50000) (hf : k = 1 → at9 data = some ws) (hw : ∀ w ∈ ws, w.length ≤ 50000) : ao8 n host user id data = some (a48 n user k t data ws) := by
 have ht := List.mem_of_getElem? F.at_
 have h0 : decide ((i : Int) < 0) = false := by simp
 unfold ao8 a48
 rw [aA7 (g.mod L.db), F.look g]
 simp only [Option.bind_some, Bool.not_true, Bool.false_eq_true, if_false, F.isDir, h0, Bool.false_or, ak1 F.at_, F.tdiv, Int.toNat_natCast]
 by_cases k0 : k = 0
 ·simp [k0]
 by_cases k1 : k = 1
 ·have hc := b60 (host := t.Host) (id := t.Id) g L user (hf k1) hw
  rw [← F.host, hc]
  have he := b28 (n := n) (host := t.Host) (id := t.Id) (user := user) (ws := ws)
  generalize a79 n t.Host user t.Id ws = r at he
  by_cases h2 : r.2 = 0
  ·simp [k1, h2]
  ·simp [k1, h2, he h2]
 ·by_cases k2 : k = 2
  ·unfold bH9
   simp only [k0, k1, k2, decide_true, decide_false, Bool.not_true, Bool.not_false, Bool.and_false, Bool.false_eq_true, if_false, ne_eq, not_true_eq_false, and_false, show ¬ ((2 : Int) = 0) by decide, show ¬ ((2 : Int) = 1) by decide]
   by_cases s2 : t.State ≤ 2
   ·simp [s2]
   by_cases s4 : t.State = 4
   ·simp [s4]
   have c1 : decide ((8192 : Int) < (data.length : Int)) = decide (8192 < data.length) := by simp; omega
   by_cases hl : 8192 < data.length
   ·simp [s2, s4, hl, c1]
   ·simp only [s2, s4, hl, c1, decide_false, Bool.false_eq_true, if_false, aG6 g.hl, Option.bind_some]
    cases hfd : fdT n.Talks t.Peer with
    | none => simp [aQ9 hfd]
    | some p =>
     obtain ⟨j, j1, j2, j3, j4⟩ := as8 hfd
     have hp := (bm2 hfd).1
     have hpd := (g.tk.rng p hp).dt
     have hj0 : decide ((j : Int) < 0) = false := by simp
     have e1 : IntKind.wrap .i64 ((List.length p.Data : Int) + (List.length data : Int)) = (List.length p.Data : Int) + (List.length data : Int) := ah9 (by omega) (by omega)
     have c2 : decide ((8192 : Int) < (List.length p.Data : Int) + (List.length data : Int)) = decide (8192 < p.Data.length + data.length) := by simp; omega
     have hset : List.set n.Talks j (aa0.mk p.Id p.Host p.Owner p.State p.Local p.Remote p.Peer (p.Data ++ data) p.Backlog p.Opens) = upT n.Talks p.Id (addT data) := aG9 (f := addT data) g.tk.inc j3
     have hcat : ay2 p.Data data = some (p.Data ++ data) := ad7 (by omega)
     rw [j2]
     simp only [hj0, Bool.false_eq_true, if_false, ak1 j3, Option.bind_some, e1, c2, hcat, Int.toNat_natCast, hset]
     by_cases h3 : 8192 < p.Data.length + data.length
     ·simp [h3]
     ·simp [h3]
  ·simp [k0, k1, k2]
structure Fit (n : aa1) : Prop where
 g : Good n
 L : Lim n
def Kin (l l' : List aa0) : Prop := ∀ t' ∈ l', ∃ u ∈ l, u.Id = t'.Id ∧ u.Host = t'.Host ∧ u.Local = t'.Local ∧ u.Remote = t'.Remote
theorem Fit.kin (f : Fit n) {l : List aa0} (G : GoodT l) (hl : l.length ≤ 64) (hk : Kin n.Talks l) : Fit (aa1.mk n.Db n.Next l) := by
 refine ⟨⟨f.g.db, f.g.n1, f.g.n9, hl, ?_, G⟩, ⟨f.L.db, ?_, ?_⟩⟩
 ·intro t ht
  obtain ⟨u, hu, e, _⟩ := hk t ht
  rw [← e]; exact f.g.idr u hu
 ·intro t ht
  obtain ⟨u, hu, _, e, _⟩ := hk t ht
  rw [← e]; exact f.L.ho u hu
 ·intro t ht
  obtain ⟨u, hu, _, _, e1, e2⟩ := hk t ht
  rw [← e1, ← e2]; exact f.L.ad u hu
theorem Kin.map {l : List aa0} {f : aa0 → aa0} (h : ∀ t, (f t).Id = t.Id ∧ (f t).Host = t.Host ∧ (f t).Local = t.Local ∧ (f t).Remote = t.Remote) : Kin l (l.map f) := by
 intro t' ht'
 obtain ⟨t, ht, rfl⟩ := List.mem_map.1 ht'
 obtain ⟨a, b, c, d⟩ := h t
 exact ⟨t, ht, a.symm, b.symm, c.symm, d.symm⟩
theorem Kin.up {l : List aa0} {id : Int} {f : aa0 → aa0} (h : ∀ t, (f t).Id = t.Id ∧ (f t).Host = t.Host ∧ (f t).Local = t.Local ∧ (f t).Remote = t.Remote) : Kin l (upT l id f) := by
 refine Kin.map fun t => ?_
 rcases av1 id f t with ⟨_, e⟩ | ⟨_, e⟩ <;> rw [e]
 ·exact h t
 ·exact ⟨rfl, rfl, rfl, rfl⟩
theorem Kin.trans {a b c : List aa0} (h1 : Kin a b) (h2 : Kin b c) : Kin a c := by
 intro t ht
 obtain ⟨u, hu, e1, e2, e3, e4⟩ := h2 t ht
 obtain ⟨v, hv, f1, f2, f3, f4⟩ := h1 u hu
 exact ⟨v, hv, f1.trans e1, f2.trans e2, f3.trans e3, f4.trans e4⟩
theorem Kin.hg (l : List aa0) (R : List Int) : Kin l (hgL l R) := Kin.map fun t => ⟨(ah5 R t).1, (ah5 R t).2.1, (ah5 R t).2.2.2.1, (ah5 R t).2.2.2.2.1⟩
theorem Kin.cut (l : List aa0) (R : List Int) : Kin l (cutS l R) := by
 intro t' ht'
 obtain ⟨t, ht, _, rfl⟩ := bS2.1 ht'
 have := ah5 R t
 exact ⟨t, ht, this.1.symm, this.2.1.symm, this.2.2.2.1.symm, this.2.2.2.2.1.symm⟩
theorem Kin.hang (l : List aa0) (t : aa0) : Kin l (hangS l t) := by
 unfold hangS
 split
 ·exact (Kin.up (f := clT) fun _ => ⟨rfl, rfl, rfl, rfl⟩).trans (Kin.cut _ _)
 ·exact Kin.hg _ _
theorem b29 (l : List aa0) (t : aa0) : (hangS l t).length ≤ l.length := by
 unfold hangS
 split
 ·exact Nat.le_trans (cb5 _ _) (by rw [bz9]; exact Nat.le_refl _)
 ·unfold hgL; rw [List.length_map]; exact Nat.le_refl _
theorem GoodT.up {l : List aa0} (G : GoodT l) (ht : t ∈ l) {f : aa0 → aa0} (K : ∀ t, (f t).Id = t.Id ∧ (f t).Host = t.Host ∧ (f t).State = t.State ∧ (f t).Peer = t.Peer ∧ (f t).Local = t.Local ∧ (f t).Backlog = t.Backlog)
  (ho : (f t).Opens = 0 ↔ t.Opens = 0) (hr : Rng (f t)) : GoodT (upT l t.Id f) := by
 have C : ∀ x ∈ l, (x = t ∧ (if x.Id = t.Id then f x else x) = f t) ∨ (if x.Id = t.Id then f x else x) = x := by
  intro x hx
  rcases av1 t.Id f x with ⟨q, e⟩ | ⟨q, e⟩
  ·have := af1 G.inc x hx t ht q; subst this; exact .inl ⟨rfl, e⟩
  ·exact .inr e
 refine G.same (fun x => if x.Id = t.Id then f x else x) ?_ ?_ ?_
 ·intro x
  rcases av1 t.Id f x with ⟨q, e⟩ | ⟨q, e⟩ <;> rw [e]
  ·exact K x
  ·exact ⟨rfl, rfl, rfl, rfl, rfl, rfl⟩
 ·intro x hx
  rcases C x hx with ⟨rfl, e⟩ | e <;> rw [e]
  exact ho
 ·intro x hx
  rcases C x hx with ⟨rfl, e⟩ | e <;> rw [e]
  ·exact hr
  ·exact G.rng x hx
def Far (l : List aa0) (host : Str) (t : aa0) : Prop := t.Host ≠ host ∧ ∀ p ∈ l, p.Id = t.Peer → p.Host ≠ host
def Keeps (n m : aa1) (host : Str) (all : Prop) : Prop := ∀ t ∈ n.Talks, Far n.Talks host t → (all ∨ t.State ≠ 2) → t ∈ m.Talks
theorem Keeps.refl (n : aa1) (host : Str) (all : Prop) : Keeps n n host all := fun t ht _ _ => ht
theorem bu4 {l : List aa0} {id : Int} {f : aa0 → aa0} {x : aa0} (hx : x ∈ l) (h : x.Id ≠ id) : x ∈ upT l id f := List.mem_map.2 ⟨x, hx, if_neg h⟩
theorem b30 {l : List aa0} {R : List Int} {x : aa0} (hx : x ∈ l) (h1 : x.Id ∉ R) (h2 : x.Peer ∉ R) : x ∈ cutS l R := by
 refine bS2.2 ⟨x, hx, h1, ?_⟩
 unfold hg1; rw [if_neg]; rintro ⟨_, q | q⟩
 ·exact h1 q
 ·exact h2 q
theorem cc4 {l : List aa0} {R : List Int} {x : aa0} (hx : x ∈ l) (h1 : x.Id ∉ R) (h2 : x.Peer ∉ R) : x ∈ hgL l R := by
 refine List.mem_map.2 ⟨x, hx, ?_⟩
 unfold hg1; rw [if_neg]; rintro ⟨_, q | q⟩
 ·exact h1 q
 ·exact h2 q
theorem bT4 {l : List aa0} (G : GoodT l) {x : aa0} (hx : x ∈ l) {R : List Int} (hR : ∀ c ∈ R, ∃ u ∈ l, u.Id = c ∧ u.Host = host) (hf : Far l host x) : x.Id ∉ R ∧ x.Peer ∉ R := by
 constructor
 ·intro q
  obtain ⟨u, hu, e, h⟩ := hR _ q
  have := af1 G.inc u hu x hx e; subst this
  exact hf.1 h
 ·intro q
  obtain ⟨u, hu, e, h⟩ := hR _ q
  exact hf.2 u hu e h
theorem aU0 {l : List aa0} {x : aa0} (hx : x ∈ l) (ht : t ∈ l) (hh : t.Host = host) (G : GoodT l) (hf : Far l host x) : x.Id ≠ t.Id := by
 intro e
 have := af1 G.inc x hx t ht e; subst this
 exact hf.1 hh
theorem GoodT.bhost {l : List aa0} (G : GoodT l) (ht : t ∈ l) : ∀ c ∈ t.Backlog, ∃ u ∈ l, u.Id = c ∧ u.Host = t.Host := by
 intro c hc
 obtain ⟨u, hu, e1, e2, _⟩ := G.bc t ht c hc
 exact ⟨u, hu, e1, e2⟩
structure Was (n : aa1) (host : Str) (all : Prop) (m : aa1) : Prop where
 fit : Fit m
 far : Keeps n m host all
theorem Was.refl (f : Fit n) (host : Str) (all : Prop) : Was n host all n := ⟨f, Keeps.refl n host all⟩
theorem Was.up (f : Fit n) (all : Prop) (ht : t ∈ n.Talks) {f' : aa0 → aa0} (K : ∀ t, (f' t).Id = t.Id ∧ (f' t).Host = t.Host ∧ (f' t).State = t.State ∧ (f' t).Peer = t.Peer ∧ (f' t).Local = t.Local ∧ (f' t).Backlog = t.Backlog ∧ (f' t).Remote = t.Remote)
  (ho : (f' t).Opens = 0 ↔ t.Opens = 0) (hr : Rng (f' t)) (hh : ∀ x ∈ n.Talks, Far n.Talks host x → x.Id ≠ t.Id) : Was n host all (aa1.mk n.Db n.Next (upT n.Talks t.Id f')) := by
 refine ⟨f.kin (f.g.tk.up ht (fun t => ?_) ho hr) (by rw [bz9]; exact f.g.len) (Kin.up fun t => ?_), fun x hx hf _ => bu4 hx (hh x hx hf)⟩
 ·obtain ⟨a, b, c, d, e, g, h⟩ := K t; exact ⟨a, b, c, d, e, g⟩
 ·obtain ⟨a, b, c, d, e, g, h⟩ := K t; exact ⟨a, b, e, h⟩
theorem bn1 (f : Fit n) {user : Str} (hh : host.length ≤ 1000) (m : Int) : Was n host True (aM4 n host user m).1 ∧ ((aM4 n host user m).2.2.1 = true → aM4 n host user m = (n, 0, true, 0)) := by
 unfold aM4
 split
 ·exact ⟨Was.refl f _ _, fun q => by cases q⟩
 ·split
  ·exact ⟨Was.refl f _ _, fun q => by cases q⟩
  ·split
   ·exact ⟨Was.refl f _ _, fun q => by cases q⟩
   ·rename_i hu hfull
    have n1 := f.g.n1
    have n9 := f.g.n9
    have M : ∀ t', t' ∈ n.Talks ++ [aR0 n.Next host user] → t' ∈ n.Talks ∨ t' = aR0 n.Next host user := by intro t' h; simpa using h
    refine ⟨⟨⟨⟨f.g.db, by show 1 ≤ n.Next + 1; omega, by show n.Next + 1 ≤ 1048576; omega, by show (n.Talks ++ [aR0 n.Next host user]).length ≤ 64; simp; omega, ?_, f.g.tk.add (fun t ht => (f.g.idr t ht).2) host (by omega)⟩, ⟨f.L.db, ?_, ?_⟩⟩, fun x hx _ _ => List.mem_append_left _ hx⟩, fun q => by cases q⟩
    ·intro t ht
     rcases M t ht with h | rfl
     ·have := f.g.idr t h; exact ⟨this.1, by show t.Id < n.Next + 1; omega⟩
     ·exact ⟨by show 1 ≤ n.Next; omega, by show n.Next < n.Next + 1; omega⟩
    ·intro t ht
     rcases M t ht with h | rfl
     ·exact f.L.ho t h
     ·exact hh
    ·intro t ht
     rcases M t ht with h | rfl
     ·exact f.L.ad t h
     ·exact ⟨⟨by simp [aR0, aV9], by simp [aR0, aV9], by simp [aR0, aV9]⟩, ⟨by simp [aR0, aV9], by simp [aR0, aV9], by simp [aR0, aV9]⟩⟩
theorem bT5 (f : Fit n) (ht : t ∈ n.Talks) (hh : t.Host = host) (user : Str) (m : Int) : Was n host True (bm5 n id k t user m).1 ∧ ((bm5 n id k t user m).2.2.1 = true → bm5 n id k t user m = (n, 0, true, 0)) := by
 have R := Was.refl f host True
 have r := f.g.tk.rng t ht
 unfold bm5
 split
 ·exact ⟨R, fun q => by cases q⟩
 ·split
  ·exact ⟨R, fun q => by cases q⟩
  ·split
   ·split
    ·exact ⟨R, fun q => by cases q⟩
    ·split
     ·exact ⟨R, fun _ => rfl⟩
     ·rename_i c rr hb
      refine ⟨⟨f.kin (f.g.tk.lis ht hb) (by rw [List.length_map]; exact f.g.len) (Kin.map fun t' => ?_), fun x hx hf _ => ?_⟩, fun q => by cases q⟩
      ·unfold a55; split
       ·exact ⟨rfl, rfl, rfl, rfl⟩
       ·split <;> exact ⟨rfl, rfl, rfl, rfl⟩
      ·obtain ⟨u, hu, e1, e2⟩ := f.g.tk.bhost ht c (by rw [hb]; simp)
       refine List.mem_map.2 ⟨x, hx, ?_⟩
       have q1 := aU0 hx ht hh f.g.tk hf
       have q2 := aU0 hx hu (e2.trans hh) f.g.tk hf
       unfold a55
       rw [if_neg q1, if_neg (by omega)]
   ·split
    ·exact ⟨R, fun q => by cases q⟩
    ·split
     ·exact ⟨R, fun q => by cases q⟩
     ·rename_i o1 o2
      refine ⟨Was.up f True ht (f' := incT) (fun _ => ⟨rfl, rfl, rfl, rfl, rfl, rfl, rfl⟩) ?_ ?_ fun x hx hf => aU0 hx ht hh f.g.tk hf, fun q => by cases q⟩
      ·have := r.o0
       show t.Opens + 1 = 0 ↔ t.Opens = 0
       omega
      ·have := r.o0
       exact ⟨r.s1, r.s4, by show 0 ≤ t.Opens + 1; omega, by show t.Opens + 1 ≤ 9007199254740991; omega, r.dt, r.ow, r.d0⟩
theorem b31 (f : Fit n) (ht : t ∈ n.Talks) (hh : t.Host = host) (all : Prop) : Was n host all (b24 n t) := by
 refine ⟨f.kin (f.g.tk.hangS ht) (Nat.le_trans (b29 _ _) f.g.len) (Kin.hang _ _), fun x hx hf _ => ?_⟩
 show x ∈ hangS n.Talks t
 unfold hangS
 have q0 := aU0 hx ht hh f.g.tk hf
 split
 ·have hR : ∀ c ∈ t.Backlog, ∃ u ∈ n.Talks, u.Id = c ∧ u.Host = host := fun c hc => by
   obtain ⟨u, hu, a, b⟩ := f.g.tk.bhost ht c hc; exact ⟨u, hu, a, b.trans hh⟩
  obtain ⟨q1, q2⟩ := bT4 f.g.tk hx hR hf
  exact b30 (bu4 hx q0) q1 q2
 ·have hR : ∀ c ∈ [t.Id], ∃ u ∈ n.Talks, u.Id = c ∧ u.Host = host := fun c hc => ⟨t, ht, (List.mem_singleton.1 hc).symm, hh⟩
  obtain ⟨q1, q2⟩ := bT4 f.g.tk hx hR hf
  exact cc4 hx q1 q2
theorem cc5 (f : Fit n) (ht : t ∈ n.Talks) (hh : t.Host = host) (w : Str) (all : Prop) : Was n host all (bH6 n t w).1 := by
 have R := Was.refl f host all
 unfold bH6
 split
 ·exact R
 ·rename_i hs
  have hs : t.State = 1 := Classical.not_not.1 hs
  split
  ·exact R
  ·unfold b22
   split
   ·exact R
   ·split
    ·exact R
    ·rename_i x r e
     split
     ·exact R
     ·rename_i hx
      have hx : x.Host = t.Host := Classical.not_not.1 hx
      split
      ·exact R
      ·rename_i ha
       have hlim := bm8 (a := aW5 (ae8 w).1) f.L.db.okT (f.L.ho t ht) x (by rw [e]; simp)
       have K : ∀ t', (if t'.Id = t.Id then anT x t' else t').Id = t'.Id ∧ (if t'.Id = t.Id then anT x t' else t').Host = t'.Host := by
        intro t'; split <;> exact ⟨rfl, rfl⟩
       refine ⟨⟨⟨f.g.db, f.g.n1, f.g.n9, by rw [bz9]; exact f.g.len, ?_, f.g.tk.ann ht hs hx (by simpa using ha)⟩, ⟨f.L.db, ?_, ?_⟩⟩, fun y hy hf _ => bu4 hy (aU0 hy ht hh f.g.tk hf)⟩
       ·intro y hy
        obtain ⟨z, hz, rfl⟩ := List.mem_map.1 hy
        rw [(K z).1]; exact f.g.idr z hz
       ·intro y hy
        obtain ⟨z, hz, rfl⟩ := List.mem_map.1 hy
        rw [(K z).2]; exact f.L.ho z hz
       ·intro y hy
        obtain ⟨z, hz, rfl⟩ := List.mem_map.1 hy
        split
        ·exact ⟨hlim, (f.L.ad z hz).2⟩
        ·exact f.L.ad z hz
theorem bI1 (l : List aa3) : aT9 n t l = (n, 40) ∨ ∃ a ∈ l, ∃ s ∈ n.Talks, bH7 a s = true ∧ aT9 n t l = (cc0 n t s a, 0) := by
 induction l with
 | nil => exact .inl rfl
 | cons a r ih =>
  unfold aT9
  cases hf : n.Talks.find? (bH7 a) with
  | none =>
   rcases ih with h | ⟨b, hb, q⟩
   ·exact .inl h
   ·exact .inr ⟨b, List.mem_cons_of_mem _ hb, q⟩
  | some s => exact .inr ⟨a, by simp, s, List.mem_of_find?_eq_some hf, List.find?_some hf, rfl⟩
theorem cc6 (f : Fit n) (ht : t ∈ n.Talks) (hh : t.Host = host) (w : Str) : Was n host False (bS7 n t w).1 := by
 have R := Was.refl f host False
 unfold bS7
 split
 ·exact R
 ·rename_i hs
  have hs : t.State = 1 := Classical.not_not.1 hs
  split
  ·exact R
  ·split
   ·exact R
   ·split
    ·exact R
    ·rename_i hfull
     rcases bI1 (n := n) (t := t) (ah8 n.Db t.Host (ae8 w).1).1 with e | ⟨a, ha, s, hsm, hp, e⟩ <;> rw [e]
     ·exact R
     ·have hlim := bm8 (a := (ae8 w).1) f.L.db.okT (f.L.ho t ht) a ha
      unfold bH7 at hp
      simp only [Bool.and_eq_true, decide_eq_true_eq] at hp
      obtain ⟨p1, p2, p3, p4, p5⟩ := hp
      have n1 := f.g.n1
      have n9 := f.g.n9
      obtain ⟨i1, i2⟩ := f.g.idr t ht
      have hil := bz8 (n := 32768 + t.Id) (by omega) (by omega)
      have hO : bH5 (aR2 t a) := ⟨hlim.1, by have := f.L.ho t ht; show t.Host.length ≤ 10000; omega, by show (Go.Lib.itoa (32768 + t.Id)).length ≤ 10000; omega⟩
      have K : ∀ t', (aR1 t.Id s.Id n.Next a (aR2 t a) t').Id = t'.Id ∧ (aR1 t.Id s.Id n.Next a (aR2 t a) t').Host = t'.Host := by
       intro t'; unfold aR1; split
       ·exact ⟨rfl, rfl⟩
       ·split <;> exact ⟨rfl, rfl⟩
      have M : ∀ y ∈ (cc0 n t s a).Talks, (∃ z ∈ n.Talks, aR1 t.Id s.Id n.Next a (aR2 t a) z = y) ∨ y = a78 n.Next t.Id (aR2 t a) s := by
       intro y hy
       rcases List.mem_append.1 hy with h | h
       ·exact .inl (List.mem_map.1 h)
       ·exact .inr (List.mem_singleton.1 h)
      refine ⟨⟨⟨f.g.db, by show 1 ≤ n.Next + 1; omega, by show n.Next + 1 ≤ 1048576; omega, by show (List.map _ _ ++ [_]).length ≤ 64; simp; omega, ?_, f.g.tk.con (fun t ht => (f.g.idr t ht).2) ht hsm hs p2 p5 a (aR2 t a)⟩, ⟨f.L.db, ?_, ?_⟩⟩, fun y hy hf hal => ?_⟩
      ·intro y hy
       rcases M y hy with ⟨z, hz, rfl⟩ | rfl
       ·rw [(K z).1]
        have := f.g.idr z hz; exact ⟨this.1, by show z.Id < n.Next + 1; omega⟩
       ·exact ⟨by show 1 ≤ n.Next; omega, by show n.Next < n.Next + 1; omega⟩
      ·intro y hy
       rcases M y hy with ⟨z, hz, rfl⟩ | rfl
       ·rw [(K z).2]; exact f.L.ho z hz
       ·exact f.L.ho s hsm
      ·intro y hy
       rcases M y hy with ⟨z, hz, rfl⟩ | rfl
       ·unfold aR1
        split
        ·exact ⟨hO, hlim⟩
        ·split
         ·exact f.L.ad z hz
         ·exact f.L.ad z hz
       ·exact ⟨(f.L.ad s hsm).1, hO⟩
      ·refine List.mem_append_left _ (List.mem_map.2 ⟨y, hy, ?_⟩)
       have q1 := aU0 hy ht hh f.g.tk hf
       have q2 : y.Id ≠ s.Id := by
        intro e
        have := af1 f.g.tk.inc y hy s hsm e; subst this
        rcases hal with h | h
        ·exact h
        ·exact h p2
       unfold aR1
       rw [if_neg q1, if_neg q2]
theorem bu5 (f : Fit n) (user : Str) (ws : List Str) : Was n host False (a79 n host user id ws).1 := by
 have R := Was.refl f host False
 unfold a79
 split
 ·exact R
 ·rename_i t e
  obtain ⟨ht, _⟩ := bm2 e
  split
  ·exact R
  ·rename_i hh
   have hh : t.Host = host := Classical.not_not.1 hh
   split
   ·exact R
   ·unfold bm9
    split
    ·split
     ·split
      ·exact b31 f ht hh _
      ·exact R
     ·exact R
    ·split
     ·exact cc5 f ht hh _ _
     ·split
      ·exact cc6 f ht hh _
      ·exact R
    ·exact R
theorem bT6 (f : Fit n) (ht : t ∈ n.Talks) (hh : t.Host = host) {data : Str} : Was n host False (bH9 n t data).1 ∧ ((bH9 n t data).2.2.1 = true → bH9 n t data = (n, 0, true, 0)) := by
 have R := Was.refl f host False
 unfold bH9
 split
 ·exact ⟨R, fun q => by cases q⟩
 ·rename_i s2
  split
  ·exact ⟨R, fun q => by cases q⟩
  ·rename_i s4
   split
   ·exact ⟨R, fun q => by cases q⟩
   ·have s4' := (f.g.tk.rng t ht).s4
    have s3 : t.State = 3 := by omega
    obtain ⟨p, hp, e1, e2, e3, e4⟩ := f.g.tk.pe t ht s3
    have hfd : fdT n.Talks t.Peer = some p := by rw [← e1]; exact bu1 f.g.tk.inc hp
    rw [hfd]
    dsimp only
    split
    ·exact ⟨R, fun _ => rfl⟩
    ·rename_i hl
     have r := f.g.tk.rng p hp
     refine ⟨Was.up f False hp (f' := addT data) (fun _ => ⟨rfl, rfl, rfl, rfl, rfl, rfl, rfl⟩) Iff.rfl ?_ fun x hx hf e => ?_, fun q => by cases q⟩
     ·refine ⟨r.s1, r.s4, r.o0, r.o9, ?_, r.ow, ?_⟩
      ·show (p.Data ++ data).length ≤ 8192
       rw [List.length_append]; omega
      ·intro q
       have q : p.State ≤ 2 := q
       omega
     ·have := af1 f.g.tk.inc x hx p hp e; subst this
      exact hf.2 t ht e4.symm hh
theorem bI2 (f : Fit n) (ht : t ∈ n.Talks) (hh : t.Host = host) (user data : Str) (ws : List Str) : Was n host False (a48 n user k t data ws).1 ∧ ((a48 n user k t data ws).2.2.1 = true → a48 n user k t data ws = (n, 0, true, 0)) := by
 have R := Was.refl f host False
 unfold a48
 split
 ·exact ⟨R, fun q => by cases q⟩
 ·split
  ·exact ⟨R, fun q => by cases q⟩
  ·split
   ·split
    ·exact ⟨R, fun q => by cases q⟩
    ·rw [hh]; exact ⟨bu5 f _ _, fun q => by cases q⟩
   ·exact bT6 f ht hh
theorem Fit.mod (f : Fit n) : Mod n := f.g.mod f.L.db
theorem bn2 {s : Str} (h : s.length ≤ 10000) : ∀ w ∈ au6 s, w.length ≤ 50000 := by
 intro w hw
 have := bg4 s [] w hw
 simp only [List.length_nil] at this
 omega
theorem Was.weak {m : aa1} (h : Was n host True m) (all : Prop) : Was n host all m := ⟨h.fit, fun t ht hf _ => h.far t ht hf (.inl trivial)⟩
def hA : Str := [97]
def hB : Str := [98]
def uA : Str := [97, 110, 110]
def uB : Str := [98, 111, 98]
def tcp : Str := [116, 99, 112]
def a80 : aa3 := ⟨tcp, hA, [56, 48]⟩
def oB : aa3 := aR2 (aR0 2 hB uB) a80
def T2 : aa0 := opT 3 a80 oB (aR0 2 hB uB)
def aW6 : Str := [104, 101, 108, 108, 111]
theorem w2 : (-9223372036854775808 : Int) ≤ 2 ∧ (2 : Int) ≤ 9223372036854775807 := by omega
theorem eC2 : eC 2 = 0 := by decide +kernel
theorem p26 : bH4 2 false 6 = 0 := by decide +kernel
theorem b32 {s : Str} (h : bs3 s = true) : s.length ≤ 33 := by
 unfold bs3 ca3 at h
 have hb : ∀ t : Str, bb3 t = true → t.length ≤ 32 := by
  intro t ht
  cases t with
  | nil => simp [bb3] at ht
  | cons c r =>
   rw [bG2] at ht
   simp only [Bool.and_eq_true, decide_eq_true_eq] at ht
   exact ht.2
 split at h
 ·have := hb _ h
  rw [List.length_drop] at this; omega
 ·have := hb _ h; omega
theorem cc7 {before : List aa4} {a : aa4} (h : chk before a = 0) : before.length < 32 := by
 unfold chk at h
 split at h
 ·cases h
 ·rename_i h1; omega
theorem bA5 : ∀ {l before : List aa4}, bs6 before l = 0 → l.length ≤ 32 ∧ (l ≠ [] → before.length + l.length ≤ 32) ∧ ∀ a ∈ l, a.Name.length ≤ 33 ∧ a.Value.length ≤ 1024
 | [], _, _ => ⟨by simp, fun h => absurd rfl h, by simp⟩
 | x :: r, before, h => by
  unfold bs6 at h
  split at h
  ·rename_i h0
   obtain ⟨n1, n2, n3, n4, n5⟩ := b04 h0
   have hl := cc7 h0
   obtain ⟨i1, i2, i3⟩ := bA5 h
   have hlen : before.length + (r.length + 1) ≤ 32 := by
    by_cases hr : r = []
    ·subst hr; simp; omega
    ·have := i2 hr
     simp only [List.length_append, List.length_cons, List.length_nil] at this
     omega
   refine ⟨by simp only [List.length_cons]; omega, fun _ => by simpa only [List.length_cons] using hlen, fun y hy => ?_⟩
   rcases List.mem_cons.1 hy with rfl | hy
   ·exact ⟨b32 n1, n4⟩
   ·exact i3 y hy
  ·rename_i h0; exact absurd h h0
theorem bu6 {l : List aa4} (h : bs7 l = 0) : okL l := by
 obtain ⟨h1, _, h3⟩ := bA5 h
 exact ⟨by omega, fun a ha => by have := h3 a ha; exact ⟨by omega, by omega⟩⟩
theorem bn3 {l : List aa4} (h : bgL l) : at6 l = some (if bs7 l = 0 then (aA4 l, 0) else ([], bs7 l)) := by
 by_cases hz : bs7 l = 0
 ·exact a39 (bu6 hz)
 ·unfold at6
  rw [a36 h, Option.bind_some]
  simp [hz]
def bgX (l : List aa2) : Prop := l.length ≤ 50 ∧ ∀ x ∈ l, bgL x.Attrs
theorem bu7 {l : List aa2} (h : bgX l) : ay5 l = some (aN6 l) := by
 unfold ay5 aN6
 have hlen := h.1
 have h0 : ¬ 256 < l.length := by omega
 have : ¬ ((256 : Int) < (List.length l : Int)) := by omega
 simp only [h0, this, decide_false, Bool.false_eq_true, if_false]
 refine (af8 (τ := Str × Int) l.length (fun (x : Str) i => (x, i)) (fun x => ah7 l x.1 x.2) (fun i x => aM2 x (l.drop i)) (fun i x => x.length ≤ i * 75020001) (s0 := []) (by simp) ?_ ?_).trans rfl
 ·intro acc i hi hl
  have hok := h.2 _ (List.getElem_mem hi)
  have h1 := hok.1
  have hw : IntKind.wrap .i64 ((i : Int) + 1) = (i : Int) + 1 := ad2 (by omega)
  have hz : decide ((List.length l[i].Attrs : Int) = 0) = decide (l[i].Attrs = []) := by
   rw [Bool.eq_iff_iff]; simp only [decide_eq_true_eq]
   rw [← List.length_eq_zero_iff]; omega
  simp only [ah7, dlt hi, if_true, ac1 hi, Option.bind_some, bb5 (l := l[i].Attrs) h1, bn3 hok, hz, hw, List.drop_eq_getElem_cons hi, aM2]
  cases hd : decide (l[i].Attrs = []) with
  | true => right; simp
  | false =>
   cases hq : l[i].Attrs.any (·.Query) with
   | true => right; simp
   | false =>
    by_cases hc : bs7 l[i].Attrs = 0
    ·left
     have hp := bl7 (bu6 hc)
     have hb : i * 75020001 ≤ 256 * 75020001 := Nat.mul_le_mul (by omega) (Nat.le_refl _)
     have c1 : ay2 acc (aA4 l[i].Attrs) = some (acc ++ aA4 l[i].Attrs) := ad7 (by omega)
     have c2 : ay2 (acc ++ aA4 l[i].Attrs) [10] = some (acc ++ aA4 l[i].Attrs ++ [10]) := ad7 (by simp; omega)
     refine ⟨acc ++ (aA4 l[i].Attrs ++ [10]), ?_, ?_, ?_⟩
     ·simp [hc, c1, c2]
     ·simp [hc]
     ·simp only [List.length_append, List.length_cons, List.length_nil]; omega
    ·right; simp [hc]
 ·intro acc _
  simp [ah7, aM2]
theorem bn4 : ∀ {l : List aa2} {acc : Str}, (aM2 acc l).2 = 0 → ∀ x ∈ l, bs7 x.Attrs = 0
 | [], _, _, x, hx => by cases hx
 | y :: r, acc, h, x, hx => by
  unfold aM2 at h
  split at h
  ·cases h
  ·split at h
   ·rename_i hc; exact absurd h hc
   ·rename_i hc
    rcases List.mem_cons.1 hx with rfl | hx
    ·exact Decidable.not_not.1 hc
    ·exact bn4 h x hx
theorem bu8 {l : List aa2} (hl : l.length ≤ 50) (h : (aN6 l).2 = 0) : okX l := by
 unfold aN6 at h
 rw [if_neg (by omega)] at h
 exact ⟨by omega, fun x hx => bu6 (bn4 h x hx)⟩
def bI9 (l : List aa2) : aa1 := aa1.mk l 1 []
theorem bT7 {l : List aa2} (h : bgX l) : aq6 (bI9 l) = some (decide ((aN6 l).2 = 0)) := by
 by_cases hz : (aN6 l).2 = 0
 ·have hM : Mod (bI9 l) := ⟨bu8 h.1 hz, by simp [bI9], fun t ht => (nomatch ht)⟩
  rw [bm1 hM, hz]
  unfold bR7 bI9
  simp [hz, cb0]
 ·unfold aq6 bI9
  rw [bu7 h, Option.bind_some]
  simp [hz]
theorem aL1 (name : Str) : ∀ (l : List aa2) (out : List Str) (v : Str), v ∈ out → v ∈ aw2 name out l
 | [], out, v, h => h
 | x :: r, out, v, h => by
  unfold aw2
  split
  ·exact aL1 name r _ v (by simp [h])
  ·exact aL1 name r _ v h
theorem aU1 (name : Str) : ∀ (l : List aa2) (out : List Str) (x : aa2), x ∈ l → (ar1 name x.Attrs).2 = true → (ar1 name x.Attrs).1 ∈ aw2 name out l
 | y :: r, out, x, hx, hf => by
  unfold aw2
  rcases List.mem_cons.1 hx with rfl | hx
  ·split
   ·exact aL1 name r _ _ (by simp)
   ·rename_i hn
    rw [hf, Bool.true_and, Bool.not_eq_true', Bool.not_eq_false] at hn
    exact aL1 name r _ _ (by simpa using hn)
  ·split
   ·exact aU1 name r _ x hx hf
   ·exact aU1 name r _ x hx hf
theorem bT8 {l : List aa2} {a : Str} (h : aq9 l ax6 a ax6 ≠ []) : (aE4 l ax6).contains a = true := by
 have hne : l.filter (bG7 ax6 a) ≠ [] := by
  intro e
  apply h
  unfold aq9
  rw [e]; rfl
 obtain ⟨x, hx⟩ := List.exists_mem_of_ne_nil _ hne
 obtain ⟨hm, hh⟩ := List.mem_filter.1 hx
 unfold bG7 at hh
 simp only [Bool.and_eq_true, decide_eq_true_eq] at hh
 have := aU1 ax6 l [] x hm hh.1
 rw [hh.2] at this
 simpa [aE4] using this
theorem b33 {l : List aa2} {host h2 : Str} {a x : aa3} (h : (ah8 l host a).2 = 0) (hx : x ∈ (ah8 l host a).1) :
  (aA6 l aW4).contains x.Net = true ∧ am7 x = true ∧ aQ8 x.Service = true ∧ ((x.Host = [42] ∨ (x.Host ≠ a73 ∧ (aE4 l ax6).contains x.Host = true)) → ah8 l h2 x = ([x], 0)) := by
 obtain ⟨hv, he, _⟩ := bG9 h
 rw [he] at hx
 obtain ⟨n, hn, hx⟩ := List.mem_flatMap.1 hx
 unfold am6 at hx
 split at hx
 ·simp at hx
 ·rename_i hp
  obtain ⟨ho, hho, rfl⟩ := List.mem_map.1 hx
  have hport : aQ8 (ax8 l n a.Service) = true := by
   rcases b08 l n a.Service with h | h
   ·exact absurd h hp
   ·exact h
  obtain ⟨m1, m2, m3, _⟩ := bl3 hn
  have hc : (aA6 l aW4).contains n = true := by
   rw [List.contains_iff_mem, bz5]
   exact List.mem_filter.2 ⟨m1, by simp [m2, m3]⟩
  have hv2 : a.Host = [42] ∨ aH0 a.Host = true := by
   unfold am7 at hv
   simp only [Bool.and_eq_true, Bool.or_eq_true, decide_eq_true_eq] at hv
   exact hv.2.1
  have hhost := b09 hv2 hho
  have hlet := bf8 hport
  have hval : am7 ⟨n, ho, ax8 l n a.Service⟩ = true := by
   unfold am7 ce2
   simp only [m2, hlet, Bool.or_true, Bool.and_true, Bool.true_and]
   rcases hhost with h | h
   ·simp [h]
   ·simp [h]
  refine ⟨hc, hval, hport, fun hcase => ?_⟩
  have e1 : aA6 l n = [n] := by rw [b06 m3, hc]; rfl
  have e2 : aw3 l h2 ho = [ho] := by
   unfold aw3
   by_cases h42 : ho = [42]
   ·rw [if_pos h42]
   ·rw [if_neg h42]
    rcases hcase with h | ⟨h1, h2⟩
    ·exact absurd h h42
    ·simp only at h1 h2
     rw [if_neg h1, h2, if_pos rfl]
  have e3 : ax8 l n (ax8 l n a.Service) = ax8 l n a.Service := by
   generalize ax8 l n a.Service = p at hp hport
   rw [ax8, if_neg hp, a77, if_pos hport]
  unfold ah8
  simp only [hval, Bool.true_eq_false, if_false, e1, e2, List.flatMap_cons, List.flatMap_nil, List.append_nil, am6, e3, hp, List.map_cons, List.map_nil, reduceCtorEq]
theorem a49 {w : Str} (hw : ∀ c ∈ w, bg6 c = false) : ∀ (cur r : Str), bb8 cur (w ++ r) = bb8 (cur ++ w) r := by
 induction w with
 | nil => intro cur r; simp
 | cons c w ih =>
  intro cur r
  rw [List.cons_append, bt8 (hw c (by simp)), ih (fun x hx => hw x (by simp [hx]))]
  simp
theorem bT9 {c : UInt8} (h : bg6 c = true) : c = 32 ∨ c = 9 ∨ c = 10 ∨ c = 13 := by
  unfold bg6 at h
  simp only [Bool.or_eq_true, decide_eq_true_eq] at h
  rcases h with h | h | h | h
  · exact .inl (UInt8.toNat_inj.1 (by have : c.toNat = 32 := by omega
                                      rw [this]; rfl))
  · exact .inr (.inl (UInt8.toNat_inj.1 (by have : c.toNat = 9 := by omega
                                            rw [this]; rfl)))
  · exact .inr (.inr (.inl (UInt8.toNat_inj.1 (by have : c.toNat = 10 := by omega
                                                  rw [this]; rfl))))
  · exact .inr (.inr (.inr (UInt8.toNat_inj.1 (by have : c.toNat = 13 := by omega
                                                  rw [this]; rfl))))
theorem aN9 {s more : Str} {m : Nat} (h : ak4 s more m = true) (hm : dC more 32 = false ∧ dC more 9 = false ∧ dC more 10 = false ∧ dC more 13 = false) : ∀ c ∈ s, bg6 c = false := by
 intro c hc
 cases hs : bg6 c with
 | false => rfl
 | true =>
  exfalso
  rcases bT9 hs with rfl | rfl | rfl | rfl
  ·exact au5 h hm.1 hc
  ·exact au5 h hm.2.1 hc
  ·exact au5 h hm.2.2.1 hc
  ·exact au5 h hm.2.2.2 hc
theorem bU0 {x : aa3} (h : am7 x = true) : (aw1 x).2 = 0 ∧ (aw1 x).1 ≠ [] ∧ (aw1 x).1.length ≤ 200 ∧ ∀ c ∈ (aw1 x).1, bg6 c = false := by
 have hl := aJ2 h
 have hv := h
 unfold am7 bR1 ce2 aH0 at h
 simp only [Bool.and_eq_true, Bool.or_eq_true, decide_eq_true_eq] at h
 obtain ⟨⟨h1, _⟩, h2, h3⟩ := h
 unfold aw1
 rw [if_pos hv]
 have n1 := aN9 h1 (by decide)
 have n2 : ∀ c ∈ x.Host, bg6 c = false := by
  rcases h2 with h | h
  ·rw [h]; intro c hc; rw [List.mem_singleton.1 hc]; decide
  ·exact aN9 h (by decide)
 have n3 : ∀ c ∈ (if x.Service = [] then [] else [33] ++ x.Service), bg6 c = false := by
  intro c hc
  split at hc
  ·cases hc
  ·rename_i hs
   rcases List.mem_append.1 hc with hc | hc
   ·rw [List.mem_singleton.1 hc]; decide
   ·rcases h3 with h | h
    ·exact absurd h hs
    ·exact aN9 h (by decide) c hc
 have e33 : bg6 33 = false := by decide
 refine ⟨rfl, by simp, ?_, fun c hc => ?_⟩
 ·simp only [List.length_append, List.length_cons, List.length_nil]
  split
  ·simp; omega
  ·simp; omega
 ·rcases List.mem_append.1 hc with hc | hc
  ·rcases List.mem_append.1 hc with hc | hc
   ·rcases List.mem_append.1 hc with hc | hc
    ·exact n1 c hc
    ·rw [List.mem_singleton.1 hc]; exact e33
   ·exact n2 c hc
  ·exact n3 c hc
variable {l : List aa2} {a b address : Str} {x : aa3}
theorem aR3 : aj8 = some true := rfl
def S0 (a : Str) : aa0 := aR0 1 a uA
def M1 (l : List aa2) (a : Str) : aa1 := aa1.mk l 2 [S0 a]
def Sx (a : Str) (x : aa3) : aa0 := anT x (S0 a)
def M2 (l : List aa2) (a : Str) (x : aa3) : aa1 := aa1.mk l 2 [Sx a x]
def M3 (l : List aa2) (a b : Str) (x : aa3) : aa1 := aa1.mk l 3 [Sx a x, aR0 2 b uB]
def ob (b : Str) (x : aa3) : aa3 := aR2 (aR0 2 b uB) x
def Tx (b : Str) (x : aa3) : aa0 := opT 3 x (ob b x) (aR0 2 b uB)
def Cx (a b : Str) (x : aa3) : aa0 := a78 3 2 (ob b x) (Sx a x)
def M4 (l : List aa2) (a b : Str) (x : aa3) : aa1 := aa1.mk l 4 [{ Sx a x with Backlog := [3] }, Tx b x, Cx a b x]
def M5 (l : List aa2) (a b : Str) (x : aa3) : aa1 := aa1.mk l 4 [Sx a x, Tx b x, { Cx a b x with Opens := 1 }]
def M6 (l : List aa2) (a b : Str) (x : aa3) : aa1 := aa1.mk l 4 [Sx a x, Tx b x, { Cx a b x with Opens := 1, Data := aW6 }]
theorem fit00 (hl : l.length ≤ 50) (hz : (aN6 l).2 = 0) : Fit (bI9 l) := by
 refine ⟨⟨hz, show (1 : Int) ≤ 1 by omega, show (1 : Int) ≤ 1048576 by omega, show 0 ≤ 64 by omega, fun t h => (nomatch h), ?_⟩, ⟨bu8 hl hz, fun t h => (nomatch h), fun t h => (nomatch h)⟩⟩
 exact { inc := .nil, rng := fun t h => (nomatch h), blen := fun t h => (nomatch h), bst := fun t h => (nomatch h), bnd := fun t h => (nomatch h), bc := fun t h => (nomatch h), pe := fun t h => (nomatch h), p0 := fun t h => (nomatch h), an := fun t h => (nomatch h), au := fun t h => (nomatch h), w1 := fun t h => (nomatch h), w2 := fun t h => (nomatch h) }
theorem b61 : aM4 (bI9 l) a uA 2 = (M1 l a, 17, false, 0) := by
 unfold aM4
 rw [eC2]; rfl
theorem pFitA (f : Fit (bI9 l)) (ha : a.length ≤ 100) : Fit (M1 l a) := by
 have := (bn1 (host := a) (user := uA) f (by omega) 2).1.fit
 rw [b61] at this; exact this
theorem b34 {n : aa1} {t : aa0} {w : Str} (h : (bH6 n t w).2 = 0) : ∃ x y, (ah8 n.Db t.Host y).2 = 0 ∧ x ∈ (ah8 n.Db t.Host y).1 ∧ x.Host = t.Host ∧ bH6 n t w = (aa1.mk n.Db n.Next (upT n.Talks t.Id (anT x)), 0) := by
 unfold bH6 at h ⊢
 split at h
 ·cases h
 ·rename_i h1
  rw [if_neg h1]
  split at h
  ·rename_i h2; exact absurd h h2
  ·rename_i h2
   rw [if_neg h2]
   unfold b22 at h ⊢
   split at h
   ·rename_i h3; exact absurd h h3
   ·rename_i h3
    rw [if_neg h3]
    cases hl : (ah8 n.Db t.Host (aW5 (ae8 w).1)).1 with
    | nil => rw [hl] at h; cases h
    | cons x r =>
     rw [hl] at h
     simp only at h ⊢
     split at h
     ·cases h
     ·rename_i h4
      rw [if_neg h4]
      split at h
      ·cases h
      ·rename_i h5
       rw [if_neg h5]
       exact ⟨x, aW5 (ae8 w).1, Decidable.not_not.1 h3, by rw [hl]; simp, Decidable.not_not.1 h4, rfl⟩
theorem bA6 {n : aa1} {host user : Str} {id : Int} {ws : List Str} {t : aa0} (h1 : fdT n.Talks id = some t) (h2 : t.Host = host) (h3 : t.Owner = user) : a79 n host user id ws = bm9 n t ws := by
 unfold a79
 rw [h1]
 simp only
 rw [if_neg (by rw [h2]; simp), if_neg (by rw [h3]; simp)]
theorem cc8 {n : aa1} {t : aa0} {ws : List Str} (h : (bm9 n t (aj6 :: ws)).2 = 0) : ∃ w, ws = [w] ∧ bm9 n t (aj6 :: ws) = bH6 n t w := by
 cases ws with
 | nil =>
  exfalso
  revert h
  simp [bm9, aj6, bu3]
 | cons w r =>
  cases r with
  | nil => exact ⟨w, rfl, by simp [bm9]⟩
  | cons u r => exfalso; revert h; simp [bm9]
theorem ci3 {ws : List Str} (h : (a79 (M1 l a) a uA 1 (aj6 :: ws)).2 = 0) : ∃ x y, (ah8 l a y).2 = 0 ∧ x ∈ (ah8 l a y).1 ∧ x.Host = a ∧ a79 (M1 l a) a uA 1 (aj6 :: ws) = (M2 l a x, 0) := by
 rw [bA6 (host := a) (user := uA) (t := S0 a) rfl rfl rfl] at h ⊢
 obtain ⟨w, rfl, e⟩ := cc8 h
 rw [e] at h ⊢
 obtain ⟨x, y, h1, h2, h3, h4⟩ := b34 h
 exact ⟨x, y, h1, h2, h3, h4⟩
theorem pFitB {ws : List Str} (f : Fit (M1 l a)) (h : a79 (M1 l a) a uA 1 (aj6 :: ws) = (M2 l a x, 0)) : Fit (M2 l a x) := by
 have := (bu5 (host := a) (id := 1) f uA (aj6 :: ws)).fit
 rw [h] at this; exact this
theorem b62 : aM4 (M2 l a x) b uB 2 = (M3 l a b x, 33, false, 0) := by
 unfold aM4
 rw [eC2]; rfl
theorem pFitC (f : Fit (M2 l a x)) (hb : b.length ≤ 100) : Fit (M3 l a b x) := by
 have := (bn1 (host := b) (user := uB) f (by omega) 2).1.fit
 rw [b62] at this; exact this
theorem ci4 {s : Str} (hx : x.Host = a) (hp : ae8 s = (x, 0)) (ht : ah8 l b x = ([x], 0)) : a79 (M3 l a b x) b uB 2 [ax9, s] = (M4 l a b x, 0) := by
 rw [bA6 (host := b) (user := uB) (t := aR0 2 b uB) rfl rfl rfl]
 have e : bm9 (M3 l a b x) (aR0 2 b uB) [ax9, s] = bS7 (M3 l a b x) (aR0 2 b uB) s := by
  simp [bm9, ax9, aj6]
 rw [e]
 unfold bS7
 rw [hp]
 rw [if_neg (by show ¬ ((1 : Int) ≠ 1); omega), if_neg (by show ¬ ((0 : Int) ≠ 0); omega)]
 rw [show ah8 (M3 l a b x).Db (aR0 2 b uB).Host (x, (0 : Int)).1 = ([x], 0) from ht]
 rw [if_neg (by show ¬ ((0 : Int) ≠ 0); omega), if_neg (by show ¬ (64 ≤ 2 ∨ 1048575 < (3 : Int)); omega)]
 unfold aT9
 have hs : bH7 x (Sx a x) = true := by
  unfold bH7 Sx anT S0 aR0
  simp [hx]
 have hf : (M3 l a b x).Talks.find? (bH7 x) = some (Sx a x) := by
  show List.find? (bH7 x) [Sx a x, aR0 2 b uB] = _
  rw [List.find?_cons, hs]
 rw [hf]
 rfl
theorem pFitD {s : Str} (f : Fit (M3 l a b x)) (h : a79 (M3 l a b x) b uB 2 [ax9, s] = (M4 l a b x, 0)) : Fit (M4 l a b x) := by
 have := (bu5 (host := b) (id := 2) f uB [ax9, s]).fit
 rw [h] at this; exact this
theorem b63 : TFile (M4 l a b x) a 19 { Sx a x with Backlog := [3] } 0 3 := ⟨rfl, rfl, by omega, by omega, rfl, show (1 : Int) ≤ 1 by omega, show (1 : Int) ≤ 1048575 by omega⟩
theorem b64 : bm5 (M4 l a b x) 19 3 { Sx a x with Backlog := [3] } uA 2 = (M5 l a b x, 49, false, 0) := by
 unfold bm5
 rw [show eT 3 { Sx a x with Backlog := [3] } uA 2 = 0 from p26]; rfl
theorem pFitE (f : Fit (M4 l a b x)) : Fit (M5 l a b x) := by
 have := (bT5 (host := a) (id := 19) (k := 3) f (List.mem_of_getElem? b63.at_) rfl uA 2).1.fit
 rw [b64] at this; exact this
theorem b65 : TFile (M5 l a b x) b 34 (Tx b x) 1 2 := ⟨rfl, rfl, by omega, by omega, rfl, show (1 : Int) ≤ 2 by omega, show (2 : Int) ≤ 1048575 by omega⟩
theorem b66 : a48 (M5 l a b x) uB 2 (Tx b x) aW6 (au6 aW6) = (M6 l a b x, 5, false, 0) := rfl
theorem pFitF (f : Fit (M5 l a b x)) : Fit (M6 l a b x) := by
 have := (bI2 (host := b) (k := 2) f (List.mem_of_getElem? b65.at_) rfl uB aW6 (au6 aW6)).1.fit
 rw [b66] at this; exact this
theorem ci5 : TFile (M6 l a b x) a 50 { Cx a b x with Opens := 1, Data := aW6 } 2 2 := ⟨rfl, rfl, by omega, by omega, rfl, show (1 : Int) ≤ 3 by omega, show (3 : Int) ≤ 1048575 by omega⟩
theorem ci6 : ∃ m, cc3 (M6 l a b x) 2 { Cx a b x with Opens := 1, Data := aW6 } 0 9 = (m, aW6, false, 0) := ⟨_, rfl⟩
theorem ctlQ {n : aa1} {host user line : Str} {id : Int} {ws : List Str} (f : Fit n) (hl : line.length ≤ 10000) (hf : au6 line = ws) : ae3 n host user id line = some (a79 n host user id ws) :=
 b60 f.g f.L user (by rw [bg0 (by omega), hf]) (by rw [← hf]; exact bn2 hl)
def b67 : Str := [97, 110, 110, 111, 117, 110, 99, 101, 32]
def b68 : Str := [99, 111, 110, 110, 101, 99, 116, 32]
theorem bI3 (s : Str) : au6 (b67 ++ s) = aj6 :: au6 s := by
 have e : b67 ++ s = aj6 ++ 32 :: s := rfl
 unfold au6
 rw [e, a49 (by decide), aY1 (by decide)]
 rfl
theorem bI4 {s : Str} (h : s ≠ []) (hs : ∀ c ∈ s, bg6 c = false) : au6 (b68 ++ s) = [ax9, s] := by
 have e : b68 ++ s = ax9 ++ 32 :: s := rfl
 have e2 : bb8 [] s = [s] := by
  have := a49 hs [] []
  rw [List.append_nil, List.nil_append, bf9, if_neg h] at this
  exact this
 unfold au6
 rw [e, a49 (by decide), aY1 (by decide), e2]
 rfl
theorem bI5 (f : Fit (bI9 l)) (ha : a.length ≤ 100) (hb : b.length ≤ 100) (hself : a ≠ a73) (had : address.length ≤ 200) (hq : (aE4 l ax6).contains a = true) :
  ((ag5 (bI9 l) a uA 3 2).bind fun x12 => if (!decide (x12.2.2.2 = 0)) then some false else (ay2 b67 address).bind fun x14 => (ae3 x12.1 a uA 1 x14).bind fun x15 => if (!decide (x15.2 = 0)) then (aj8).bind fun x17 => some x17 else (ad5 x15.1.Talks 0).bind fun x18 => (ap5 x18.Local).bind fun x19 => if (!decide (x19.2 = 0)) then some false else (ag5 x15.1 b uB 3 2).bind fun x21 => if (!decide (x21.2.2.2 = 0)) then some false else (ay2 b68 x19.1).bind fun x23 => (ae3 x21.1 b uB 2 x23).bind fun x24 => (if (!decide (x24.2 = 0)) then some true else if (!decide ((List.length x24.1.Talks : Int) = 3)) then some true else (ad5 x24.1.Talks 1).bind fun x27 => some (!(decide (x27.Remote.Net = x18.Local.Net) && (decide (x27.Remote.Host = x18.Local.Host) && (decide (x27.Remote.Service = x18.Local.Service) && true))))).bind fun t28 => if t28 then some false else (ag5 x24.1 a uA 19 2).bind fun x30 => if ((!decide (x30.2.2.2 = 0)) || (x30.2.2.1 || (!decide (x30.2.1 = 49)))) then some false else (ao8 x30.1 b uB 34 aW6).bind fun x35 => (au4 x35.1 a 50 0 9).bind fun x36 => (if (decide (x35.2.2.2 = 0)) then if (decide (x36.2.1 = aW6)) then if (!x36.2.2.1) then if (decide (x36.2.2.2 = 0)) then (aj8).bind fun x41 => some x41 else some false else some false else some false else some false).bind fun t42 => some t42) = some true := by
 have e1 : ag5 (bI9 l) a uA 3 2 = some (M1 l a, 17, false, 0) := by rw [← b61]; exact bb9 f.g f.mod w2
 have f1 := pFitA f ha
 have c1 : ay2 b67 address = some (b67 ++ address) := ad7 (by simp [b67]; omega)
 have e2 : ae3 (M1 l a) a uA 1 (b67 ++ address) = some (a79 (M1 l a) a uA 1 (aj6 :: au6 address)) := ctlQ f1 (by simp [b67]; omega) (bI3 address)
 rw [e1, Option.bind_some]
 simp only [decide_true, Bool.not_true, Bool.false_eq_true, if_false, c1, Option.bind_some, e2]
 by_cases hz : (a79 (M1 l a) a uA 1 (aj6 :: au6 address)).2 = 0
 ·obtain ⟨x, y, t1, t2, hx, e3⟩ := ci3 hz
  have f2 := pFitB f1 e3
  have hset := b33 (h2 := b) t1 t2
  obtain ⟨_, hv, _, hback⟩ := hset
  have ht : ah8 l b x = ([x], 0) := hback (.inr ⟨by rw [hx]; exact hself, by rw [hx]; exact hq⟩)
  have hlen := aJ2 hv
  obtain ⟨p1, p2, p3, p4⟩ := bU0 hv
  have hp : ap5 x = some (aw1 x) := bt2 (by omega) (by omega) (by omega)
  have hpar := bl8 hv
  have e4 : ag5 (M2 l a x) b uB 3 2 = some (M3 l a b x, 33, false, 0) := by rw [← b62]; exact bb9 f2.g f2.mod w2
  have f3 := pFitC f2 hb
  have c2 : ay2 b68 (aw1 x).1 = some (b68 ++ (aw1 x).1) := ad7 (by simp [b68]; omega)
  have hD := ci4 (l := l) (b := b) hx hpar ht
  have e5 : ae3 (M3 l a b x) b uB 2 (b68 ++ (aw1 x).1) = some (M4 l a b x, 0) := by
   rw [← hD]
   exact ctlQ f3 (by simp [b68]; omega) (bI4 p2 p4)
  have f4 := pFitD f3 hD
  have e6 : ag5 (M4 l a b x) a uA 19 2 = some (M5 l a b x, 49, false, 0) := by rw [← b64]; exact bS5 f4.g f4.mod b63 w2
  have f5 := pFitE f4
  have e7 : ao8 (M5 l a b x) b uB 34 aW6 = some (M6 l a b x, 5, false, 0) := by rw [← b66]; exact bI0 f5.g f5.L b65 uB (by decide) (fun h => absurd h (by decide)) (bn2 (by decide))
  have f6 := pFitF f5
  obtain ⟨m, hG⟩ := ci6 (l := l) (a := a) (b := b) (x := x)
  have e8 : au4 (M6 l a b x) a 50 0 9 = some (m, aW6, false, 0) := by rw [← hG]; exact bT3 f6.g f6.L ci5 0 9
  have l0 : ad5 (M2 l a x).Talks 0 = some (Sx a x) := rfl
  have l1 : ad5 (M4 l a b x).Talks 1 = some (Tx b x) := rfl
  have l3 : decide ((List.length (M4 l a b x).Talks : Int) = 3) = true := rfl
  have eL : (Sx a x).Local = x := rfl
  have eR : (Tx b x).Remote = x := rfl
  simp only [e3, decide_true, Bool.not_true, Bool.false_eq_true, if_false, l0, Option.bind_some, eL, hp, p1, e4, c2, e5, l3, l1, eR, Bool.and_self, e6, Bool.or_self, e7, e8, Bool.not_false, if_true, aR3]
 ·simp only [hz, decide_false, Bool.not_false, if_true, aR3, Option.bind_some]
theorem aO0 (l : List aa2) (hosts : Str × Str) (address : Str) (w0 : List.length l ≤ aV1 ∧ ∀ y ∈ l, aw0 y) (w1 : aK9 hosts) (w2 : List.length address ≤ maxLen) : av0 l hosts address = some true := by
 obtain ⟨a, b⟩ := hosts
 unfold av0
 by_cases g1 : (50 : Int) < (List.length l : Int)
 ·simp [g1, aR3]
 by_cases g2 : (100 : Int) < (List.length a : Int)
 ·simp [g1, g2, aR3]
 by_cases g3 : (100 : Int) < (List.length b : Int)
 ·simp [g1, g2, g3, aR3]
 by_cases g4 : (200 : Int) < (List.length address : Int)
 ·simp [g1, g2, g3, g4, aR3]
 by_cases g5 : a = [115, 101, 108, 102]
 ·simp [g1, g2, g3, g4, g5, aR3]
 have hB : bgX l := by
  refine ⟨by omega, fun x hx => ?_⟩
  have := w0.2 x hx
  unfold aw0 aG4 aV1 maxLen at this
  exact ⟨by omega, fun y hy => by have := this.2 y hy; omega⟩
 have hR := bT7 hB
 unfold bI9 at hR
 simp only [g1, g2, g3, g4, g5, decide_false, Bool.false_eq_true, if_false, hR, Option.bind_some]
 by_cases hz : (aN6 l).2 = 0
 ·have hx := bu8 hB.1 hz
  have hQ : al2 l [104, 111, 115, 116] a [104, 111, 115, 116] = some (aq9 l ax6 a ax6) := aY0 hx.okT.1
  simp only [hz, decide_true, Bool.not_true, Bool.false_eq_true, if_false, hQ, Option.bind_some]
  by_cases hq : aq9 l ax6 a ax6 = []
  ·simp [hq, aR3]
  ·have hn : ¬ ((List.length (aq9 l ax6 a ax6) : Int) = 0) := by
    intro e
    apply hq
    rw [← List.length_eq_zero_iff]; omega
   simp only [hn, decide_false, Bool.false_eq_true, if_false]
   exact bI5 (fit00 hB.1 hz) (by omega) (by omega) g5 (by omega) (bT8 hq)
 ·simp [hz, aR3]
end Go.Proofs.YtpnaccnofbkhiaaGreatDoor
