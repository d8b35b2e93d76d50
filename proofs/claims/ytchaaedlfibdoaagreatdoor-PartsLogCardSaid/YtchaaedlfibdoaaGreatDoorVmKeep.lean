import Derived.Test.YtchaaedlfibdoaaGreatDoorVmRegion2
open List (map_map mem_append mem_cons mem_map nodup_cons)
namespace Go.Vm
open Go.RowKit (Below)
def bv9 [Mode] (N : Nat) (w0 : Base) (I0 : Prot) (st : VSt) (a : Act) (w : World) : Prop :=
 (N ≤ a.tmps.size ∧ N ≤ 1000000) ∧ ∃ I ρ, RepA w0 I0 (look st.tm) (ae3 st.hp) a w I ρ ∧ ∀ k, st.nx ≤ k → ρ k = none
def Sub [Mode] (st' st : VSt) : Prop := ∀ (N : Nat) (w0 : Base) (I0 : Prot) (a : Act) (w : World), bv9 N w0 I0 st a w → bv9 N w0 I0 st' a w
theorem Sub.refl [Mode] (st : VSt) : Sub st st := fun _ _ _ _ _ h => h
theorem Sub.trans [Mode] {a b c : VSt} (h : Sub a b) (h' : Sub b c) : Sub a c := fun N w0 I0 x w hr => h N w0 I0 x w (h' N w0 I0 x w hr)
theorem aB2 : ∀ {l : List Nat} {k : Nat}, k ∈ l → az6 l k < l.length ∧ l[az6 l k]? = some k
 | x :: r, k, h => by
  simp only [az6]
  split
  ·rename_i hx; subst hx; simp
  ·rename_i hx
   have hk : k ∈ r := by
    rcases mem_cons.1 h with h | h
    ·exact absurd h.symm hx
    ·exact h
   obtain ⟨h1, h2⟩ := aB2 hk
   exact ⟨by simp; omega, by simpa using h2⟩
mutual
theorem RepH.ren {w : World} {I : Prot} {ρ ρ' : Nat → Option Loc} {π : Nat → Nat} : ∀ {h : HV} {v : Value}, RepH w I ρ h v → (∀ id ∈ h.ids, ρ' (π id) = ρ id) → RepH w I ρ' (h.ren π) v
 | _, _, .undef, _ => .undef
 | _, _, .any a n c, _ => .any a n c
 | _, _, .pv h, _ => .pv h
 | _, _, .agg h, hi => .agg (RepHs.ren h hi)
 | _, _, .tup h, hi => .tup (RepHs.ren h hi)
 | _, _, .oslNil h, hi => .oslNil (by rw [hi _ (by simp [HV.ids])]; exact h)
 | _, _, .osl h hn hl, hi => .osl (by rw [hi _ (by simp [HV.ids])]; exact h) hn hl
 | _, _, .oslEnd h ho, hi => .oslEnd (by rw [hi _ (by simp [HV.ids])]; exact h) ho
 | _, _, .optr h, hi => .optr (by rw [hi _ (by simp [HV.ids])]; exact h)
 | _, _, .omap h, hi => .omap (by rw [hi _ (by simp [HV.ids])]; exact h)
 | _, _, .fn f h, hi => .fn f (RepHs.ren h hi)
theorem RepHs.ren {w : World} {I : Prot} {ρ ρ' : Nat → Option Loc} {π : Nat → Nat} : ∀ {hs : List HV} {vs : List Value}, RepHs w I ρ hs vs → (∀ id ∈ aC8 hs, ρ' (π id) = ρ id) → RepHs w I ρ' (aF9 π hs) vs
 | _, _, .nil, _ => .nil
 | _, _, .cons h r, hi => .cons (RepH.ren h fun id hid => hi id (by simp [aC8, hid])) (RepHs.ren r fun id hid => hi id (by simp [aC8, hid]))
end
theorem bZ9 (π : Nat → Nat) (h : HV) : (h.ren π).one = h.one := by cases h <;> rfl
theorem aB3 (π : Nat → Nat) : ∀ hs : List HV, aF9 π hs = hs.map (HV.ren π)
 | [] => rfl
 | _ :: r => by simp [aF9, aB3 π r]
theorem bJ6 (π : Nat → Nat) (sh : Shape) (h : HV) : (h.ren π).fits sh = h.fits sh := by
 cases sh with
 | none => simp only [HV.fits, bZ9]
 | some n =>
  cases h with
  | agg cs =>
   simp only [HV.ren, HV.fits, aB3, List.length_map, List.all_map]
   congr 1
   apply congrArg (fun f => cs.all f)
   funext x
   exact bZ9 π x
  | _ => rfl
theorem bw0 (π : Nat → Nat) (h : HV) : (h.ren π).cells = aF9 π h.cells := by
 cases h with
 | pv p => cases p <;> simp [HV.ren, HV.cells, aB3]
 | _ => simp [HV.ren, HV.cells, aF9]
theorem bm1 (h : HV) : ∀ id ∈ aC8 h.cells, id ∈ h.ids := by
 intro id hid
 cases h with
 | pv p =>
  exfalso
  have : ∀ l : List PV, aC8 (l.map HV.pv) = [] := by
   intro l
   induction l with
   | nil => rfl
   | cons a r ih => simp [aC8, HV.ids, ih]
  cases p <;> simp [HV.cells, aC8, HV.ids, this] at hid
 | agg cs => exact hid
 | tup cs => simpa [HV.cells, aC8] using hid
 | osl _ _ _ => simpa [HV.cells, aC8] using hid
 | optr _ _ _ => simpa [HV.cells, aC8] using hid
 | omap _ => simpa [HV.cells, aC8] using hid
 | fn _ _ => simpa [HV.cells, aC8] using hid
 | undef => simp [HV.cells, aC8, HV.ids] at hid
 | any => simp [HV.cells, aC8, HV.ids] at hid
theorem aX5 (π : Nat → Nat) : ∀ a b : List HV, aF9 π (a ++ b) = aF9 π a ++ aF9 π b
 | [], b => rfl
 | x :: a, b => by simp [aF9, aX5 π a b]
theorem aE1 {h : HV} : ∀ {hs : List HV}, h ∈ hs → ∀ id ∈ h.ids, id ∈ aC8 hs
 | x :: r, hm, id, hid => by
  simp only [aC8, mem_append]
  rcases mem_cons.1 hm with rfl | hm
  ·exact .inl hid
  ·exact .inr (aE1 hm id hid)
theorem aN1 {id : Nat} : ∀ {hs : List HV}, id ∈ aC8 hs → ∃ h ∈ hs, id ∈ h.ids
 | x :: r, hm => by
  simp only [aC8, mem_append] at hm
  rcases hm with hm | hm
  ·exact ⟨x, by simp, hm⟩
  ·obtain ⟨h, h1, h2⟩ := aN1 hm
   exact ⟨h, by simp [h1], h2⟩
theorem RowRep.ren {w : World} {I : Prot} {ρ ρ' : Nat → Option Loc} {π : Nat → Nat} {l : Loc} {r : Row} (h : RowRep w I ρ l r) (hi : ∀ id ∈ r.ids, ρ' (π id) = ρ id) : RowRep w I ρ' l (r.ren π) := by
 have hes : (r.ren π).es = aF9 π r.es := by
  cases r with
  | p sh es tk =>
   simp only [Row.ren, Row.es, aB3, map_map]
   rfl
  | h sh es => rfl
  | room sh es =>
   simp only [Row.ren, Row.es, aB3, map_map]
   rfl
  | b T e s => rfl
  | m es ck => rfl
 have hsh : (r.ren π).sh = r.sh := by cases r <;> rfl
 have hids : ∀ id ∈ aC8 r.es, ρ' (π id) = ρ id := by
  intro id hid
  cases r with
  | p sh es tk =>
   obtain ⟨x, hx, hid⟩ := aN1 hid
   simp only [Row.es, mem_map] at hx
   obtain ⟨p, _, rfl⟩ := hx
   simp [HV.ids] at hid
  | h sh es => exact hi id hid
  | room sh es =>
   obtain ⟨x, hx, hid⟩ := aN1 hid
   simp only [Row.es, mem_map] at hx
   obtain ⟨p, _, rfl⟩ := hx
   simp [HV.ids] at hid
  | b T e s => simp [Row.es, aC8] at hid
  | m es ck => simp [Row.es, aC8] at hid
 cases l with
 | nil =>
  have : r.es = [] := h
  show (r.ren π).es = []
  rw [hes, this]; rfl
 | blk g n sh =>
  cases hm : r.asM with
  | some q =>
   obtain rfl := a94 hm
   exact h
  | none =>
  obtain ⟨h1, h2, cur, t, vs, h3, h4, h5, h6, h7⟩ := h.cells hm
  refine .of_cells (by cases r <;> first | rfl | cases hm) ⟨by rw [hsh]; exact h1, fun e he => ?_, cur, t, vs, h3, h4, ?_, h6, by cases r <;> exact h7⟩
  ·rw [hes, aB3, mem_map] at he
   obtain ⟨x, hx, rfl⟩ := he
   rw [bJ6]; exact h2 x hx
  ·have hfl : (r.ren π).flat = aF9 π r.flat := by
    unfold Row.flat
    rw [hes]
    generalize r.es = es
    induction es with
    | nil => rfl
    | cons x es ih => simp only [aF9, List.flatMap_cons, aX5, bw0, ih]
   rw [hfl]
   refine h5.ren fun id hid => hids id ?_
   obtain ⟨x, hx, hid⟩ := aN1 hid
   obtain ⟨y, hy, hx⟩ := List.mem_flatMap.1 hx
   exact aE1 hy id (bm1 y id (aE1 hx id hid))
theorem aN2 (tm : List (Nat × HV)) : ∀ (ks : List Nat) (s : Nat) (h : HV), look (a67 tm ks) s = some h → look tm s = some h ∧ (s, h) ∈ a67 tm ks
 | [], s, h, hs => by simp [a67, look] at hs
 | k :: ks, s, h, hs => by
  simp only [a67] at hs ⊢
  split at hs
  ·rename_i x hx
   simp only [look] at hs
   split at hs
   ·rename_i hk
    simp only [oI] at hs
    subst hs; subst hk
    exact ⟨hx, by simp⟩
   ·obtain ⟨h1, h2⟩ := aN2 tm ks s h hs
    exact ⟨h1, by simp [h2]⟩
  ·rename_i hx
   obtain ⟨h1, h2⟩ := aN2 tm ks s h hs
   exact ⟨h1, h2⟩
theorem bq7 {α β : Type} (f : α → β) : ∀ (tm : List (Nat × α)) (s : Nat), look (tm.map fun x => (x.1, f x.2)) s = (look tm s).map f
 | [], s => rfl
 | (k, v) :: tm, s => by
  simp only [List.map_cons, look]
  split
  ·rfl
  ·exact bq7 f tm s
theorem aR4 (hp : List (Nat × Option Row)) (π : Nat → Nat) : ∀ (l : List Nat) (i k : Nat) (r : Row), ae3 (bb3 hp π i l) k = some r → ∃ j id x, k = i + j ∧ l[j]? = some id ∧ ae3 hp id = some x ∧ r = x.ren π
 | [], i, k, r, h => by simp [bb3, ae3, look] at h
 | id :: l, i, k, r, h => by
  simp only [bb3] at h
  split at h
  ·rename_i x hx
   unfold ae3 at h
   simp only [look] at h
   split at h
   ·rename_i hk
    simp only [oB, oI] at h
    exact ⟨0, id, x, by omega, rfl, hx, h.symm⟩
   ·obtain ⟨j, id', x', h1, h2, h3, h4⟩ := aR4 hp π l (i + 1) k r h
    exact ⟨j + 1, id', x', by omega, by simpa using h2, h3, h4⟩
  ·obtain ⟨j, id', x', h1, h2, h3, h4⟩ := aR4 hp π l (i + 1) k r h
   exact ⟨j + 1, id', x', by omega, by simpa using h2, h3, h4⟩
theorem aR5 {α : Type} : ∀ {l : List α}, l.Nodup → ∀ {i j : Nat} {x : α}, l[i]? = some x → l[j]? = some x → i = j
 | a :: l, hn, 0, 0, x, _, _ => rfl
 | a :: l, hn, 0, j + 1, x, h1, h2 => by
  simp at h1 h2
  subst h1
  exact absurd (List.mem_of_getElem? h2) (nodup_cons.1 hn).1
 | a :: l, hn, i + 1, 0, x, h1, h2 => by
  simp at h1 h2
  subst h2
  exact absurd (List.mem_of_getElem? h1) (nodup_cons.1 hn).1
 | a :: l, hn, i + 1, j + 1, x, h1, h2 => by
  simp at h1 h2
  rw [aR5 (nodup_cons.1 hn).2 h1 h2]
theorem aT2 (hp : List (Nat × Option Row)) : ∀ (n : Nat) (todo seen l : List Nat), bu2 hp n todo seen = some l → seen.Nodup →
  l.Nodup ∧ (∀ x ∈ todo, x ∈ l) ∧ (∀ x ∈ seen, x ∈ l) ∧ ∀ id ∈ l, id ∈ seen ∨ ∀ r, ae3 hp id = some r → ∀ k ∈ r.ids, k ∈ l
 | _, [], seen, l, h, hn => by
  have : seen = l := by
   cases ‹Nat› <;> simpa [bu2] using h
  subst this
  exact ⟨hn, by simp, fun _ h => h, fun _ h => .inl h⟩
 | 0, _ :: _, seen, l, h, hn => by simp [bu2] at h
 | n + 1, id :: todo, seen, l, h, hn => by
  simp only [bu2] at h
  split at h
  ·rename_i hc
   obtain ⟨h1, h2, h3, h4⟩ := aT2 hp n todo seen l h hn
   exact ⟨h1, fun x hx => by
    rcases mem_cons.1 hx with rfl | hx
    ·exact h3 _ (by simpa using hc)
    ·exact h2 x hx, h3, h4⟩
  ·rename_i hc
   have hnd : (seen ++ [id]).Nodup := List.nodup_append.2 ⟨hn, by simp, fun a ha b hb => by
    simp at hb; subst hb
    rintro rfl
    exact hc (by simpa using ha)⟩
   split at h
   ·rename_i r hr
    obtain ⟨h1, h2, h3, h4⟩ := aT2 hp n _ _ l h hnd
    refine ⟨h1, fun x hx => ?_, fun x hx => h3 x (by simp [hx]), fun x hx => ?_⟩
    ·rcases mem_cons.1 hx with rfl | hx
     ·exact h3 _ (by simp)
     ·exact h2 x (by simp [hx])
    ·rcases h4 x hx with h4 | h4
     ·rcases mem_append.1 h4 with h4 | h4
      ·exact .inl h4
      ·simp at h4; subst h4
       refine .inr fun r' hr' k hk => ?_
       rw [hr] at hr'
       simp only [oI] at hr'; subst hr'
       exact h2 k (by simp [hk])
     ·exact .inr h4
   ·rename_i hr
    obtain ⟨h1, h2, h3, h4⟩ := aT2 hp n _ _ l h hnd
    refine ⟨h1, fun x hx => ?_, fun x hx => h3 x (by simp [hx]), fun x hx => ?_⟩
    ·rcases mem_cons.1 hx with rfl | hx
     ·exact h3 _ (by simp)
     ·exact h2 x hx
    ·rcases h4 x hx with h4 | h4
     ·rcases mem_append.1 h4 with h4 | h4
      ·exact .inl h4
      ·simp at h4; subst h4
       refine .inr fun r' hr' k hk => ?_
       rw [hr] at hr'; cases hr'
     ·exact .inr h4
theorem b00 {π : Nat → Nat} {h : HV} {id : Nat} (hp : aA2 (h.ren π) = some id) : ∃ i, aA2 h = some i ∧ id = π i ∧ i ∈ h.ids := by
 cases h with
 | tup cs =>
  have e : HV.ren π (.tup cs) = .tup (aF9 π cs) := by simp [HV.ren]
  rw [e] at hp
  match cs, hp with
  | [.optr k idx off], hp =>
   have e2 : aF9 π [.optr k idx off] = [.optr (π k) idx off] := by simp [aF9, HV.ren]
   rw [e2] at hp
   simp only [aA2, oI] at hp
   exact ⟨k, rfl, hp.symm, by simp [HV.ids, aC8]⟩
  | [.osl k off len], hp =>
   have e2 : aF9 π [.osl k off len] = [.osl (π k) off len] := by simp [aF9, HV.ren]
   rw [e2] at hp
   simp only [aA2, oI] at hp
   exact ⟨k, rfl, hp.symm, by simp [HV.ids, aC8]⟩
  | [], hp => simp [aF9, aA2] at hp
  | [.undef], hp => simp [aF9, HV.ren, aA2] at hp
  | [.pv _], hp => simp [aF9, HV.ren, aA2] at hp
  | [.agg _], hp => simp [aF9, HV.ren, aA2] at hp
  | [.tup _], hp => simp [aF9, HV.ren, aA2] at hp
  | [.fn _ _], hp => simp [aF9, HV.ren, aA2] at hp
  | [.any], hp => simp [aF9, HV.ren, aA2] at hp
  | [.omap k], hp =>
   have e2 : aF9 π [.omap k] = [.omap (π k)] := by simp [aF9, HV.ren]
   rw [e2] at hp
   simp only [aA2, oI] at hp
   exact ⟨k, rfl, hp.symm, by simp [HV.ids, aC8]⟩
  | _ :: _ :: _, hp => simp [aF9, aA2] at hp
 | undef => simp [HV.ren, aA2] at hp
 | pv p => simp [HV.ren, aA2] at hp
 | agg cs => simp [HV.ren, aA2] at hp
 | osl a b c => simp [HV.ren, aA2] at hp
 | optr a b c => simp [HV.ren, aA2] at hp
 | omap a => simp [HV.ren, aA2] at hp
 | fn f cs => simp [HV.ren, aA2] at hp
 | any => simp [HV.ren, aA2] at hp
theorem aT3 [Mode] (ks : List Nat) (st : VSt) : Sub (aP6 ks st) st := by
 intro N w0 I0 a w ⟨hN, I, ρ, hr, hfree⟩
 unfold aP6
 split
 case h_2 => exact ⟨hN, I, ρ, hr, hfree⟩
 rename_i l hl
 obtain ⟨hnd, hok1, _, hcl⟩ := aT2 _ _ _ _ _ hl (by simp)
 have hok2 : ∀ id ∈ l, ∀ r, ae3 st.hp id = some r → ∀ k ∈ r.ids, k ∈ l := fun id hid => by
  rcases hcl id hid with h | h
  ·simp at h
  ·exact h
 refine ⟨hN, I, fun k => (l[k]?).bind ρ, ⟨?_, ?_, ?_, hr.df⟩, fun k hk => by simp only; rw [List.getElem?_eq_none hk]; rfl⟩
 ·have hrow : ∀ k r, ae3 (bb3 st.hp (az6 l) 0 l) k = some r → ∃ id x, l[k]? = some id ∧ ae3 st.hp id = some x ∧ r = x.ren (az6 l) := by
   intro k r hk
   obtain ⟨j, id, x, h1, h2, h3, h4⟩ := aR4 st.hp (az6 l) l 0 k r hk
   have : k = j := by omega
   subst this
   exact ⟨id, x, h2, h3, h4⟩
  refine { bel := hr.mem.bel, agr := hr.mem.agr, i0 := hr.mem.i0, lt := hr.mem.lt, new := hr.mem.new, tyF := hr.mem.tyF, nn := fun b g hb => ?_, rows := ?_, own := ?_, inj := ?_, tyI := hr.mem.tyI, tyR := ?_, bld := ?_, one := ?_, glob := hr.mem.glob, tab := hr.mem.tab }
  ·obtain ⟨n1, n2, n3, n4⟩ := hr.mem.nn b g hb
   refine ⟨n1, n2, n3, fun k r n sh hk hρ => ?_⟩
   obtain ⟨id, x, h1, h2, rfl⟩ := hrow k r hk
   simp only [h1, oB] at hρ
   exact n4 id x n sh h2 hρ
  ·intro k r hk
   obtain ⟨id, x, h1, h2, rfl⟩ := hrow k r hk
   obtain ⟨lo, hlo, hrr⟩ := hr.mem.rows id x h2
   refine ⟨lo, by simp only [h1, oB]; exact hlo, hrr.ren fun i hi => ?_⟩
   obtain ⟨_, p2⟩ := aB2 (hok2 id (List.mem_of_getElem? h1) x h2 i hi)
   rw [p2]; rfl
  ·intro k r g n sh hk hρ
   obtain ⟨id, x, h1, h2, rfl⟩ := hrow k r hk
   simp only [h1, oB] at hρ
   have := hr.mem.own id x g n sh h2 hρ
   have e : (Row.ren (az6 l) x).prot = x.prot := by cases x <;> rfl
   rw [e]; exact this
  ·intro k k' r r' g n n' sh sh' hk hk' hρ hρ'
   obtain ⟨id, x, h1, h2, rfl⟩ := hrow k r hk
   obtain ⟨id', x', h1', h2', rfl⟩ := hrow k' r' hk'
   simp only [h1, h1', oB] at hρ hρ'
   have := hr.mem.inj id id' x x' g n n' sh sh' h2 h2' hρ hρ'
   subst this
   exact aR5 hnd h1 h1'
  ·intro k r g n sh hk hρ
   obtain ⟨id, x, h1, h2, rfl⟩ := hrow k r hk
   simp only [h1, oB] at hρ
   exact hr.mem.tyR id x g n sh h2 hρ
  ·intro k T e bs hk
   obtain ⟨id, x, h1, h2, hx⟩ := hrow k _ hk
   have hx' : x = .b T e bs := by cases x <;> cases hx; rfl
   subst hx'
   obtain ⟨g, n, sh, q1, q2, q3⟩ := hr.mem.bld id T e bs h2
   exact ⟨g, n, sh, by simp only [h1, oB]; exact q1, q2, q3⟩
  ·intro k k' T e bs T' e' bs' hk hk'
   obtain ⟨id, x, h1, h2, hx⟩ := hrow k _ hk
   obtain ⟨id', x', h1', h2', hx'⟩ := hrow k' _ hk'
   have e1 : x = .b T e bs := by cases x <;> cases hx; rfl
   have e2 : x' = .b T' e' bs' := by cases x' <;> cases hx'; rfl
   subst e1; subst e2
   have := hr.mem.one id id' _ _ _ _ _ _ h2 h2'
   subst this
   exact aR5 hnd h1 h1'
 ·intro s h hs hs6
  rw [bq7] at hs
  simp only [oM] at hs
  obtain ⟨x, hx, rfl⟩ := hs
  obtain ⟨h1, h2⟩ := aN2 st.tm ks s x hx
  obtain ⟨t1, t2⟩ := hr.tm s x h1 hs6
  refine ⟨t1, t2.ren fun i hi => ?_⟩
  have := hok1 i (aE1 (mem_map.2 ⟨(s, x), h2, rfl⟩) i hi)
  obtain ⟨_, p2⟩ := aB2 this
  rw [p2]; rfl
 ·intro s h hs hs6
  rw [bq7] at hs
  simp only [oM] at hs
  obtain ⟨x, hx, rfl⟩ := hs
  obtain ⟨h1, h2⟩ := aN2 st.tm ks s x hx
  obtain ⟨⟨hl0, rfl⟩, v, t1, t2, t3⟩ := hr.gh s x h1 hs6
  refine ⟨⟨_, rfl⟩, v, t1, t2.ren fun i hi => ?_, fun id lo q1 q2 => ?_⟩
  ·have := hok1 i (aE1 (mem_map.2 ⟨(s, _), h2, rfl⟩) i hi)
   obtain ⟨_, p2⟩ := aB2 this
   rw [p2]; rfl
  ·obtain ⟨i, r1, r2, r3⟩ := b00 q1
   have := hok1 i (aE1 (mem_map.2 ⟨(s, _), h2, rfl⟩) i r3)
   obtain ⟨_, p2⟩ := aB2 this
   subst r2
   show (l[az6 l i]?).bind ρ = some lo
   rw [p2]
   exact t3 i lo r1 q2
theorem bd4 [Mode] (s : Nat) (sh : Shape) (st : VSt) : Sub (bN8 s sh st) st := by
 intro N w0 I0 a w ⟨hN, I, ρ, hr, hfree⟩
 have key : ∀ v : HV, look st.tm s = some v → (∀ v', RepH w I ρ v v' → v' = .slice none 0 0) → (∀ l, v ≠ .tup l) → bv9 N w0 I0 { tm := (s, .osl st.nx 0 0) :: st.tm, hp := (st.nx, some (.p sh [])) :: st.hp, nx := st.nx + 1 } a w := by
  intro v hv hnil hno
  have hs6 := hr.real hv hno
  obtain ⟨m1, g1⟩ := hr.mem.allocNil (hfree st.nx (Nat.le_refl _)) (r := .p sh []) rfl
  obtain ⟨t1, t2⟩ := hr.tm s v hv hs6
  refine ⟨hN, I, put ρ st.nx .nil, ⟨?_, ?_, ?_, hr.df⟩, fun k hk => ?_⟩
  ·have : ae3 ((st.nx, some (Row.p sh [])) :: st.hp) = ae8 (ae3 st.hp) [(st.nx, some (Row.p sh []))] := am6 [(st.nx, some (Row.p sh []))] st.hp
   simp only
   rw [this]; exact m1
  ·intro s' h hs h6
   simp only [look] at hs
   split at hs
   ·rename_i hss
    simp only [oI] at hs
    subst hs; subst hss
    rw [hnil _ t2]
    exact ⟨t1, .oslNil (by simp [put])⟩
   ·obtain ⟨q1, q2⟩ := hr.tm s' h hs h6
    exact ⟨q1, g1.H q2⟩
  ·intro s' h hs h6
   simp only [look] at hs
   split at hs
   ·rename_i hss
    omega
   ·obtain ⟨q0, v', q1, q2, q3⟩ := hr.gh s' h hs h6
    exact ⟨q0, v', q1, g1.H q2, fun id l h1 h2 => g1.rho _ _ (q3 id l h1 h2)⟩
  ·have h1 : k ≠ st.nx := by simp at hk; omega
   simp only [put, h1, if_false]
   exact hfree k (by simp at hk; omega)
 unfold bN8
 split
 ·rename_i hv
  exact key _ hv (fun v' h => h.nilsl_inv) (by simp)
 ·rename_i hv
  exact key _ hv (fun v' h => h.uslNil_inv) (by simp)
 ·exact ⟨hN, I, ρ, hr, hfree⟩
theorem Mem.swap [Mode] {w0 : Base} {I0 : Prot} {row : ad1} {w : World} {I : Prot} {ρ : Nat → Option Loc} (h : Mem w0 I0 row w I ρ) {id : Nat} {r r' : Row} (h0 : row id = some r) (hp : r'.prot = r.prot)
  (hB : ∀ T e bs, r' ≠ .b T e bs) (hR : ∀ l, ρ id = some l → RowRep w I ρ l r → RowRep w I ρ l r') : Mem w0 I0 (ae8 row [(id, some r')]) w I ρ := by
 have hlive : ∀ k x, ae8 row [(id, some r')] k = some x → (k = id ∧ x = r') ∨ (k ≠ id ∧ row k = some x) := by
  intro k x hx
  unfold ae8 look at hx
  by_cases hk : id = k
  ·simp [hk] at hx; exact .inl ⟨hk.symm, hx.symm⟩
  ·simp [hk, look] at hx; exact .inr ⟨Ne.symm hk, hx⟩
 have hold : ∀ k x, ae8 row [(id, some r')] k = some x → ∃ y, row k = some y ∧ y.prot = x.prot := by
  intro k x hx
  rcases hlive k x hx with ⟨rfl, rfl⟩ | ⟨_, hx⟩
  ·exact ⟨_, h0, hp.symm⟩
  ·exact ⟨_, hx, rfl⟩
 refine { bel := h.bel, agr := h.agr, i0 := h.i0, lt := h.lt, new := h.new, tyF := h.tyF, nn := ?_, rows := ?_, own := ?_, inj := ?_, tyI := h.tyI, tyR := ?_, bld := ?_, one := ?_, glob := h.glob, tab := h.tab }
 ·intro b g hb
  obtain ⟨n1, n2, n3, n4⟩ := h.nn b g hb
  refine ⟨n1, n2, n3, fun k x n sh hx hk => ?_⟩
  obtain ⟨y, hy, _⟩ := hold k x hx
  exact n4 k y n sh hy hk
 ·intro k x hx
  rcases hlive k x hx with ⟨rfl, rfl⟩ | ⟨_, hx⟩
  ·obtain ⟨l, h1, h2⟩ := h.rows k _ h0
   exact ⟨l, h1, hR l h1 h2⟩
  ·exact h.rows k x hx
 ·intro k x g n sh' hx hk
  obtain ⟨y, hy, hp⟩ := hold k x hx
  rw [← hp]
  exact h.own k y g n sh' hy hk
 ·intro k k' x x' g n n' sh1 sh2 hx hx' hk hk'
  obtain ⟨y, hy, _⟩ := hold k x hx
  obtain ⟨y', hy', _⟩ := hold k' x' hx'
  exact h.inj k k' y y' g n n' sh1 sh2 hy hy' hk hk'
 ·intro k x g n sh' hx hk
  obtain ⟨y, hy, _⟩ := hold k x hx
  exact h.tyR k y g n sh' hy hk
 ·intro k T e bs hx
  rcases hlive k _ hx with ⟨_, e1⟩ | ⟨_, hx⟩
  ·exact (hB T e bs e1.symm).elim
  ·exact h.bld k T e bs hx
 ·intro k k' T e bs T' e' bs' hx hx'
  rcases hlive k _ hx with ⟨_, e1⟩ | ⟨_, hx⟩
  ·exact (hB T e bs e1.symm).elim
  ·rcases hlive k' _ hx' with ⟨_, e1⟩ | ⟨_, hx'⟩
   ·exact (hB T' e' bs' e1.symm).elim
   ·exact h.one k k' T e bs T' e' bs' hx hx'
theorem bQ2 {w : World} {I : Prot} {ρ : Nat → Option Loc} {h : HV} {v : Value} (hn : bX1 h = true) (hr : RepH w I ρ h v) : v = .slice none 0 0 := by
 unfold bX1 at hn
 split at hn
 ·exact hr.nilsl_inv
 ·exact hr.uslNil_inv
 ·cases hn
theorem ci8 [Mode] {id c : Nat} {sh bsh : Shape} {e : HV} {r : Row} {st : VSt} (hid : id < st.nx) (hr0 : ae3 st.hp id = some r) (hs0 : r.sh = bsh) (he0 : r.es = [e]) (hp0 : r.prot = 0) : Sub (b99 id c sh bsh e st) st := by
 intro N w0 I0 a w ⟨hN, I, ρ, hr, hfree⟩
 unfold b99
 split
 ·rename_i hc hcc
  split
  ·rename_i hnil
   obtain ⟨m1, g1⟩ := hr.mem.allocNil (hfree st.nx (Nat.le_refl _)) (r := .p sh []) rfl
   have hro : ae8 (ae3 st.hp) [(st.nx, some (Row.p sh []))] id = some r := by
    unfold ae8
    simp only [look]
    rw [iN (by omega)]; exact hr0
   have m2 := m1.swap (id := id) (r := r) (r' := .h bsh [aX0 bsh e c (.osl st.nx 0 0)]) hro (by rw [hp0]; rfl) (by intro T e bs h; cases h) (by
    intro l _ hl
    cases l with
    | nil =>
     have : r.es = [] := hl
     rw [he0] at this; cases this
    | blk g n sh' =>
     obtain ⟨q1, q2, cur, t, vs, q3, q4, q5, q6, _⟩ := hl.cells (bu3 (by rw [he0]; simp))
     obtain rfl : bsh = sh' := by rw [← hs0]; exact q1
     have hef : e.fits bsh = true := q2 e (by rw [he0]; simp)
     have hfl : r.flat = e.cells := by simp [Row.flat, he0]
     rw [hfl] at q5
     obtain ⟨v, hv, hrv⟩ := q5.get c hc hcc
     have hvn := bQ2 hnil hrv
     subst hvn
     have hset := q5.set (i := c) (p := .osl st.nx 0 0) (v := .slice none 0 0) (.oslNil (by simp [put]))
     have hvs : vs.set c (.slice none 0 0) = vs := by
      obtain ⟨h1, h2⟩ := gS.1 hv
      rw [← h2]; exact List.set_getElem_self h1
     rw [hvs] at hset
     have hcl : (aX0 bsh e c (.osl st.nx 0 0)).cells = e.cells.set c (.osl st.nx 0 0) := by
      cases bsh with
      | none =>
       have h1 := (HV.fits_cells hef).1
       match hcs : e.cells, h1 with
       | [x], _ =>
        rw [hcs] at hcc
        have : c = 0 := by
         cases c with
         | zero => rfl
         | succ c => simp at hcc
        subst this
        rfl
      | some n => rfl
     refine ⟨rfl, fun x hx => ?_, cur, t, vs, q3, q4, ?_, q6, Tails.nil _ _ _ _ _ _⟩
     ·simp only [Row.es, List.mem_singleton] at hx; subst hx
      cases bsh with
      | none => rfl
      | some n =>
       have h1 := HV.fits_cells hef
       simp only [aX0, HV.fits, List.length_set, bA, beq_iff_eq, List.all_eq_true]
       refine ⟨h1.1, fun x hx => ?_⟩
       rcases List.mem_or_eq_of_mem_set hx with hx | rfl
       ·exact h1.2 x hx
       ·rfl
     ·have : Row.flat (.h bsh [aX0 bsh e c (.osl st.nx 0 0)]) = e.cells.set c (.osl st.nx 0 0) := by simp [Row.flat, Row.es, hcl]
      rw [this]; exact hset)
   refine ⟨hN, I, put ρ st.nx .nil, ⟨?_, fun s' h hs h6 => ?_, fun s' h hs h6 => ?_, hr.df⟩, fun k hk => ?_⟩
   ·have : ae3 ((id, some (Row.h bsh [aX0 bsh e c (.osl st.nx 0 0)])) :: (st.nx, some (Row.p sh [])) :: st.hp) = ae8 (ae8 (ae3 st.hp) [(st.nx, some (Row.p sh []))]) [(id, some (Row.h bsh [aX0 bsh e c (.osl st.nx 0 0)]))] := by
     rw [← am6 [(st.nx, some (Row.p sh []))] st.hp, ← am6]; rfl
    simp only
    rw [this]; exact m2
   ·obtain ⟨q1, q2⟩ := hr.tm s' h hs h6
    exact ⟨q1, g1.H q2⟩
   ·obtain ⟨q0, v', q1, q2, q3⟩ := hr.gh s' h hs h6
    exact ⟨q0, v', q1, g1.H q2, fun id l h1 h2 => g1.rho _ _ (q3 id l h1 h2)⟩
   ·have h1 : k ≠ st.nx := by simp at hk; omega
    simp only [put, h1, if_false]
    exact hfree k (by simp at hk; omega)
  ·exact ⟨hN, I, ρ, hr, hfree⟩
 ·exact ⟨hN, I, ρ, hr, hfree⟩
end Go.Vm
