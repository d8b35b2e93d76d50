import Derived.Test.YtpnaccnofbkhiaaGreatDoorVmRegion2
namespace Go.Vm
set_option autoImplicit false
open Go.RowKit (Below)
def bw7 [Mode] (N : Nat) (w0 : Base) (I0 : Prot) (st : VSt) (a : Act) (w : World) : Prop :=
 (N ≤ a.tmps.size ∧ N ≤ 1000000) ∧ ∃ I ρ, RepA w0 I0 (look st.tm) (ae0 st.hp) a w I ρ ∧ ∀ k, st.nx ≤ k → ρ k = none
def Sub [Mode] (st' st : VSt) : Prop := ∀ (N : Nat) (w0 : Base) (I0 : Prot) (a : Act) (w : World), bw7 N w0 I0 st a w → bw7 N w0 I0 st' a w
theorem Sub.refl [Mode] (st : VSt) : Sub st st := fun _ _ _ _ _ h => h
theorem Sub.trans [Mode] {a b c : VSt} (h : Sub a b) (h' : Sub b c) : Sub a c := fun N w0 I0 x w hr => h N w0 I0 x w (h' N w0 I0 x w hr)
theorem aX1 : ∀ {l : List Nat} {k : Nat}, k ∈ l → a58 l k < l.length ∧ l[a58 l k]? = some k
 | x :: r, k, h => by
  simp only [a58]
  split
  ·rename_i hx; subst hx; simp
  ·rename_i hx
   have hk : k ∈ r := by
    rcases List.mem_cons.1 h with h | h
    ·exact absurd h.symm hx
    ·exact h
   obtain ⟨h1, h2⟩ := aX1 hk
   exact ⟨by simp; omega, by simpa using h2⟩
mutual
theorem RepH.ren {w : World} {I : Prot} {ρ ρ' : Nat → Option Loc} {π : Nat → Nat} : ∀ {h : HV} {v : Value}, RepH w I ρ h v → (∀ id ∈ h.ids, ρ' (π id) = ρ id) → RepH w I ρ' (h.ren π) v
 | _, _, .undef, _ => .undef
 | _, _, .any a n c, _ => .any a n c
 | _, _, .pv h, _ => .pv h
 | _, _, .agg h, hi => .agg (RepHs.ren h hi)
 | _, _, .tup h, hi => .tup (RepHs.ren h hi)
 | _, _, .oslNil h, hi => .oslNil (by rw [hi _ (by simp [HV.ids])]; exact h)
 | _, _, .osl h hn hl, hi => .osl (by rw [hi _ (by simp [HV.ids])]; exact h) hn hl
 | _, _, .oslEnd h ho, hi => .oslEnd (by rw [hi _ (by simp [HV.ids])]; exact h) ho
 | _, _, .optr h, hi => .optr (by rw [hi _ (by simp [HV.ids])]; exact h)
 | _, _, .fn f h, hi => .fn f (RepHs.ren h hi)
theorem RepHs.ren {w : World} {I : Prot} {ρ ρ' : Nat → Option Loc} {π : Nat → Nat} : ∀ {hs : List HV} {vs : List Value}, RepHs w I ρ hs vs → (∀ id ∈ aW1 hs, ρ' (π id) = ρ id) → RepHs w I ρ' (bh3 π hs) vs
 | _, _, .nil, _ => .nil
 | _, _, .cons h r, hi => .cons (RepH.ren h fun id hid => hi id (by simp [aW1, hid])) (RepHs.ren r fun id hid => hi id (by simp [aW1, hid]))
end
theorem bL8 (π : Nat → Nat) (h : HV) : (h.ren π).one = h.one := by cases h <;> rfl
theorem aJ6 (π : Nat → Nat) : ∀ hs : List HV, bh3 π hs = hs.map (HV.ren π)
 | [] => rfl
 | _ :: r => by simp [bh3, aJ6 π r]
theorem bW5 (π : Nat → Nat) (sh : Shape) (h : HV) : (h.ren π).fits sh = h.fits sh := by
 cases sh with
 | none => simp only [HV.fits, bL8]
 | some n =>
  cases h with
  | agg cs =>
   simp only [HV.ren, HV.fits, aJ6, List.length_map, List.all_map]
   congr 1
   apply congrArg (fun f => cs.all f)
   funext x
   exact bL8 π x
  | _ => rfl
theorem bL9 (π : Nat → Nat) (h : HV) : (h.ren π).cells = bh3 π h.cells := by
 cases h with
 | pv p => cases p <;> simp [HV.ren, HV.cells, aJ6]
 | _ => simp [HV.ren, HV.cells, bh3]
theorem bC7 (h : HV) : ∀ id ∈ aW1 h.cells, id ∈ h.ids := by
 intro id hid
 cases h with
 | pv p =>
  exfalso
  have : ∀ l : List PV, aW1 (l.map HV.pv) = [] := by
   intro l
   induction l with
   | nil => rfl
   | cons a r ih => simp [aW1, HV.ids, ih]
  cases p <;> simp [HV.cells, aW1, HV.ids, this] at hid
 | agg cs => exact hid
 | tup cs => simpa [HV.cells, aW1] using hid
 | osl _ _ _ => simpa [HV.cells, aW1] using hid
 | optr _ _ _ => simpa [HV.cells, aW1] using hid
 | fn _ _ => simpa [HV.cells, aW1] using hid
 | undef => simp [HV.cells, aW1, HV.ids] at hid
 | any => simp [HV.cells, aW1, HV.ids] at hid
theorem a02 (π : Nat → Nat) : ∀ a b : List HV, bh3 π (a ++ b) = bh3 π a ++ bh3 π b
 | [], b => rfl
 | x :: a, b => by simp [bh3, a02 π a b]
theorem aP4 {h : HV} : ∀ {hs : List HV}, h ∈ hs → ∀ id ∈ h.ids, id ∈ aW1 hs
 | x :: r, hm, id, hid => by
  simp only [aW1, List.mem_append]
  rcases List.mem_cons.1 hm with rfl | hm
  ·exact .inl hid
  ·exact .inr (aP4 hm id hid)
theorem aX2 {id : Nat} : ∀ {hs : List HV}, id ∈ aW1 hs → ∃ h ∈ hs, id ∈ h.ids
 | x :: r, hm => by
  simp only [aW1, List.mem_append] at hm
  rcases hm with hm | hm
  ·exact ⟨x, by simp, hm⟩
  ·obtain ⟨h, h1, h2⟩ := aX2 hm
   exact ⟨h, by simp [h1], h2⟩
theorem RowRep.ren {w : World} {I : Prot} {ρ ρ' : Nat → Option Loc} {π : Nat → Nat} {l : Loc} {r : Row} (h : RowRep w I ρ l r) (hi : ∀ id ∈ r.ids, ρ' (π id) = ρ id) : RowRep w I ρ' l (r.ren π) := by
 have hes : (r.ren π).es = bh3 π r.es := by
  cases r with
  | p sh es tk =>
   simp only [Row.ren, Row.es, aJ6, List.map_map]
   rfl
  | h sh es => rfl
  | room sh es =>
   simp only [Row.ren, Row.es, aJ6, List.map_map]
   rfl
  | b T e s => rfl
 have hsh : (r.ren π).sh = r.sh := by cases r <;> rfl
 have hids : ∀ id ∈ aW1 r.es, ρ' (π id) = ρ id := by
  intro id hid
  cases r with
  | p sh es tk =>
   obtain ⟨x, hx, hid⟩ := aX2 hid
   simp only [Row.es, List.mem_map] at hx
   obtain ⟨p, _, rfl⟩ := hx
   simp [HV.ids] at hid
  | h sh es => exact hi id hid
  | room sh es =>
   obtain ⟨x, hx, hid⟩ := aX2 hid
   simp only [Row.es, List.mem_map] at hx
   obtain ⟨p, _, rfl⟩ := hx
   simp [HV.ids] at hid
  | b T e s => simp [Row.es, aW1] at hid
 cases l with
 | nil =>
  have : r.es = [] := h
  show (r.ren π).es = []
  rw [hes, this]; rfl
 | blk g n sh =>
  obtain ⟨h1, h2, cur, t, vs, h3, h4, h5, h6, h7⟩ := h
  refine ⟨by rw [hsh]; exact h1, fun e he => ?_, cur, t, vs, h3, h4, ?_, h6, by cases r <;> exact h7⟩
  ·rw [hes, aJ6, List.mem_map] at he
   obtain ⟨x, hx, rfl⟩ := he
   rw [bW5]; exact h2 x hx
  ·have hfl : (r.ren π).flat = bh3 π r.flat := by
    unfold Row.flat
    rw [hes]
    generalize r.es = es
    induction es with
    | nil => rfl
    | cons x es ih => simp only [bh3, List.flatMap_cons, a02, bL9, ih]
   rw [hfl]
   refine h5.ren fun id hid => hids id ?_
   obtain ⟨x, hx, hid⟩ := aX2 hid
   obtain ⟨y, hy, hx⟩ := List.mem_flatMap.1 hx
   exact aP4 hy id (bC7 y id (aP4 hx id hid))
theorem aF2 (tm : List (Nat × HV)) : ∀ (ks : List Nat) (s : Nat) (h : HV), look (aU3 tm ks) s = some h → look tm s = some h ∧ (s, h) ∈ aU3 tm ks
 | [], s, h, hs => by simp [aU3, look] at hs
 | k :: ks, s, h, hs => by
  simp only [aU3] at hs ⊢
  split at hs
  ·rename_i x hx
   simp only [look] at hs
   split at hs
   ·rename_i hk
    simp only [Option.some.injEq] at hs
    subst hs; subst hk
    exact ⟨hx, by simp⟩
   ·obtain ⟨h1, h2⟩ := aF2 tm ks s h hs
    exact ⟨h1, by simp [h2]⟩
  ·rename_i hx
   obtain ⟨h1, h2⟩ := aF2 tm ks s h hs
   exact ⟨h1, h2⟩
theorem be1 {α β : Type} (f : α → β) : ∀ (tm : List (Nat × α)) (s : Nat), look (tm.map fun x => (x.1, f x.2)) s = (look tm s).map f
 | [], s => rfl
 | (k, v) :: tm, s => by
  simp only [List.map_cons, look]
  split
  ·rfl
  ·exact be1 f tm s
theorem aH8 (hp : List (Nat × Option Row)) (π : Nat → Nat) : ∀ (l : List Nat) (i k : Nat) (r : Row), ae0 (aY4 hp π i l) k = some r → ∃ j id x, k = i + j ∧ l[j]? = some id ∧ ae0 hp id = some x ∧ r = x.ren π
 | [], i, k, r, h => by simp [aY4, ae0, look] at h
 | id :: l, i, k, r, h => by
  simp only [aY4] at h
  split at h
  ·rename_i x hx
   unfold ae0 at h
   simp only [look] at h
   split at h
   ·rename_i hk
    simp only [Option.bind_some, Option.some.injEq] at h
    exact ⟨0, id, x, by omega, rfl, hx, h.symm⟩
   ·obtain ⟨j, id', x', h1, h2, h3, h4⟩ := aH8 hp π l (i + 1) k r h
    exact ⟨j + 1, id', x', by omega, by simpa using h2, h3, h4⟩
  ·obtain ⟨j, id', x', h1, h2, h3, h4⟩ := aH8 hp π l (i + 1) k r h
   exact ⟨j + 1, id', x', by omega, by simpa using h2, h3, h4⟩
theorem a03 {α : Type} : ∀ {l : List α}, l.Nodup → ∀ {i j : Nat} {x : α}, l[i]? = some x → l[j]? = some x → i = j
 | a :: l, hn, 0, 0, x, _, _ => rfl
 | a :: l, hn, 0, j + 1, x, h1, h2 => by
  simp at h1 h2
  subst h1
  exact absurd (List.mem_of_getElem? h2) (List.nodup_cons.1 hn).1
 | a :: l, hn, i + 1, 0, x, h1, h2 => by
  simp at h1 h2
  subst h2
  exact absurd (List.mem_of_getElem? h1) (List.nodup_cons.1 hn).1
 | a :: l, hn, i + 1, j + 1, x, h1, h2 => by
  simp at h1 h2
  rw [a03 (List.nodup_cons.1 hn).2 h1 h2]
theorem aJ7 (hp : List (Nat × Option Row)) : ∀ (n : Nat) (todo seen l : List Nat), bh4 hp n todo seen = some l → seen.Nodup →
  l.Nodup ∧ (∀ x ∈ todo, x ∈ l) ∧ (∀ x ∈ seen, x ∈ l) ∧ ∀ id ∈ l, id ∈ seen ∨ ∀ r, ae0 hp id = some r → ∀ k ∈ r.ids, k ∈ l
 | _, [], seen, l, h, hn => by
  have : seen = l := by
   cases ‹Nat› <;> simpa [bh4] using h
  subst this
  exact ⟨hn, by simp, fun _ h => h, fun _ h => .inl h⟩
 | 0, _ :: _, seen, l, h, hn => by simp [bh4] at h
 | n + 1, id :: todo, seen, l, h, hn => by
  simp only [bh4] at h
  split at h
  ·rename_i hc
   obtain ⟨h1, h2, h3, h4⟩ := aJ7 hp n todo seen l h hn
   exact ⟨h1, fun x hx => by
    rcases List.mem_cons.1 hx with rfl | hx
    ·exact h3 _ (by simpa using hc)
    ·exact h2 x hx, h3, h4⟩
  ·rename_i hc
   have hnd : (seen ++ [id]).Nodup := List.nodup_append.2 ⟨hn, by simp, fun a ha b hb => by
    simp at hb; subst hb
    rintro rfl
    exact hc (by simpa using ha)⟩
   split at h
   ·rename_i r hr
    obtain ⟨h1, h2, h3, h4⟩ := aJ7 hp n _ _ l h hnd
    refine ⟨h1, fun x hx => ?_, fun x hx => h3 x (by simp [hx]), fun x hx => ?_⟩
    ·rcases List.mem_cons.1 hx with rfl | hx
     ·exact h3 _ (by simp)
     ·exact h2 x (by simp [hx])
    ·rcases h4 x hx with h4 | h4
     ·rcases List.mem_append.1 h4 with h4 | h4
      ·exact .inl h4
      ·simp at h4; subst h4
       refine .inr fun r' hr' k hk => ?_
       rw [hr] at hr'
       simp only [Option.some.injEq] at hr'; subst hr'
       exact h2 k (by simp [hk])
     ·exact .inr h4
   ·rename_i hr
    obtain ⟨h1, h2, h3, h4⟩ := aJ7 hp n _ _ l h hnd
    refine ⟨h1, fun x hx => ?_, fun x hx => h3 x (by simp [hx]), fun x hx => ?_⟩
    ·rcases List.mem_cons.1 hx with rfl | hx
     ·exact h3 _ (by simp)
     ·exact h2 x hx
    ·rcases h4 x hx with h4 | h4
     ·rcases List.mem_append.1 h4 with h4 | h4
      ·exact .inl h4
      ·simp at h4; subst h4
       refine .inr fun r' hr' k hk => ?_
       rw [hr] at hr'; cases hr'
     ·exact .inr h4
theorem aJ8 [Mode] (ks : List Nat) (st : VSt) : Sub (aG8 ks st) st := by
 intro N w0 I0 a w ⟨hN, I, ρ, hr, hfree⟩
 unfold aG8
 split
 case h_2 => exact ⟨hN, I, ρ, hr, hfree⟩
 rename_i l hl
 obtain ⟨hnd, hok1, _, hcl⟩ := aJ7 _ _ _ _ _ hl (by simp)
 have hok2 : ∀ id ∈ l, ∀ r, ae0 st.hp id = some r → ∀ k ∈ r.ids, k ∈ l := fun id hid => by
  rcases hcl id hid with h | h
  ·simp at h
  ·exact h
 refine ⟨hN, I, fun k => (l[k]?).bind ρ, ⟨?_, ?_, ?_, hr.df⟩, fun k hk => by simp only; rw [List.getElem?_eq_none hk]; rfl⟩
 ·have hrow : ∀ k r, ae0 (aY4 st.hp (a58 l) 0 l) k = some r → ∃ id x, l[k]? = some id ∧ ae0 st.hp id = some x ∧ r = x.ren (a58 l) := by
   intro k r hk
   obtain ⟨j, id, x, h1, h2, h3, h4⟩ := aH8 st.hp (a58 l) l 0 k r hk
   have : k = j := by omega
   subst this
   exact ⟨id, x, h2, h3, h4⟩
  refine { bel := hr.mem.bel, agr := hr.mem.agr, i0 := hr.mem.i0, lt := hr.mem.lt, new := hr.mem.new, tyF := hr.mem.tyF, nn := fun b g hb => ?_, rows := ?_, own := ?_, inj := ?_, tyI := hr.mem.tyI, tyR := ?_, bld := ?_, one := ?_, glob := hr.mem.glob, tab := hr.mem.tab }
  ·obtain ⟨n1, n2, n3, n4⟩ := hr.mem.nn b g hb
   refine ⟨n1, n2, n3, fun k r n sh hk hρ => ?_⟩
   obtain ⟨id, x, h1, h2, rfl⟩ := hrow k r hk
   simp only [h1, Option.bind_some] at hρ
   exact n4 id x n sh h2 hρ
  ·intro k r hk
   obtain ⟨id, x, h1, h2, rfl⟩ := hrow k r hk
   obtain ⟨lo, hlo, hrr⟩ := hr.mem.rows id x h2
   refine ⟨lo, by simp only [h1, Option.bind_some]; exact hlo, hrr.ren fun i hi => ?_⟩
   obtain ⟨_, p2⟩ := aX1 (hok2 id (List.mem_of_getElem? h1) x h2 i hi)
   rw [p2]; rfl
  ·intro k r g n sh hk hρ
   obtain ⟨id, x, h1, h2, rfl⟩ := hrow k r hk
   simp only [h1, Option.bind_some] at hρ
   have := hr.mem.own id x g n sh h2 hρ
   have e : (Row.ren (a58 l) x).prot = x.prot := by cases x <;> rfl
   rw [e]; exact this
  ·intro k k' r r' g n n' sh sh' hk hk' hρ hρ'
   obtain ⟨id, x, h1, h2, rfl⟩ := hrow k r hk
   obtain ⟨id', x', h1', h2', rfl⟩ := hrow k' r' hk'
   simp only [h1, h1', Option.bind_some] at hρ hρ'
   have := hr.mem.inj id id' x x' g n n' sh sh' h2 h2' hρ hρ'
   subst this
   exact a03 hnd h1 h1'
  ·intro k r g n sh hk hρ
   obtain ⟨id, x, h1, h2, rfl⟩ := hrow k r hk
   simp only [h1, Option.bind_some] at hρ
   exact hr.mem.tyR id x g n sh h2 hρ
  ·intro k T e bs hk
   obtain ⟨id, x, h1, h2, hx⟩ := hrow k _ hk
   have hx' : x = .b T e bs := by cases x <;> cases hx; rfl
   subst hx'
   obtain ⟨g, n, sh, q1, q2, q3⟩ := hr.mem.bld id T e bs h2
   exact ⟨g, n, sh, by simp only [h1, Option.bind_some]; exact q1, q2, q3⟩
  ·intro k k' T e bs T' e' bs' hk hk'
   obtain ⟨id, x, h1, h2, hx⟩ := hrow k _ hk
   obtain ⟨id', x', h1', h2', hx'⟩ := hrow k' _ hk'
   have e1 : x = .b T e bs := by cases x <;> cases hx; rfl
   have e2 : x' = .b T' e' bs' := by cases x' <;> cases hx'; rfl
   subst e1; subst e2
   have := hr.mem.one id id' _ _ _ _ _ _ h2 h2'
   subst this
   exact a03 hnd h1 h1'
 ·intro s h hs hs6
  rw [be1] at hs
  simp only [Option.map_eq_some_iff] at hs
  obtain ⟨x, hx, rfl⟩ := hs
  obtain ⟨h1, h2⟩ := aF2 st.tm ks s x hx
  obtain ⟨t1, t2⟩ := hr.tm s x h1 hs6
  refine ⟨t1, t2.ren fun i hi => ?_⟩
  have := hok1 i (aP4 (List.mem_map.2 ⟨(s, x), h2, rfl⟩) i hi)
  obtain ⟨_, p2⟩ := aX1 this
  rw [p2]; rfl
 ·intro s h hs hs6
  rw [be1] at hs
  simp only [Option.map_eq_some_iff] at hs
  obtain ⟨x, hx, rfl⟩ := hs
  obtain ⟨h1, h2⟩ := aF2 st.tm ks s x hx
  obtain ⟨⟨l, rfl⟩, v, t1, t2⟩ := hr.gh s x h1 hs6
  refine ⟨⟨_, rfl⟩, v, t1, t2.ren fun i hi => ?_⟩
  have := hok1 i (aP4 (List.mem_map.2 ⟨(s, _), h2, rfl⟩) i hi)
  obtain ⟨_, p2⟩ := aX1 this
  rw [p2]; rfl
theorem aD3 [Mode] (s : Nat) (sh : Shape) (st : VSt) : Sub (bc4 s sh st) st := by
 intro N w0 I0 a w ⟨hN, I, ρ, hr, hfree⟩
 have key : ∀ v : HV, look st.tm s = some v → (∀ v', RepH w I ρ v v' → v' = .slice none 0 0) → (∀ l, v ≠ .tup l) → bw7 N w0 I0 { tm := (s, .osl st.nx 0 0) :: st.tm, hp := (st.nx, some (.p sh [])) :: st.hp, nx := st.nx + 1 } a w := by
  intro v hv hnil hno
  have hs6 := hr.real hv hno
  obtain ⟨m1, g1⟩ := hr.mem.allocNil (hfree st.nx (Nat.le_refl _)) (r := .p sh []) rfl
  obtain ⟨t1, t2⟩ := hr.tm s v hv hs6
  refine ⟨hN, I, put ρ st.nx .nil, ⟨?_, ?_, ?_, hr.df⟩, fun k hk => ?_⟩
  ·have : ae0 ((st.nx, some (Row.p sh [])) :: st.hp) = ae4 (ae0 st.hp) [(st.nx, some (Row.p sh []))] := aq7 [(st.nx, some (Row.p sh []))] st.hp
   simp only
   rw [this]; exact m1
  ·intro s' h hs h6
   simp only [look] at hs
   split at hs
   ·rename_i hss
    simp only [Option.some.injEq] at hs
    subst hs; subst hss
    rw [hnil _ t2]
    exact ⟨t1, .oslNil (by simp [put])⟩
   ·obtain ⟨q1, q2⟩ := hr.tm s' h hs h6
    exact ⟨q1, g1.H q2⟩
  ·intro s' h hs h6
   simp only [look] at hs
   split at hs
   ·rename_i hss
    omega
   ·obtain ⟨q0, v', q1, q2⟩ := hr.gh s' h hs h6
    exact ⟨q0, v', q1, g1.H q2⟩
  ·have h1 : k ≠ st.nx := by simp at hk; omega
   simp only [put, h1, if_false]
   exact hfree k (by simp at hk; omega)
 unfold bc4
 split
 ·rename_i hv
  exact key _ hv (fun v' h => h.nilsl_inv) (by simp)
 ·rename_i hv
  exact key _ hv (fun v' h => h.uslNil_inv) (by simp)
 ·exact ⟨hN, I, ρ, hr, hfree⟩
theorem Mem.swap [Mode] {w0 : Base} {I0 : Prot} {row : ac5} {w : World} {I : Prot} {ρ : Nat → Option Loc} (h : Mem w0 I0 row w I ρ) {id : Nat} {r r' : Row} (h0 : row id = some r) (hp : r'.prot = r.prot)
  (hB : ∀ T e bs, r' ≠ .b T e bs) (hR : ∀ l, ρ id = some l → RowRep w I ρ l r → RowRep w I ρ l r') : Mem w0 I0 (ae4 row [(id, some r')]) w I ρ := by
 have hlive : ∀ k x, ae4 row [(id, some r')] k = some x → (k = id ∧ x = r') ∨ (k ≠ id ∧ row k = some x) := by
  intro k x hx
  unfold ae4 look at hx
  by_cases hk : id = k
  ·simp [hk] at hx; exact .inl ⟨hk.symm, hx.symm⟩
  ·simp [hk, look] at hx; exact .inr ⟨Ne.symm hk, hx⟩
 have hold : ∀ k x, ae4 row [(id, some r')] k = some x → ∃ y, row k = some y ∧ y.prot = x.prot := by
  intro k x hx
  rcases hlive k x hx with ⟨rfl, rfl⟩ | ⟨_, hx⟩
  ·exact ⟨_, h0, hp.symm⟩
  ·exact ⟨_, hx, rfl⟩
 refine { bel := h.bel, agr := h.agr, i0 := h.i0, lt := h.lt, new := h.new, tyF := h.tyF, nn := ?_, rows := ?_, own := ?_, inj := ?_, tyI := h.tyI, tyR := ?_, bld := ?_, one := ?_, glob := h.glob, tab := h.tab }
 ·intro b g hb
  obtain ⟨n1, n2, n3, n4⟩ := h.nn b g hb
  refine ⟨n1, n2, n3, fun k x n sh hx hk => ?_⟩
  obtain ⟨y, hy, _⟩ := hold k x hx
  exact n4 k y n sh hy hk
 ·intro k x hx
  rcases hlive k x hx with ⟨rfl, rfl⟩ | ⟨_, hx⟩
  ·obtain ⟨l, h1, h2⟩ := h.rows k _ h0
   exact ⟨l, h1, hR l h1 h2⟩
  ·exact h.rows k x hx
 ·intro k x g n sh' hx hk
  obtain ⟨y, hy, hp⟩ := hold k x hx
  rw [← hp]
  exact h.own k y g n sh' hy hk
 ·intro k k' x x' g n n' sh1 sh2 hx hx' hk hk'
  obtain ⟨y, hy, _⟩ := hold k x hx
  obtain ⟨y', hy', _⟩ := hold k' x' hx'
  exact h.inj k k' y y' g n n' sh1 sh2 hy hy' hk hk'
 ·intro k x g n sh' hx hk
  obtain ⟨y, hy, _⟩ := hold k x hx
  exact h.tyR k y g n sh' hy hk
 ·intro k T e bs hx
  rcases hlive k _ hx with ⟨_, e1⟩ | ⟨_, hx⟩
  ·exact (hB T e bs e1.symm).elim
  ·exact h.bld k T e bs hx
 ·intro k k' T e bs T' e' bs' hx hx'
  rcases hlive k _ hx with ⟨_, e1⟩ | ⟨_, hx⟩
  ·exact (hB T e bs e1.symm).elim
  ·rcases hlive k' _ hx' with ⟨_, e1⟩ | ⟨_, hx'⟩
   ·exact (hB T' e' bs' e1.symm).elim
   ·exact h.one k k' T e bs T' e' bs' hx hx'
end Go.Vm
