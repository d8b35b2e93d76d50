import Derived.Test.YtchaaedlfibdoaaGreatDoorVmW
open List (all_eq_true map_cons map_map mem_cons mem_map mem_of_getElem? range)
open Nat (blt_eq le_refl lt_of_lt_of_le zero_add zero_le)
open Option (getD_some)
namespace Go.Vm
set_option linter.unusedVariables false
open Go.RowKit (Below)
section
variable {w : World} {I I' : Prot} {ρ ρ' : Nat → Option Loc} {π : Nat → Nat}
mutual
theorem RepH.unren : ∀ (h : HV) {v : Value}, RepH w I ρ (h.ren π) v → (∀ id ∈ h.ids, ρ' id = ρ (π id)) → RepH w I ρ' h v
 | .undef, _, h, _ => by
  have h' : RepH w I ρ .undef _ := h
  cases h'; exact .undef
 | .any, _, h, _ => by
  have h' : RepH w I ρ .any _ := h
  cases h'; exact .any _ _ _
 | .pv p, _, h, _ => by
  have h' : RepH w I ρ (.pv p) _ := h
  cases h' with | pv q => exact .pv q
 | .agg cs, _, h, hi => by
  have h' : RepH w I ρ (.agg (aF9 π cs)) _ := h
  cases h' with | agg q => exact .agg (RepHs.unren cs q fun id hid => hi id (by simpa [HV.ids] using hid))
 | .tup cs, _, h, hi => by
  have h' : RepH w I ρ (.tup (aF9 π cs)) _ := h
  cases h' with | tup q => exact .tup (RepHs.unren cs q fun id hid => hi id (by simpa [HV.ids] using hid))
 | .fn f cs, _, h, hi => by
  have h' : RepH w I ρ (.fn f (aF9 π cs)) _ := h
  cases h' with | fn _ q => exact .fn f (RepHs.unren cs q fun id hid => hi id (by simpa [HV.ids] using hid))
 | .osl id off len, _, h, hi => by
  have e := hi id (by simp [HV.ids])
  have h' : RepH w I ρ (.osl (π id) off len) _ := h
  cases h' with
  | oslNil q => exact .oslNil (e.trans q)
  | osl q hn hl => exact .osl (e.trans q) hn hl
  | oslEnd q ho => exact .oslEnd (e.trans q) ho
 | .optr id idx off, _, h, hi => by
  have e := hi id (by simp [HV.ids])
  have h' : RepH w I ρ (.optr (π id) idx off) _ := h
  cases h' with
  | optr q => exact .optr (e.trans q)
 | .omap id, _, h, hi => by
  have e := hi id (by simp [HV.ids])
  have h' : RepH w I ρ (.omap (π id)) _ := h
  cases h' with
  | omap q => exact .omap (e.trans q)
theorem RepHs.unren : ∀ (hs : List HV) {vs : List Value}, RepHs w I ρ (aF9 π hs) vs → (∀ id ∈ aC8 hs, ρ' id = ρ (π id)) → RepHs w I ρ' hs vs
 | [], _, h, _ => by
  have h' : RepHs w I ρ [] _ := h
  cases h'; exact .nil
 | x :: r, _, h, hi => by
  have h' : RepHs w I ρ (x.ren π :: aF9 π r) _ := h
  cases h' with
  | cons q1 q2 => exact .cons (RepH.unren x q1 fun id hid => hi id (by simp [aC8, hid])) (RepHs.unren r q2 fun id hid => hi id (by simp [aC8, hid]))
end
def Row.calm : Row → Bool
 | .p _ _ [] => true
 | .h _ _ => true
 | .m _ _ => true
 | _ => false
theorem Row.calm_tk {r : Row} (h : r.calm = true) : r.tk = [] := by
 cases r with
 | p sh es tk => cases tk with
  | nil => rfl
  | cons _ _ => cases h
 | h _ _ => rfl
 | room _ _ => rfl
 | b _ _ _ => rfl
 | m _ _ => rfl
theorem Row.calm_b {r : Row} (h : r.calm = true) : ∀ T e bs, r ≠ .b T e bs := by
 rintro T e bs rfl; cases h
theorem Row.calm_prot {r : Row} (h : r.calm = true) : r.prot = 0 := by
 cases r <;> first | rfl | cases h
theorem a13 (π : Nat → Nat) (r : Row) : (r.ren π).calm = r.calm := by cases r <;> rfl
theorem b21 (π : Nat → Nat) (r : Row) : (r.ren π).es = aF9 π r.es := by
 cases r with
 | p sh es tk =>
  simp only [Row.ren, Row.es, aB3, map_map]
  rfl
 | h sh es => rfl
 | room sh es =>
  simp only [Row.ren, Row.es, aB3, map_map]
  rfl
 | b T e s => rfl
 | m es ck => rfl
theorem bx1 (π : Nat → Nat) : ∀ l : List HV, (aF9 π l).flatMap HV.cells = aF9 π (l.flatMap HV.cells)
 | [] => rfl
 | x :: r => by simp only [aF9, List.flatMap_cons, aX5, bw0, bx1 π r]
theorem cd3 (π : Nat → Nat) (r : Row) : (r.ren π).flat = aF9 π r.flat := by
 unfold Row.flat
 rw [b21, bx1]
theorem cd4 {r : Row} : ∀ id ∈ aC8 r.flat, id ∈ r.ids := by
 intro id hid
 obtain ⟨x, hx, hid⟩ := aN1 hid
 unfold Row.flat at hx
 obtain ⟨e, he, hx⟩ := List.mem_flatMap.1 hx
 have h1 : id ∈ aC8 e.cells := aE1 hx id hid
 have h2 := bm1 e id h1
 cases r with
 | p sh es tk =>
  simp only [Row.es, mem_map] at he
  obtain ⟨p, _, rfl⟩ := he
  simp [HV.ids] at h2
 | h sh es => exact aE1 he id h2
 | room sh es =>
  simp only [Row.es, mem_map] at he
  obtain ⟨p, _, rfl⟩ := he
  simp [HV.ids] at h2
 | b T e s => simp [Row.es] at he
 | m es ck => simp [Row.es] at he
theorem RowRep.unren {l : Loc} {r : Row} (hc : r.calm = true) (hI : ∀ b o, I b o → I' b o) (h : RowRep w I ρ l (r.ren π)) (hi : ∀ id ∈ r.ids, ρ' id = ρ (π id)) : RowRep w I' ρ' l r := by
 have hsh : (r.ren π).sh = r.sh := by cases r <;> rfl
 cases l with
 | nil =>
  have h' : (r.ren π).es = [] := h
  rw [b21] at h'
  show r.es = []
  cases hr : r.es with
  | nil => rfl
  | cons a b => rw [hr] at h'; cases h'
 | blk g n sh =>
  cases hmr : r.asM with
  | some q =>
   obtain rfl := a94 hmr
   obtain ⟨es', h1, h2⟩ := h
   exact ⟨es', h1, h2.mono (fun _ _ _ => rfl) hI⟩
  | none =>
  obtain ⟨h1, h2, cur, t, vs, h3, h4, h5, h6, h7⟩ := h.cells (by cases r <;> first | rfl | cases hmr)
  refine .of_cells hmr ⟨hsh ▸ h1, fun e he => ?_, cur, t, vs, h3, h4, ?_, h6, ?_⟩
  ·have := h2 (e.ren π) (by rw [b21, aB3]; exact List.mem_map_of_mem he)
   rw [bJ6] at this; exact this
  ·rw [cd3] at h5
   exact (RepHs.unren _ h5 fun id hid => hi id (cd4 id hid)).mono (fun _ _ _ => rfl) hI (fun _ _ h => h)
  ·rw [Row.calm_tk hc]; exact Tails.nil _ _ _ _ _ _
theorem RowRep.calmI {l : Loc} {r : Row} (hc : r.calm = true) (hI : ∀ b o, I b o → I' b o) (h : RowRep w I ρ l r) : RowRep w I' ρ l r :=
 h.mono (fun _ _ _ => rfl) hI (fun _ _ h => h) fun g n sh _ => ⟨rfl, fun htk => absurd (Row.calm_tk hc) htk⟩
mutual
theorem HV.ids_ren {π : Nat → Nat} : ∀ (h : HV) {i : Nat}, i ∈ (h.ren π).ids → ∃ j ∈ h.ids, i = π j
 | .undef, _, h => by have h' : _ ∈ ([] : List Nat) := h; cases h'
 | .any, _, h => by have h' : _ ∈ ([] : List Nat) := h; cases h'
 | .pv p, _, h => by have h' : _ ∈ ([] : List Nat) := h; cases h'
 | .agg cs, _, h => a14 cs h
 | .tup cs, _, h => a14 cs h
 | .fn f cs, _, h => a14 cs h
 | .osl id off len, i, h => ⟨id, by simp [HV.ids], by have h' : i ∈ [π id] := h; simpa using h'⟩
 | .optr id idx off, i, h => ⟨id, by simp [HV.ids], by have h' : i ∈ [π id] := h; simpa using h'⟩
 | .omap id, i, h => ⟨id, by simp [HV.ids], by have h' : i ∈ [π id] := h; simpa using h'⟩
theorem a14 {π : Nat → Nat} : ∀ (hs : List HV) {i : Nat}, i ∈ aC8 (aF9 π hs) → ∃ j ∈ aC8 hs, i = π j
 | [], _, h => by have h' : _ ∈ ([] : List Nat) := h; cases h'
 | x :: r, i, h => by
  have h' : i ∈ (x.ren π).ids ++ aC8 (aF9 π r) := h
  rcases List.mem_append.1 h' with h' | h'
  ·obtain ⟨j, h1, h2⟩ := HV.ids_ren x h'
   exact ⟨j, by simp [aC8, h1], h2⟩
  ·obtain ⟨j, h1, h2⟩ := a14 r h'
   exact ⟨j, by simp [aC8, h1], h2⟩
end
theorem Row.ids_ren {π : Nat → Nat} (r : Row) {i : Nat} (h : i ∈ (r.ren π).ids) : ∃ j ∈ r.ids, i = π j := by
 cases r with
 | h sh es => exact a14 es h
 | _ => simp [Row.ren, Row.ids] at h
end
section
variable {w0 : Base} {I0 : Prot} {row : ad1} {w : World} {I : Prot} {ρ : Nat → Option Loc}
def bR8 (rs : List Row) (τ : Nat → Nat) (ρ : Nat → Option Loc) (b : Nat) : Prop := ∃ k r n sh, rs[k]? = some r ∧ ρ (τ k) = some (.blk b n sh)
def noN (I : Prot) : Prot := ⟨I.c, fun _ => none⟩
def inρ (m : Nat) (τ : Nat → Nat) (ρ : Nat → Option Loc) (k : Nat) : Option Loc := if k < m then ρ (τ k) else none
theorem Mem.into [Mode] (hy : Mode.y = false) (hm : Mem w0 I0 row w I ρ) {rs : List Row} {τ : Nat → Nat} (hinj : ∀ i j, i < rs.length → j < rs.length → τ i = τ j → i = j) (hrow : ∀ k r, rs[k]? = some r → row (τ k) = some (r.ren τ))
  (hcalm : ∀ r ∈ rs, r.calm = true ∧ ∀ id ∈ r.ids, id < rs.length) (gh : Nat → Option Value) (gl : Nat → Option Loc) :
  Mem ⟨w0.P, w, bR8 rs τ ρ, gh, gl⟩ (noN I) (fun k => rs[k]?) w (noN I) (inρ rs.length τ ρ) := by
 have hlt : ∀ {k : Nat} {r : Row}, rs[k]? = some r → k < rs.length := fun h => (gS.1 h).1
 have hin : ∀ {k : Nat} {r : Row}, rs[k]? = some r → inρ rs.length τ ρ k = ρ (τ k) := fun h => iP (hlt h)
 have hc : ∀ {k : Nat} {r : Row}, rs[k]? = some r → r.calm = true ∧ ∀ id ∈ r.ids, id < rs.length := fun h => hcalm _ (mem_of_getElem? h)
 have hNew : ∀ b, bR8 rs τ ρ b → w0.New b := by
  rintro b ⟨k, r, n, sh, h1, h2⟩
  exact (hm.own _ _ _ _ _ (hrow k r h1) h2).1
 refine { bel := Kept.refl _ _, agr := fun _ _ _ => rfl, i0 := fun _ _ h => h, lt := hm.lt, new := fun b o h => .inl h, nn := fun b g h => (nomatch h), tyF := ?_, rows := ?_, own := ?_, inj := ?_, tyI := ?_, tyR := ?_, bld := ?_, one := ?_, glob := ?_, tab := ?_ }
 ·rintro b ⟨k, r, n, sh, h1, h2⟩
  exact ⟨(hm.own _ _ _ _ _ (hrow k r h1) h2).2.1, hm.tyR _ _ _ _ _ (hrow k r h1) h2 hy⟩
 ·intro k r hk
  obtain ⟨l, h1, h2⟩ := hm.rows _ _ (hrow k r hk)
  exact ⟨l, (hin hk).trans h1, RowRep.unren (I := I) (I' := noN I) (hc hk).1 (fun _ _ h => h) h2 fun id hid => iP ((hc hk).2 id hid)⟩
 ·intro k r g n sh hk hρ
  rw [hin hk] at hρ
  obtain ⟨o1, o2, o3⟩ := hm.own _ _ _ _ _ (hrow k r hk) hρ
  refine ⟨.inr ⟨k, r, n, sh, hk, hρ⟩, o2, fun o _ => o3 o ?_⟩
  rw [Row.calm_prot (by rw [a13]; exact (hc hk).1)]; exact zero_le _
 ·intro k k' r r' g n n' sh sh' hk hk' hρ hρ'
  rw [hin hk] at hρ
  rw [hin hk'] at hρ'
  exact hinj _ _ (hlt hk) (hlt hk') (hm.inj _ _ _ _ _ _ _ _ _ (hrow k r hk) (hrow k' r' hk') hρ hρ')
 ·intro b o hb hn _
  rcases hn with hn | ⟨k, r, n, sh, h1, h2⟩
  ·have := hm.lt b o hb
   have hn : w.heap.size ≤ b := hn
   omega
  ·exact hm.tyR _ _ _ _ _ (hrow k r h1) h2 hy
 ·intro k r g n sh hk hρ
  rw [hin hk] at hρ
  exact hm.tyR _ _ _ _ _ (hrow k r hk) hρ
 ·intro k T e bs hk
  exact absurd rfl (Row.calm_b (hc hk).1 T e bs)
 ·intro k k' T e bs T' e' bs' hk _
  exact absurd rfl (Row.calm_b (hc hk).1 T e bs)
 ·refine ⟨fun k hk => ?_, fun k hk => ?_, fun k hk => ?_⟩
  ·obtain ⟨g1, m, g2⟩ := hm.glob.1 k hk
   have hlt := cell_lt g2
   refine ⟨fun hmem => ?_, m, ?_⟩
   ·rcases hNew k hmem with h | h
    ·omega
    ·exact g1 h
   ·rw [← g2]; exact World.cell?_of_block (a := ⟨k, 0, none⟩) (hm.bel.block k hlt g1)
  ·obtain ⟨g1, g2⟩ := hm.glob.2.1 k hk
   have hlt := tab_lt g2 hk
   refine ⟨fun hmem => ?_, tab_same g2 hk (hm.bel.block k hlt g1)⟩
   rcases hNew k hmem with h | h
   ·omega
   ·exact g1 h
  ·obtain ⟨g1, g2⟩ := hm.glob.2.2 k hk
   have hlt := tab_lt g2 hk
   refine ⟨fun hmem => ?_, tab_same g2 hk (hm.bel.block k hlt g1)⟩
   rcases hNew k hmem with h | h
   ·omega
   ·exact g1 h
 ·intro hy'
  rw [hy] at hy'; cases hy'
def nm (π : Nat → Nat) (m id0 k : Nat) : Nat := if k < m then π k else id0 + (k - m)
def bF0 (m id0 : Nat) (L : List Nat) (ρc ρ : Nat → Option Loc) (id : Nat) : Option Loc := if id0 ≤ id ∧ id < id0 + 4 then (L[m + (id - id0)]?).bind ρc else ρ id
def bm9 (τ : Nat → Nat) (m : Nat) (rs' : List (Nat × Row)) : Upd := rs'.map (fun q => (τ q.1, some (q.2.ren τ))) ++ (range m).map fun k => (τ k, none)
theorem aN7 {α β : Type} {f : α → Nat × β} : ∀ {l : List α} {id : Nat} {x : β}, look (l.map f) id = some x → ∃ q ∈ l, f q = (id, x)
 | [], id, x, h => by cases h
 | q :: r, id, x, h => by
  simp only [map_cons] at h
  cases hq : f q with
  | mk a b =>
   rw [hq, look] at h
   split at h
   ·rename_i e
    cases h; subst e
    exact ⟨q, by simp, hq⟩
   ·obtain ⟨q', h1, h2⟩ := aN7 h
    exact ⟨q', by simp [h1], h2⟩
theorem a15 {α β : Type} {f : α → Nat × β} : ∀ {l : List α} {id : Nat}, look (l.map f) id = none → ∀ q ∈ l, (f q).1 ≠ id
 | [], id, _, q, hq => by cases hq
 | a :: r, id, h, q, hq => by
  simp only [map_cons] at h
  cases ha : f a with
  | mk x y =>
   rw [ha, look] at h
   split at h
   ·cases h
   ·rename_i e
    rcases mem_cons.1 hq with rfl | hq
    ·rw [ha]; exact e
    ·exact a15 h q hq
theorem al3 {τ : Nat → Nat} {m : Nat} {rs' : List (Nat × Row)} {id : Nat} {r : Row} (h : ae8 row (bm9 τ m rs') id = some r) :
  (∃ q ∈ rs', id = τ q.1 ∧ r = q.2.ren τ) ∨ (row id = some r ∧ ∀ k, k < m → id ≠ τ k) := by
 unfold ae8 bm9 at h
 rw [aw8] at h
 cases h1 : look (rs'.map fun q => (τ q.1, some (q.2.ren τ))) id with
 | some x =>
  rw [h1] at h
  obtain ⟨q, hq, e⟩ := aN7 h1
  cases e
  simp only [oI] at h
  exact .inl ⟨q, hq, rfl, h.symm⟩
 | none =>
  rw [h1] at h
  cases h2 : look ((range m).map fun k => (τ k, (none : Option Row))) id with
  | some x =>
   rw [h2] at h
   obtain ⟨q, hq, e⟩ := aN7 h2
   cases e
   cases h
  | none =>
   rw [h2] at h
   exact .inr ⟨h, fun k hk e => a15 h2 k (List.mem_range.2 hk) e.symm⟩
theorem bR9 {w : World} {b : Nat} {o : Obj} (h : w.heap[b]? = some o) : b < w.heap.size := (gA.1 h).1
theorem Mem.back [Mode] (hy : Mode.y = false) (hm : Mem w0 I0 row w I ρ) {rs : List Row} {τ : Nat → Nat} {π : Nat → Nat} {id0 : Nat} (hτ : τ = nm π rs.length id0) (hinj : ∀ i j, i < rs.length → j < rs.length → τ i = τ j → i = j) (hrow : ∀ k r, rs[k]? = some r → row (τ k) = some (r.ren τ))
  (hfree : ∀ k, id0 ≤ k → k < id0 + 4 → ρ k = none) {gh : Nat → Option Value} {gl : Nat → Option Loc} {rowc : ad1} {w' : World} {Ic : Prot} {ρc : Nat → Option Loc} (hc : Mem ⟨w0.P, w, bR8 rs τ ρ, gh, gl⟩ (noN I) rowc w' Ic ρc)
  {L : List Nat} (hL : L.Nodup) (hL4 : L.length ≤ rs.length + 4) (hLm : rs.length ≤ L.length) (hpin : ∀ k, k < rs.length → (L[k]?).bind ρc = ρ (τ k))
  {rs' : List (Nat × Row)} (hrs : ∀ q ∈ rs', ∃ id x, L[q.1]? = some id ∧ rowc id = some x ∧ q.2 = x.ren (az6 L) ∧ x.calm = true ∧ ∀ i ∈ x.ids, i ∈ L) :
  Mem w0 I0 (ae8 row (bm9 τ rs.length rs')) w' ⟨Ic.c, I.n⟩ (bF0 rs.length id0 L ρc ρ) ∧ Grow w I ρ w' ⟨Ic.c, I.n⟩ (bF0 rs.length id0 L ρc ρ) (fun k => id0 ≤ k ∧ k < id0 + 4) ∧
   ∀ (h : HV) (v : Value), RepH w' Ic ρc h v → (∀ i ∈ h.ids, i ∈ L) → RepH w' ⟨Ic.c, I.n⟩ (bF0 rs.length id0 L ρc ρ) ((h.ren (az6 L)).ren τ) v := by
 generalize hm' : rs.length = m at *
 have hlt : ∀ {k : Nat} {r : Row}, rs[k]? = some r → k < m := fun h => hm' ▸ (gS.1 h).1
 have hget : ∀ {k : Nat}, k < m → ∃ r, rs[k]? = some r := fun h => ⟨_, gE (by omega)⟩
 have hτm : ∀ {k : Nat}, k < m → ∃ l, ρ (τ k) = some l ∧ ¬ (id0 ≤ τ k ∧ τ k < id0 + 4) := fun hk => by
  obtain ⟨r, hr⟩ := hget hk
  obtain ⟨l, h1, _⟩ := hm.rows _ _ (hrow _ r hr)
  refine ⟨l, h1, fun h => ?_⟩
  rw [hfree _ h.1 h.2] at h1; cases h1
 have K1 : ∀ k, k < L.length → bF0 m id0 L ρc ρ (τ k) = (L[k]?).bind ρc := by
  intro k hk
  by_cases hkm : k < m
  ·obtain ⟨l, h1, h2⟩ := hτm hkm
   unfold bF0
   rw [iN h2, ← hpin k hkm]
  ·have e : τ k = id0 + (k - m) := by rw [hτ]; exact iN hkm
   unfold bF0
   rw [e, iP (by omega)]
   congr 2
   omega
 have hF : ∀ b, bR8 rs τ ρ b → w0.New b ∧ b < w.heap.size := by
  rintro b ⟨k, r, n, sh, h1, h2⟩
  have := hm.own _ _ _ _ _ (hrow k r h1) h2
  exact ⟨this.1, this.2.1⟩
 have hNew : ∀ b, (w.heap.size ≤ b ∨ bR8 rs τ ρ b) → w0.New b := fun b hb => by
  rcases hb with hb | hb
  ·exact .inl (Nat.le_trans hm.bel.size hb)
  ·exact (hF b hb).1
 have hnbF : ∀ b, bR8 rs τ ρ b → nb w0.P w' b := fun b hb => (hc.tyF b hb).2
 have hkeep : ∀ b, b < w.heap.size → ¬ bR8 rs τ ρ b → w'.heap[b]? = w.heap[b]? := fun b h1 h2 => hc.bel.block b h1 h2
 have hag : Agree w w' I := hc.agr
 have hmono : ∀ b o, I b o → Ic b o := hc.i0
 have hmonoρ : ∀ id l, ρ id = some l → bF0 m id0 L ρc ρ id = some l := fun id l h => by
  unfold bF0
  rw [iN]
  ·exact h
  ·intro hf; rw [hfree id hf.1 hf.2] at h; cases h
 have hapart : ∀ {id : Nat} {r : Row} {g n : Nat} {sh : Shape}, row id = some r → (∀ k, k < m → id ≠ τ k) → ρ id = some (.blk g n sh) → ¬ bR8 rs τ ρ g := by
  rintro id r g n sh h1 h2 h3 ⟨k, r', n', sh', h4, h5⟩
  exact h2 k (hlt h4) (hm.inj _ _ _ _ _ _ _ _ _ h1 (hrow k r' h4) h3 h5)
 have hold : ∀ {id : Nat} {r : Row}, row id = some r → ∃ l, ρ id = some l ∧ bF0 m id0 L ρc ρ id = some l := fun h => by
  obtain ⟨l, h1, _⟩ := hm.rows _ _ h
  exact ⟨l, h1, hmonoρ _ _ h1⟩
 have hren : ∀ {i : Nat}, i ∈ L → bF0 m id0 L ρc ρ (τ (az6 L i)) = ρc i := fun hi => by
  obtain ⟨p1, p2⟩ := aB2 hi
  rw [K1 _ p1, p2]; rfl
 have hq : ∀ q ∈ rs', ∃ id x, rowc id = some x ∧ x.calm = true ∧ bF0 m id0 L ρc ρ (τ q.1) = ρc id ∧ (q.2.ren τ).prot = 0 ∧ (q.2.ren τ).calm = true ∧
   (∀ l, ρc id = some l → RowRep w' Ic ρc l x → RowRep w' ⟨Ic.c, I.n⟩ (bF0 m id0 L ρc ρ) l (q.2.ren τ)) ∧ L[q.1]? = some id := by
  intro q hq
  obtain ⟨id, x, h1, h2, h3, h4, h5⟩ := hrs q hq
  have hk : q.1 < L.length := (gS.1 h1).1
  have hcm : (q.2.ren τ).calm = true := by rw [h3, a13, a13]; exact h4
  refine ⟨id, x, h2, h4, by rw [K1 _ hk, h1]; rfl, Row.calm_prot hcm, hcm, fun l hl hr => ?_, h1⟩
  rw [h3]
  have r1 : RowRep w' Ic (fun k => (L[k]?).bind ρc) l (x.ren (az6 L)) := hr.ren fun i hi => by
   show (L[az6 L i]?).bind ρc = ρc i
   rw [(aB2 (h5 i hi)).2]; rfl
  have r2 : RowRep w' Ic (bF0 m id0 L ρc ρ) l ((x.ren (az6 L)).ren τ) := r1.ren fun i hi => by
   obtain ⟨j, hj, rfl⟩ := Row.ids_ren x hi
   rw [hren (h5 j hj)]
   show ρc j = (L[az6 L j]?).bind ρc
   rw [(aB2 (h5 j hj)).2]; rfl
  exact RowRep.calmI (I := Ic) (I' := ⟨Ic.c, I.n⟩) (by rw [a13, a13]; exact h4) (fun b o h => h) r2
 refine ⟨?_, ⟨hag, hmono, hmonoρ, fun id h1 h2 => ?_⟩, fun h v hr hi => ?_⟩
 ·refine { bel := hm.bel.trans hc.bel fun g hg => (hF g hg).1, agr := hm.agr.trans hag hm.i0, i0 := fun b o hb => hmono b o (hm.i0 b o hb), lt := hc.lt, new := fun b o hb => ?_, nn := ?_, tyF := ?_, rows := ?_, own := ?_, inj := ?_, tyI := ?_, tyR := ?_, bld := ?_, one := ?_, glob := hm.glob, tab := hm.tab }
  ·rcases hc.new b o hb with h | h
   ·exact hm.new b o h
   ·exact .inr (hNew b h)
  ·intro b g hb
   obtain ⟨n1, n2, n3, n4⟩ := hm.nn b g hb
   have hbF : ¬ bR8 rs τ ρ b := by
    rintro ⟨k, r, n, sh, h1, h2⟩
    exact n4 _ _ _ _ (hrow k r h1) h2
   refine ⟨n1, lt_of_lt_of_le n2 hc.bel.size, n3.same (hkeep b n2 hbF), fun id r n sh hr hρ => ?_⟩
   rcases al3 hr with ⟨q, hq1, rfl, rfl⟩ | ⟨h1, h2⟩
   ·obtain ⟨idc, x, q1, q2, q3, _⟩ := hq q hq1
    rw [q3] at hρ
    rcases (hc.own idc x b n sh q1 hρ).1 with h | h
    ·have h : w.heap.size ≤ b := h
     omega
    ·exact hbF h
   ·obtain ⟨l, l1, l2⟩ := hold h1
    rw [l2] at hρ; cases hρ
    exact n4 id r n sh h1 l1
  ·intro b hb
   obtain ⟨t1, t2⟩ := hm.tyF b hb
   refine ⟨t1, ?_⟩
   by_cases h : bR8 rs τ ρ b
   ·exact hnbF b h
   ·exact t2.same (hkeep b (lt_of_lt_of_le t1 hm.bel.size) h)
  ·intro id r hr
   rcases al3 hr with ⟨q, hq1, rfl, rfl⟩ | ⟨h1, h2⟩
   ·obtain ⟨idc, x, q1, q2, q3, _, _, q4, _⟩ := hq q hq1
    obtain ⟨l, l1, l2⟩ := hc.rows idc x q1
    exact ⟨l, q3.trans l1, q4 l l1 l2⟩
   ·obtain ⟨l, l1, l2⟩ := hm.rows id r h1
    refine ⟨l, hmonoρ _ _ l1, RowRep.mono (I := I) (I' := ⟨Ic.c, I.n⟩) hag hmono hmonoρ (fun g n sh hl => ?_) l2⟩
    subst hl
    have hg := hapart h1 h2 l1
    obtain ⟨o1, o2, o3⟩ := hm.own id r g n sh h1 l1
    refine ⟨hkeep g o2 hg, fun htk b hb => ?_⟩
    obtain ⟨n1, n2, n3, n4⟩ := hm.nn b g hb
    have hbF : ¬ bR8 rs τ ρ b := by
     rintro ⟨k, r', n', sh', h3, h4⟩
     exact n4 _ _ _ _ (hrow k r' h3) h4
    refine ⟨hb, hkeep b n2 hbF, fun o ho => ?_⟩
    rcases hc.new b o ho with h | h | h
    ·exact h
    ·have h : w.heap.size ≤ b := h
     omega
    ·exact absurd h hbF
  ·intro id r g n sh hr hρ
   rcases al3 hr with ⟨q, hq1, rfl, rfl⟩ | ⟨h1, h2⟩
   ·obtain ⟨idc, x, q1, qc, q3, q5, _⟩ := hq q hq1
    rw [q3] at hρ
    obtain ⟨o1, o2, o3⟩ := hc.own idc x g n sh q1 hρ
    exact ⟨hNew g o1, o2, fun o _ => o3 o (by rw [Row.calm_prot qc]; exact zero_le _)⟩
   ·obtain ⟨l, l1, l2⟩ := hold h1
    rw [l2] at hρ; cases hρ
    have hg := hapart h1 h2 l1
    obtain ⟨o1, o2, o3⟩ := hm.own id r g n sh h1 l1
    refine ⟨o1, lt_of_lt_of_le o2 hc.bel.size, fun o ho hI => ?_⟩
    rcases hc.new g o hI with h | h | h
    ·exact o3 o ho h
    ·have h : w.heap.size ≤ g := h
     omega
    ·exact hg h
  ·intro id id' r r' g n n' sh sh' hr hr' hρ hρ'
   rcases al3 hr with ⟨q, hq1, rfl, rfl⟩ | ⟨h1, h2⟩
   ·obtain ⟨idc, x, q1, qc, q3, _, _, _, q6⟩ := hq q hq1
    rw [q3] at hρ
    rcases al3 hr' with ⟨q', hq1', rfl, rfl⟩ | ⟨h1', h2'⟩
    ·obtain ⟨idc', x', q1', qc', q3', _, _, _, q6'⟩ := hq q' hq1'
     rw [q3'] at hρ'
     have := hc.inj idc idc' x x' g n n' sh sh' q1 q1' hρ hρ'
     subst this
     rw [aR5 hL q6 q6']
    ·exfalso
     obtain ⟨l, l1, l2⟩ := hold h1'
     rw [l2] at hρ'; cases hρ'
     rcases (hc.own idc x g n sh q1 hρ).1 with h | h
     ·have := (hm.own id' r' g n' sh' h1' l1).2.1
      have h : w.heap.size ≤ g := h
      omega
     ·exact hapart h1' h2' l1 h
   ·obtain ⟨l, l1, l2⟩ := hold h1
    rw [l2] at hρ; cases hρ
    rcases al3 hr' with ⟨q', hq1', rfl, rfl⟩ | ⟨h1', h2'⟩
    ·exfalso
     obtain ⟨idc', x', q1', qc', q3', _⟩ := hq q' hq1'
     rw [q3'] at hρ'
     rcases (hc.own idc' x' g n' sh' q1' hρ').1 with h | h
     ·have := (hm.own id r g n sh h1 l1).2.1
      have h : w.heap.size ≤ g := h
      omega
     ·exact hapart h1 h2 l1 h
    ·obtain ⟨l', l1', l2'⟩ := hold h1'
     rw [l2'] at hρ'; cases hρ'
     exact hm.inj id id' r r' g n n' sh sh' h1 h1' l1 l1'
  ·intro b o hb hn hy'
   by_cases h : w.heap.size ≤ b ∨ bR8 rs τ ρ b
   ·exact hc.tyI b o hb h hy'
   ·rcases hc.new b o hb with h1 | h1
    ·have hb' := hm.lt b o h1
     exact (hm.tyI b o h1 hn hy').same (hkeep b hb' fun hf => h (.inr hf))
    ·exact absurd h1 h
  ·intro id r g n sh hr hρ
   rcases al3 hr with ⟨q, hq1, rfl, rfl⟩ | ⟨h1, h2⟩
   ·obtain ⟨idc, x, q1, qc, q3, _⟩ := hq q hq1
    rw [q3] at hρ
    exact hc.tyR idc x g n sh q1 hρ
   ·obtain ⟨l, l1, l2⟩ := hold h1
    rw [l2] at hρ; cases hρ
    exact (hm.tyR id r g n sh h1 l1).same (hkeep g (hm.own id r g n sh h1 l1).2.1 (hapart h1 h2 l1))
  ·intro id T e bs hr
   rcases al3 hr with ⟨q, hq1, rfl, hqe⟩ | ⟨h1, h2⟩
   ·obtain ⟨idc, x, q1, qc, q3, q5, q7, _⟩ := hq q hq1
    rw [← hqe] at q7; cases q7
   ·obtain ⟨g, n, sh, b1, b2, b3, b4⟩ := hm.bld id T e bs h1
    refine ⟨g, n, sh, hmonoρ _ _ b1, aI6 b2 (hkeep g (hm.own id _ g n sh h1 b1).2.1 (hapart h1 h2 b1)) (fun g' c fz hB hg' => hkeep g' (bR9 hg') fun hf => ?_), b3, b4⟩
    obtain ⟨k, r', n', sh', h3, h4⟩ := hf
    have := (hm.tyR _ _ _ _ _ (hrow k r' h3) h4 hy) c e fz hg'
    rw [b3] at this; cases this
  ·intro id id' T e bs T' e' bs' hr hr'
   rcases al3 hr with ⟨q, hq1, rfl, hqe⟩ | ⟨h1, h2⟩
   ·obtain ⟨idc, x, q1, qc, q3, q5, q7, _⟩ := hq q hq1
    rw [← hqe] at q7; cases q7
   ·rcases al3 hr' with ⟨q, hq1, rfl, hqe⟩ | ⟨h1', h2'⟩
    ·obtain ⟨idc, x, q1, qc, q3, q5, q7, _⟩ := hq q hq1
     rw [← hqe] at q7; cases q7
    ·exact hm.one id id' T e bs T' e' bs' h1 h1'
 ·unfold bF0
  rw [iN h2]; exact h1
 ·have r1 : RepH w' Ic (fun k => (L[k]?).bind ρc) (h.ren (az6 L)) v := hr.ren fun i hi' => by
   show (L[az6 L i]?).bind ρc = ρc i
   rw [(aB2 (hi i hi')).2]; rfl
  have r2 : RepH w' Ic (bF0 m id0 L ρc ρ) ((h.ren (az6 L)).ren τ) v := r1.ren fun i hi' => by
   obtain ⟨j, hj, rfl⟩ := HV.ids_ren h hi'
   rw [hren (hi j hj)]
   show ρc j = (L[az6 L j]?).bind ρc
   rw [(aB2 (hi j hj)).2]; rfl
  exact RepH.mono (I := Ic) (I' := ⟨Ic.c, I.n⟩) (fun _ _ _ => rfl) (fun b o h => h) (fun _ _ h => h) r2
end
mutual
theorem RepH.dom {w : World} {I : Prot} {ρ : Nat → Option Loc} : ∀ {h : HV} {v : Value}, RepH w I ρ h v → ∀ id ∈ h.ids, ∃ l, ρ id = some l
 | _, _, .undef, _, hi => by simp [HV.ids] at hi
 | _, _, .any _ _ _, _, hi => by simp [HV.ids] at hi
 | _, _, .pv _, _, hi => by simp [HV.ids] at hi
 | _, _, .agg h, id, hi => RepHs.dom h id (by simpa [HV.ids] using hi)
 | _, _, .tup h, id, hi => RepHs.dom h id (by simpa [HV.ids] using hi)
 | _, _, .oslNil h, id, hi => by simp [HV.ids] at hi; subst hi; exact ⟨_, h⟩
 | _, _, .osl h _ _, id, hi => by simp [HV.ids] at hi; subst hi; exact ⟨_, h⟩
 | _, _, .oslEnd h _, id, hi => by simp [HV.ids] at hi; subst hi; exact ⟨_, h⟩
 | _, _, .optr h, id, hi => by simp [HV.ids] at hi; subst hi; exact ⟨_, h⟩
 | _, _, .omap h, id, hi => by simp [HV.ids] at hi; subst hi; exact ⟨_, h⟩
 | _, _, .fn f h, id, hi => RepHs.dom h id (by simpa [HV.ids] using hi)
theorem RepHs.dom {w : World} {I : Prot} {ρ : Nat → Option Loc} : ∀ {hs : List HV} {vs : List Value}, RepHs w I ρ hs vs → ∀ id ∈ aC8 hs, ∃ l, ρ id = some l
 | _, _, .nil, _, hi => by simp [aC8] at hi
 | _, _, .cons h r, id, hi => by
  simp only [aC8, List.mem_append] at hi
  rcases hi with hi | hi
  ·exact RepH.dom h id hi
  ·exact RepHs.dom r id hi
end
theorem b22 (h : HV) : h.ids = aC8 h.cells := by
 cases h with
 | pv p =>
  rw [HV.cells_pv]
  have : ∀ l : List PV, aC8 (l.map HV.pv) = [] := by
   intro l
   induction l with
   | nil => rfl
   | cons a r ih => simp [aC8, HV.ids, ih]
  rw [this]; rfl
 | agg cs => simp [HV.ids, HV.cells]
 | _ => simp [HV.ids, HV.cells, aC8]
theorem RowRep.dom {w : World} {I : Prot} {ρ : Nat → Option Loc} {l : Loc} {r : Row} (h : RowRep w I ρ l r) : ∀ id ∈ r.ids, ∃ l', ρ id = some l' := by
 intro id hid
 cases r with
 | p sh es tk => simp [Row.ids] at hid
 | room sh es => simp [Row.ids] at hid
 | b T e s => simp [Row.ids] at hid
 | m es ck => simp [Row.ids] at hid
 | h sh es =>
  have hid : id ∈ aC8 es := hid
  cases l with
  | nil =>
   have h : es = [] := h
   subst h; simp [aC8] at hid
  | blk g n sh' =>
   obtain ⟨_, _, cur, t, vs, _, _, h5, _⟩ := h
   refine h5.dom id ?_
   obtain ⟨x, hx, hi⟩ := aN1 hid
   rw [b22] at hi
   obtain ⟨y, hy, hi⟩ := aN1 hi
   exact aE1 (List.mem_flatMap.2 ⟨x, hx, hy⟩) id hi
theorem Mem.renamed [Mode] {w0 : Base} {I0 : Prot} {row row' : ad1} {w : World} {I : Prot} {ρ ρ' : Nat → Option Loc} {π : Nat → Nat} (hm : Mem w0 I0 row w I ρ)
  (hrow : ∀ k r, row' k = some r → ∃ id x, row id = some x ∧ r = x.ren π ∧ ρ' k = ρ id ∧ k = π id) (hids : ∀ id x, row id = some x → ∀ i ∈ x.ids, ρ' (π i) = ρ i) : Mem w0 I0 row' w I ρ' := by
 have hprot : ∀ x : Row, (x.ren π).prot = x.prot := fun x => by cases x <;> rfl
 refine { bel := hm.bel, agr := hm.agr, i0 := hm.i0, lt := hm.lt, new := hm.new, tyF := hm.tyF, nn := fun b g hb => ?_, rows := ?_, own := ?_, inj := ?_, tyI := hm.tyI, tyR := ?_, bld := ?_, one := ?_, glob := hm.glob, tab := hm.tab }
 ·obtain ⟨n1, n2, n3, n4⟩ := hm.nn b g hb
  refine ⟨n1, n2, n3, fun k r n sh hk hρ => ?_⟩
  obtain ⟨id, x, h1, rfl, h3, _⟩ := hrow k r hk
  exact n4 id x n sh h1 (h3 ▸ hρ)
 ·intro k r hk
  obtain ⟨id, x, h1, rfl, h3, _⟩ := hrow k r hk
  obtain ⟨l, l1, l2⟩ := hm.rows id x h1
  exact ⟨l, h3.trans l1, l2.ren (hids id x h1)⟩
 ·intro k r g n sh hk hρ
  obtain ⟨id, x, h1, rfl, h3, _⟩ := hrow k r hk
  rw [hprot]
  exact hm.own id x g n sh h1 (h3 ▸ hρ)
 ·intro k k' r r' g n n' sh sh' hk hk' hρ hρ'
  obtain ⟨id, x, h1, rfl, h3, h4⟩ := hrow k r hk
  obtain ⟨id', x', h1', rfl, h3', h4'⟩ := hrow k' r' hk'
  rw [h4, h4', hm.inj id id' x x' g n n' sh sh' h1 h1' (h3 ▸ hρ) (h3' ▸ hρ')]
 ·intro k r g n sh hk hρ
  obtain ⟨id, x, h1, rfl, h3, _⟩ := hrow k r hk
  exact hm.tyR id x g n sh h1 (h3 ▸ hρ)
 ·intro k T e bs hk
  obtain ⟨id, x, h1, hx, h3, _⟩ := hrow k _ hk
  have hx' : x = .b T e bs := by cases x <;> cases hx; rfl
  subst hx'
  obtain ⟨g, n, sh, q1, q2, q3⟩ := hm.bld id T e bs h1
  exact ⟨g, n, sh, h3.trans q1, q2, q3⟩
 ·intro k k' T e bs T' e' bs' hk hk'
  obtain ⟨id, x, h1, hx, _, h4⟩ := hrow k _ hk
  obtain ⟨id', x', h1', hx', _, h4'⟩ := hrow k' _ hk'
  have e1 : x = .b T e bs := by cases x <;> cases hx; rfl
  have e2 : x' = .b T' e' bs' := by cases x' <;> cases hx'; rfl
  subst e1; subst e2
  rw [h4, h4', hm.one id id' _ _ _ _ _ _ h1 h1']
def co7 (π : Nat → Nat) (k : Nat) (v : HV) : HV := match Nat.blt k 1000000 with
 | true => v.ren π
 | false => v
def cv0 (i : Nat) (st : VSt) : VSt :=
 let π := fun k => if k = i then st.nx else k
 ⟨st.tm.map fun q => (q.1, co7 π q.1 q.2), (i, none) :: (st.nx, (ae3 st.hp i).map (Row.ren π)) :: st.hp.map (fun q => (q.1, q.2.map (Row.ren π))), st.nx + 1⟩
theorem a16 {α β : Type} (f : Nat → α → β) : ∀ (tm : List (Nat × α)) (s : Nat), look (tm.map fun q => (q.1, f q.1 q.2)) s = (look tm s).map (f s)
 | [], _ => rfl
 | (k, v) :: r, s => by
  simp only [map_cons, look]
  split
  ·rename_i e; subst e; rfl
  ·exact a16 f r s
theorem b23 [Mode] (i : Nat) (st : VSt) (hlt : Nat.blt i st.nx = true) : Sub (cv0 i st) st := by
 intro N w0 I0 a w ⟨hN, I, ρ, hr, hfree⟩
 have hi : i < st.nx := by rwa [blt_eq] at hlt
 let π := fun k => if k = i then st.nx else k
 let ρ' := fun k => if k = st.nx then ρ i else ρ k
 have hnx : ρ st.nx = none := hfree _ (le_refl _)
 have hπ : ∀ id l, ρ id = some l → ρ' (π id) = ρ id := by
  intro id l hl
  show (if (if id = i then st.nx else id) = st.nx then ρ i else ρ (if id = i then st.nx else id)) = ρ id
  by_cases h : id = i
  ·subst h; simp
  ·have h2 : id ≠ st.nx := by rintro rfl; rw [hnx] at hl; cases hl
   simp [h, h2]
 have hold : ∀ id l, ρ id = some l → ρ' id = some l := by
  intro id l hl
  show (if id = st.nx then ρ i else ρ id) = some l
  have h2 : id ≠ st.nx := by rintro rfl; rw [hnx] at hl; cases hl
  simp [h2, hl]
 refine ⟨hN, I, ρ', ⟨?_, ?_, ?_, hr.df⟩, fun k hk => ?_⟩
 ·refine hr.mem.renamed (π := π) (fun k r hk => ?_) fun id x hx j hj => ?_
  ·have hk : ae3 ((i, none) :: (st.nx, (ae3 st.hp i).map (Row.ren π)) :: st.hp.map (fun q => (q.1, q.2.map (Row.ren π)))) k = some r := hk
   unfold ae3 at hk
   simp only [look] at hk
   split at hk
   ·cases hk
   ·rename_i h1
    split at hk
    ·rename_i h2
     have hk : (ae3 st.hp i).map (Row.ren π) = some r := hk
     simp only [oM] at hk
     obtain ⟨x, hx, rfl⟩ := hk
     refine ⟨i, x, hx, rfl, ?_, ?_⟩
     ·show (if k = st.nx then ρ i else ρ k) = ρ i
      rw [iP h2.symm]
     ·show k = if i = i then st.nx else i
      rw [iP rfl]; exact h2.symm
    ·rename_i h2
     rw [a16 (fun _ (q : Option Row) => q.map (Row.ren π))] at hk
     simp only [oE, oM] at hk
     obtain ⟨y, ⟨z, hz, rfl⟩, hy⟩ := hk
     cases z with
     | none => cases hy
     | some x =>
      simp only [Option.map_some, oI] at hy
      subst hy
      refine ⟨k, x, by unfold ae3; rw [hz]; rfl, rfl, ?_, ?_⟩
      ·show (if k = st.nx then ρ i else ρ k) = ρ k
       rw [iN (Ne.symm h2)]
      ·show k = if k = i then st.nx else k
       rw [iN (Ne.symm h1)]
  ·obtain ⟨l, _, l2⟩ := hr.mem.rows id x hx
   obtain ⟨l', hl'⟩ := l2.dom j hj
   exact hπ j l' hl'
 ·intro s h hs h6
  have hs : look (st.tm.map fun q => (q.1, co7 π q.1 q.2)) s = some h := hs
  rw [a16 (co7 π)] at hs
  simp only [oM] at hs
  obtain ⟨x, hx, hh⟩ := hs
  have hb : Nat.blt s 1000000 = true := by rw [blt_eq]; exact h6
  unfold co7 at hh
  rw [hb] at hh
  have hh : x.ren π = h := hh
  subst hh
  obtain ⟨t1, t2⟩ := hr.tm s x hx h6
  refine ⟨t1, t2.ren fun j hj => ?_⟩
  obtain ⟨l, hl⟩ := t2.dom j hj
  exact hπ j l hl
 ·intro s h hs h6
  have hs : look (st.tm.map fun q => (q.1, co7 π q.1 q.2)) s = some h := hs
  rw [a16 (co7 π)] at hs
  simp only [oM] at hs
  obtain ⟨x, hx, hh⟩ := hs
  have hb : Nat.blt s 1000000 = false := by
   cases h : Nat.blt s 1000000 with
   | false => rfl
   | true => rw [blt_eq] at h; omega
  unfold co7 at hh
  rw [hb] at hh
  have hh : x = h := hh
  subst hh
  obtain ⟨q0, v, q1, q2, q3⟩ := hr.gh s x hx h6
  exact ⟨q0, v, q1, q2.mono (fun _ _ _ => rfl) (fun _ _ h => h) hold, fun id l e1 e2 => hold _ _ (q3 id l e1 e2)⟩
 ·have hk : st.nx + 1 ≤ k := hk
  show (if k = st.nx then ρ i else ρ k) = none
  rw [iN (by omega)]
  exact hfree k (by omega)
def bK9 : List Nat → VSt → VSt
 | [], st => st
 | i :: l, st => match Nat.blt i st.nx with
  | true => bK9 l (cv0 i st)
  | false => st
theorem a82 [Mode] : ∀ (l : List Nat) (st : VSt), Sub (bK9 l st) st
 | [], st => .refl st
 | i :: l, st => by
  unfold bK9
  split
  ·rename_i h
   exact (a82 l _).trans (b23 i st h)
  ·exact .refl st
def b24 (id c : Nat) (sh : Shape) (st : VSt) : VSt := match Nat.blt id st.nx with
 | true => match ae3 st.hp id with
  | some (.p bsh [e] _) => b99 id c sh bsh (.pv e) st
  | some (.h bsh [e]) => b99 id c sh bsh e st
  | _ => st
 | false => st
theorem aY0 [Mode] (id c : Nat) (sh : Shape) (st : VSt) : Sub (b24 id c sh st) st := by
 unfold b24
 split
 ·rename_i hb
  have hid : id < st.nx := by rwa [blt_eq] at hb
  split
  ·rename_i bsh e tk h0
   exact ci8 hid h0 rfl rfl rfl
  ·rename_i bsh e h0
   exact ci8 hid h0 rfl rfl rfl
  ·exact .refl st
 ·exact .refl st
def co8 : Nat → List Row → List (Nat × Option Row)
 | _, [] => []
 | i, r :: l => (i, some r) :: co8 (i + 1) l
theorem bx2 : ∀ (rs : List Row) (i k : Nat), look (co8 i rs) k = if i ≤ k then (rs[k - i]?).map some else none
 | [], i, k => by simp [co8, look]
 | r :: l, i, k => by
  rw [co8, look, bx2 l (i + 1) k]
  by_cases h : i = k
  ·subst h; simp
  ·rw [iN h]
   by_cases h2 : i ≤ k
   ·rw [iP h2, iP (by omega), show k - i = (k - (i + 1)) + 1 by omega]
    simp
   ·rw [iN h2, iN (by omega)]
theorem bS0 (rs : List Row) : ae3 (co8 0 rs) = fun k => rs[k]? := by
 funext k
 unfold ae3
 rw [bx2, iP (zero_le _), Nat.sub_zero]
 cases rs[k]? <;> rfl
def ghTm : Nat → List HV → List (Nat × HV)
 | _, [] => []
 | b, g :: r => (b, .tup [g]) :: ghTm (b + 1) r
theorem bf2 : ∀ (gs : List HV) (b s : Nat) (h : HV), look (ghTm b gs) s = some h → b ≤ s ∧ ∃ g, gs[s - b]? = some g ∧ h = .tup [g]
 | [], b, s, h, hs => by cases hs
 | g :: r, b, s, h, hs => by
  rw [ghTm, look] at hs
  split at hs
  ·rename_i e
   simp only [oI] at hs
   subst e; subst hs
   exact ⟨le_refl _, g, by rw [Nat.sub_self]; rfl, rfl⟩
  ·obtain ⟨h1, g', h2, h3⟩ := bf2 r (b + 1) s h hs
   refine ⟨by omega, g', ?_, h3⟩
   rw [show s - b = (s - (b + 1)) + 1 by omega]
   simpa using h2
def b25 (hs gs : List HV) (rs : List Row) : VSt := ⟨a07 0 hs ++ ghTm 1000000 gs, co8 0 rs, rs.length⟩
def ct2 (τ : Nat → Nat) : Nat → List Row → List (Nat × Row)
 | _, [] => []
 | i, r :: l => (τ i, r.ren τ) :: ct2 τ (i + 1) l
theorem bL0 {τ : Nat → Nat} : ∀ {rs : List Row} {i k : Nat} {r : Row}, rs[k]? = some r → (τ (i + k), r.ren τ) ∈ ct2 τ i rs
 | x :: l, i, 0, r, h => by
  simp only [List.getElem?_cons_zero, oI] at h
  subst h; simp [ct2]
 | x :: l, i, k + 1, r, h => by
  have := bL0 (τ := τ) (i := i + 1) (rs := l) (k := k) (by simpa using h)
  rw [ct2, show i + (k + 1) = i + 1 + k by omega]
  exact List.mem_cons_of_mem _ this
def MutOK [Mode] (P : Program) (f : FuncId) (hs : List HV) (rs : List Row) (h : HV) (rs' : List (Nat × Row)) : Prop :=
 ∀ (π : Nat → Nat) (id0 : Nat), (∀ i j, i < rs.length → j < rs.length → nm π rs.length id0 i = nm π rs.length id0 j → i = j) →
  bv5 P f (aF9 (nm π rs.length id0) hs) (ct2 (nm π rs.length id0) 0 rs) id0 (h.ren (nm π rs.length id0)) (bm9 (nm π rs.length id0) rs.length rs')
def bW3 (a : List Nat) : List Nat → List Nat
 | [] => a
 | x :: r => match a.contains x with
  | true => bW3 a r
  | false => bW3 (a ++ [x]) r
theorem a17 : ∀ (l a : List Nat), a.Nodup → (bW3 a l).Nodup ∧ a.length ≤ (bW3 a l).length ∧ ∀ k, k < a.length → (bW3 a l)[k]? = a[k]?
 | [], a, h => ⟨h, le_refl _, fun _ _ => rfl⟩
 | x :: r, a, h => by
  unfold bW3
  split
  ·exact a17 r a h
  ·rename_i hc
   have hx : x ∉ a := fun hm => by rw [List.contains_iff_mem.2 hm] at hc; cases hc
   obtain ⟨h1, h2, h3⟩ := a17 r (a ++ [x]) (List.nodup_append.2 ⟨h, by simp, fun y hy z hz => by simp at hz; subst hz; rintro rfl; exact hx hy⟩)
   refine ⟨h1, by simp at h2; omega, fun k hk => ?_⟩
   rw [h3 k (by simp; omega), List.getElem?_append_left hk]
def cv1 (get : Nat → Option HV) : Nat → Nat → Option (List Nat)
 | _, 0 => some []
 | i, n + 1 => match (get (1000000 + i)).bind aA2 with
  | some id => (cv1 get (i + 1) n).map fun l => id :: l
  | none => none
theorem bx3 {get : Nat → Option HV} : ∀ {n i : Nat} {l : List Nat}, cv1 get i n = some l → l.length = n ∧ ∀ k, k < n → ∃ h, get (1000000 + (i + k)) = some h ∧ aA2 h = l[k]?
 | 0, i, l, h => by
  simp only [cv1, oI] at h
  subst h; exact ⟨rfl, fun k hk => by omega⟩
 | n + 1, i, l, h => by
  unfold cv1 at h
  split at h
  ·rename_i id hid
   simp only [oM] at h
   obtain ⟨l', h1, rfl⟩ := h
   obtain ⟨q1, q2⟩ := bx3 h1
   simp only [oE] at hid
   obtain ⟨x, hx, hp⟩ := hid
   refine ⟨by simp [q1], fun k hk => ?_⟩
   cases k with
   | zero => exact ⟨x, hx, hp⟩
   | succ k =>
    obtain ⟨y, y1, y2⟩ := q2 k (by omega)
    exact ⟨y, by rw [show i + (k + 1) = i + 1 + k by omega]; exact y1, by simpa using y2⟩
  ·cases h
def a83 (st : VSt) (id : Nat) : List Nat := match ae3 st.hp id with
 | some r => r.ids
 | none => []
def cv2 (n : Nat) (st : VSt) (h : HV) : Option (List Nat) := match cv1 (look st.tm) 0 n with
 | some g => match aL2 g with
  | true => some (let l := bW3 g (g.flatMap (a83 st) ++ h.ids); bW3 l (l.flatMap (a83 st)))
  | false => none
 | none => none
def b26 (m : Nat) (L : List Nat) (st : VSt) (h : HV) : Bool := Nat.ble L.length (m + 4) && (h.ids.all (L.contains ·) && L.all fun id => match ae3 st.hp id with
 | some x => x.calm && x.ids.all (L.contains ·)
 | none => true)
def cj4 (L : List Nat) (st : VSt) : Nat → List Nat → List (Nat × Row)
 | _, [] => []
 | k, id :: r => match ae3 st.hp id with
  | some x => (k, x.ren (az6 L)) :: cj4 L st (k + 1) r
  | none => cj4 L st (k + 1) r
theorem bf3 {L : List Nat} {st : VSt} : ∀ {l : List Nat} {k : Nat} {q : Nat × Row}, q ∈ cj4 L st k l → ∃ j id x, q.1 = k + j ∧ l[j]? = some id ∧ ae3 st.hp id = some x ∧ q.2 = x.ren (az6 L)
 | [], k, q, h => by cases h
 | id :: r, k, q, h => by
  unfold cj4 at h
  split at h
  ·rename_i x hx
   rcases mem_cons.1 h with rfl | h
   ·exact ⟨0, id, x, rfl, rfl, hx, rfl⟩
   ·obtain ⟨j, id', y, h1, h2, h3, h4⟩ := bf3 h
    exact ⟨j + 1, id', y, by omega, by simpa using h2, h3, h4⟩
  ·obtain ⟨j, id', y, h1, h2, h3, h4⟩ := bf3 h
   exact ⟨j + 1, id', y, by omega, by simpa using h2, h3, h4⟩
def bS1 : HV → Option PV
 | .pv p => some p
 | .tup cs => (cs.mapM HV.toPv?).map .tup
 | _ => none
def bS2 : PV → HV
 | .tup ps => .tup (ps.map .pv)
 | p => .pv p
theorem b27 {w : World} {I : Prot} {ρ : Nat → Option Loc} {h : HV} {p : PV} {v : Value} (hp : bS1 h = some p) (hr : RepH w I ρ h v) : RepP w I p v [] := by
 cases h with
 | pv q =>
  simp only [bS1, oI] at hp
  subst hp
  cases hr with | pv hr => exact hr
 | tup cs =>
  simp only [bS1, oM] at hp
  obtain ⟨ps, h1, rfl⟩ := hp
  cases hr with | tup hr =>
  rw [aC1 h1] at hr
  exact .tup hr.toP
 | _ => cases hp
theorem b28 {w : World} {I : Prot} {ρ : Nat → Option Loc} {p : PV} {v : Value} (hr : RepP w I p v []) : RepH w I ρ (bS2 p) v := by
 cases p with
 | tup ps => cases hr with | tup hr => exact .tup (hr.toH rfl)
 | _ => exact .pv hr
theorem b29 (π : Nat → Nat) (p : PV) : (bS2 p).ren π = bS2 p := by
 cases p with
 | tup ps =>
  show HV.tup (aF9 π (ps.map .pv)) = .tup (ps.map .pv)
  rw [aB3, map_map]; rfl
 | _ => rfl
def mutQ [Mode] (slots : List (Nat × Option Shape)) (m : Nat) (h : HV) (rs' : List (Nat × Row)) : VExit → VSt → Prop
 | .exit _, _ => False
 | _, st => ∃ hs L, aD2 (look st.tm) (ae3 st.hp) slots = some hs ∧ cv2 m st (at1 hs) = some L ∧ b26 m L st (at1 hs) = true ∧ cj4 L st 0 L = rs' ∧
  (h = (at1 hs).ren (az6 L) ∨ ∃ p q, bS1 (at1 hs) = some p ∧ Le p q ∧ h = bS2 q)
theorem b30 {w : World} {I : Prot} {ρ : Nat → Option Loc} : ∀ {gs : List HV}, (∀ g ∈ gs, ∃ v, RepH w I ρ g v) → ∃ gv, RepHs w I ρ gs gv
 | [], _ => ⟨[], .nil⟩
 | g :: r, h => by
  obtain ⟨v, hv⟩ := h g (by simp)
  obtain ⟨gv, hg⟩ := b30 (gs := r) fun x hx => h x (by simp [hx])
  exact ⟨v :: gv, .cons hv hg⟩
theorem RepHs.mem {w : World} {I : Prot} {ρ : Nat → Option Loc} : ∀ {hs : List HV} {vs : List Value}, RepHs w I ρ hs vs → ∀ g ∈ hs, ∃ v, RepH w I ρ g v
 | _, _, .nil, g, h => by cases h
 | _, _, .cons h r, g, hg => by
  rcases mem_cons.1 hg with rfl | hg
  ·exact ⟨_, h⟩
  ·exact r.mem g hg
def ghV (gv : List Value) (s : Nat) : Option Value := if s < 1000000 then none else (gv[s - 1000000]?).map fun v => .tuple #[v]
def ghL (ρc : Nat → Option Loc) (s : Nat) : Option Loc := if s < 1000000 then none else ρc (s - 1000000)
theorem cj5 (ρc : Nat → Option Loc) (k : Nat) : ghL ρc (1000000 + k) = ρc k := by
 unfold ghL
 have h : ¬ (1000000 + k < 1000000) := by omega
 have e : 1000000 + k - 1000000 = k := Nat.add_sub_cancel_left ..
 rw [iN h, e]
theorem bS3 [Mode] {P : Program} {f : FuncId} {fn : Func} {c : Code} {slots : List (Nat × Option Shape)} (hy : Mode.y = false) (hf : P.funcs[f]? = some fn) (hb : fn.body = some c) (hnm : fn.name ≠ "runtime.NumGoroutine")
  (hrs : a08 P fn = some slots) (hN6 : fn.ntmps ≤ 1000000) {hs gs : List HV} {rs : List Row} {h : HV} {rs' : List (Nat × Row)} (hcalm : ∀ r ∈ rs, r.calm = true ∧ ∀ id ∈ r.ids, id < rs.length) (hhs : ∀ id ∈ aC8 hs, id < rs.length)
  (hgl : gs.length = rs.length) (hgm : ∀ g ∈ gs, g ∈ hs ∨ ∃ r ∈ rs, g ∈ r.flat) (hgp : ∀ (k : Nat) (g : HV), gs[k]? = some g → aA2 (.tup [g]) = some k)
  (hw : ∀ (w0 : Base) (I0 : Prot), w0.P = P → ∀ (a : Act) (w : World), bv9 fn.ntmps w0 I0 (b25 hs gs rs) a w → c.wp P (QRep fn.ntmps w0 I0 (mutQ slots rs.length h rs')) a w) : MutOK P f hs rs h rs' := by
 intro π id0 hinj
 refine ⟨fun args w => ?_, fun w0 I0 row w I ρ vs hP hm hr hrows hfree => ?_⟩
 ·unfold callFunc
  simp [hf, hnm, hb]
 generalize hτ : nm π rs.length id0 = τ at *
 have hrow : ∀ k r, rs[k]? = some r → row (τ k) = some (r.ren τ) := fun k r hk => hrows (τ k, r.ren τ) (by
  have := bL0 (τ := τ) (i := 0) hk
  rwa [zero_add] at this)
 have hin : ∀ {k : Nat}, k < rs.length → inρ rs.length τ ρ k = ρ (τ k) := fun h => iP h
 have hgs0 : ∀ g ∈ gs, ∃ v, RepH w (noN I) (inρ rs.length τ ρ) g v := by
  have h1 : RepHs w (noN I) (inρ rs.length τ ρ) hs vs.toList :=
   RepHs.mono (I := I) (I' := noN I) (fun _ _ _ => rfl) (fun b o h => h) (fun _ _ h => h) (RepHs.unren hs hr fun id hid => hin (hhs id hid))
  intro g hg
  rcases hgm g hg with hg | ⟨r, hr1, hg⟩
  ·exact h1.mem g hg
  ·obtain ⟨k, hk⟩ := List.getElem?_of_mem hr1
   have hc0 := Mem.into hy hm hinj hrow hcalm (fun _ => none) (fun _ => none)
   obtain ⟨l, _, l2⟩ := hc0.rows k r hk
   cases l with
   | nil =>
    have l2 : r.es = [] := l2
    unfold Row.flat at hg
    rw [l2] at hg; cases hg
   | blk g' n sh =>
    obtain ⟨_, _, cur, t, us, _, _, h5, _⟩ := l2.cells (by cases r <;> first | rfl | cases hg)
    exact h5.mem g hg
 obtain ⟨gv, hgv⟩ := b30 hgs0
 have hmc := Mem.into hy hm hinj hrow hcalm (ghV gv) (ghL (inρ rs.length τ ρ))
 have hargs : RepHs w (noN I) (inρ rs.length τ ρ) hs vs.toList :=
  RepHs.mono (I := I) (I' := noN I) (fun _ _ _ => rfl) (fun b o h => h) (fun _ _ h => h) (RepHs.unren hs hr fun id hid => hin (hhs id hid))
 generalize hwc : (⟨w0.P, w, bR8 rs τ ρ, ghV gv, ghL (inρ rs.length τ ρ)⟩ : Base) = wc at hmc
 have hgh : wc.gh = ghV gv := by rw [← hwc]
 have hgL : wc.gl = ghL (inρ rs.length τ ρ) := by rw [← hwc]
 have hrep : bv9 fn.ntmps wc (noN I) (b25 hs gs rs) { tmps := vs ++ Array.replicate (fn.ntmps - vs.size) undef, defers := [] } w := by
  refine ⟨⟨by simp; omega, hN6⟩, noN I, inρ rs.length τ ρ, ⟨?_, fun s x hx h6 => ?_, fun s x hx h6 => ?_, rfl⟩, fun k hk => iN (Nat.not_lt.2 hk)⟩
  ·show Mem wc (noN I) (ae3 (co8 0 rs)) w (noN I) _
   rw [bS0]; exact hmc
  ·simp only [b25] at hx
   rw [aw8] at hx
   cases hl : look (a07 0 hs) s with
   | none =>
    rw [hl] at hx
    obtain ⟨h1, _⟩ := bf2 _ _ _ _ hx
    omega
   | some y =>
    rw [hl] at hx
    simp only [oI] at hx
    subst hx
    obtain ⟨_, h2, _⟩ := aG9 _ 0 s y hl
    rw [Nat.sub_zero] at h2
    obtain ⟨z, hz, hrz⟩ := hargs.get s y h2
    have hlt : s < vs.size := by
     have := (gS.1 hz).1
     simpa using this
    have hz' : vs[s]? = some z := by simpa using hz
    refine ⟨by simp; omega, ?_⟩
    have : (vs ++ Array.replicate (fn.ntmps - vs.size) undef).getD s undef = z := by
     have h3 : (vs ++ Array.replicate (fn.ntmps - vs.size) undef)[s]? = some z := by rw [Array.getElem?_append_left hlt]; exact hz'
     simp only [Array.getD_eq_getD_getElem?, h3, getD_some]
    rw [this]; exact hrz
  ·simp only [b25] at hx
   rw [aw8] at hx
   cases hl : look (a07 0 hs) s with
   | some y =>
    obtain ⟨_, _, h7⟩ := aG9 _ 0 s y hl
    omega
   | none =>
    rw [hl] at hx
    obtain ⟨h1, g, hg, rfl⟩ := bf2 _ _ _ _ hx
    obtain ⟨z, hz, hrz⟩ := hgv.get _ _ hg
    refine ⟨⟨_, rfl⟩, .tuple #[z], ?_, .tup (.cons hrz .nil), fun id l q1 q2 => ?_⟩
    ·rw [hgh]; unfold ghV
     rw [iN (by omega), hz]; rfl
    ·rw [hgp _ _ hg] at q1
     have q1 := Option.some.inj q1
     rw [← q1]
     obtain ⟨k, rfl⟩ : ∃ k, s = 1000000 + k := ⟨s - 1000000, by omega⟩
     rw [hgL, cj5] at q2
     have e : 1000000 + k - 1000000 = k := Nat.add_sub_cancel_left ..
     rw [e]; exact q2
 refine calls_of_wp hf hb ?_
 refine wp_mono (hw wc (noN I) (by rw [← hwc]; exact hP) _ w hrep) fun e a' w' hq => ?_
 have fin : ∀ ve st', bv9 fn.ntmps wc (noN I) st' a' w' → mutQ slots rs.length h rs' ve st' → a'.defers = [] ∧ ∃ v, (results fn a'.tmps).run P w' = .ok v w' ∧
   ∃ v' I' ρ', Ending.returned v = .returned v' ∧ Mem w0 I0 (ae8 row (bm9 τ rs.length rs')) w' I' ρ' ∧ RepH w' I' ρ' (h.ren τ) v' ∧ Grow w I ρ w' I' ρ' (fun k => id0 ≤ k ∧ k < id0 + 4) := by
  rintro ve st' ⟨_, Ic, ρc, hrep', hfr⟩ hq
  have hq' : ∃ hs L, aD2 (look st'.tm) (ae3 st'.hp) slots = some hs ∧ cv2 rs.length st' (at1 hs) = some L ∧ b26 rs.length L st' (at1 hs) = true ∧ cj4 L st' 0 L = rs' ∧
    (h = (at1 hs).ren (az6 L) ∨ ∃ p q, bS1 (at1 hs) = some p ∧ Le p q ∧ h = bS2 q) := by
   cases ve with
   | normal => exact hq
   | ret => exact hq
   | exit i => exact hq.elim
  obtain ⟨hsr, L, h1, h2, h3, h4, h5⟩ := hq'
  obtain ⟨v, hrun, hval⟩ := bd8 hrep' hrs h1
  refine ⟨hrep'.df, v, hrun, ?_⟩
  unfold cv2 at h2
  split at h2
  ·rename_i g hg
   split at h2
   ·rename_i hnd
    simp only [oI] at h2
    obtain ⟨l1, l2⟩ := bx3 hg
    obtain ⟨x1, x2, x3⟩ := a17 (g.flatMap (a83 st') ++ (at1 hsr).ids) g (aw9 hnd)
    obtain ⟨u1, y2, y3⟩ := a17 ((bW3 g (g.flatMap (a83 st') ++ (at1 hsr).ids)).flatMap (a83 st')) _ x1
    have h2 : bW3 (bW3 g (g.flatMap (a83 st') ++ (at1 hsr).ids)) ((bW3 g (g.flatMap (a83 st') ++ (at1 hsr).ids)).flatMap (a83 st')) = L := h2
    rw [h2] at u1 y2 y3
    have u2 : g.length ≤ L.length := Nat.le_trans x2 y2
    have u3 : ∀ k, k < g.length → L[k]? = g[k]? := fun k hk => (y3 k (lt_of_lt_of_le hk x2)).trans (x3 k hk)
    unfold b26 at h3
    simp only [bA] at h3
    obtain ⟨o1, o2, o3⟩ := h3
    have hidL : ∀ i ∈ (at1 hsr).ids, i ∈ L := fun i hi => by
     have := all_eq_true.1 o2 i hi
     exact List.contains_iff_mem.1 this
    have hpin : ∀ k, k < rs.length → (L[k]?).bind ρc = ρ (τ k) := by
     intro k hk
     rw [u3 k (by omega)]
     obtain ⟨hh, y1, y2⟩ := l2 k hk
     rw [zero_add] at y1
     obtain ⟨r, hr⟩ : ∃ r, rs[k]? = some r := ⟨_, gE hk⟩
     obtain ⟨l, z1, _⟩ := hm.rows _ _ (hrow k r hr)
     obtain ⟨_, v', _, _, z5⟩ := hrep'.gh _ hh y1 (by omega)
     have hgk : g[k]? = some (g[k]'(by omega)) := gE (by omega)
     rw [hgk] at y2 ⊢
     have hl0 : wc.gl (1000000 + k) = some l := by
      rw [hgL, cj5, hin hk]; exact z1
     have := z5 _ l y2 hl0
     rw [z1]; exact this
    have hmb := hrep'.mem
    rw [← hwc] at hmb
    obtain ⟨m1, g1, r1⟩ := Mem.back hy hm hτ.symm hinj hrow hfree hmb u1 (Nat.le_of_ble_eq_true o1) (by omega) hpin (rs' := rs') (by
     intro q hq
     rw [← h4] at hq
     obtain ⟨j, id, x, q1, q2, q3, q4⟩ := bf3 hq
     have hidm : id ∈ L := mem_of_getElem? q2
     have hx := all_eq_true.1 o3 id hidm
     rw [q3] at hx
     simp only [bA] at hx
     refine ⟨id, x, by rw [q1, zero_add]; exact q2, q3, q4, hx.1, fun i hi => ?_⟩
     exact List.contains_iff_mem.1 (all_eq_true.1 hx.2 i hi))
    refine ⟨v, _, _, rfl, m1, ?_, g1⟩
    rcases h5 with rfl | ⟨p, q, e1, e2, rfl⟩
    ·exact r1 _ v hval hidL
    ·rw [b29]
     exact b28 (RepP.mono (I := Ic) (I' := ⟨Ic.c, I.n⟩) (fun _ _ _ => rfl) (fun b o h => h) ((b27 e1 hval).le e2) (by simp))
   ·cases h2
  ·cases h2
 cases e with
 | normal => obtain ⟨st, q1, q2⟩ := hq; exact fin .normal st q1 q2
 | ret => obtain ⟨st, q1, q2⟩ := hq; exact fin .ret st q1 q2
 | exit id => obtain ⟨st, q1, q2⟩ := hq; exact q2.elim
 | _ => exact hq.elim
section
variable {P : Program}
def bL1 [Mode] {ρ : Type} (slots : List (Nat × Option Shape)) (m : Nat) (H : ρ → HV) (RS : ρ → List (Nat × Row)) (st : VSt) (t : Tr P ρ) : Obl := match t with
 | .dead => .tt
 | .ret r => match aD2 (look st.tm) (ae3 st.hp) slots with
  | some hs => match cv2 m st (at1 hs) with
   | some L => match b26 m L st (at1 hs) with
    | true => .and (.eq ((at1 hs).ren (az6 L)) (H r)) (.eq (cj4 L st 0 L) (RS r))
    | false => .bad
   | none => .bad
  | none => .bad
 | .fin p obs pf q hl t => match t with
  | .ret r => match aD2 (look st.tm) (ae3 st.hp) slots with
   | some hs => match cv2 m st (at1 hs) with
    | some L => match b26 m L st (at1 hs) with
     | true => .and (.eq (bS1 (at1 hs)) (some p)) (.and (.eq (bS2 q) (H r)) (.eq (cj4 L st 0 L) (RS r)))
     | false => .bad
    | none => .bad
   | none => .bad
  | _ => .bad
 | _ => .bad
def cv3 [Mode] {ρ : Type} (slots : List (Nat × Option Shape)) (m : Nat) (H : ρ → HV) (RS : ρ → List (Nat × Row)) : VExit → VSt → Tr P ρ → Obl
 | .exit _, _, _ => .bad
 | .normal, st, t => aN6 P 1 t st fun st t => bL1 slots m H RS st t
 | .ret, st, t => aN6 P 1 t st fun st t => bL1 slots m H RS st t
theorem a84 [Mode] {ρ : Type} {slots : List (Nat × Option Shape)} {m : Nat} {H : ρ → HV} {RS : ρ → List (Nat × Row)} {st : VSt} {t : Tr P ρ} {r : ρ} (hs : t.Sat (fun v => v = r)) (h : (bL1 slots m H RS st t).Ok) : mutQ slots m (H r) (RS r) .ret st := by
 unfold bL1 at h
 split at h
 ·exact hs.elim
 ·rename_i v
  have hv : v = r := hs
  subst hv
  split at h
  ·rename_i hs1 h1
   split at h
   ·rename_i L h2
    split at h
    ·rename_i h3
     obtain ⟨e1, e2⟩ := h
     exact ⟨hs1, L, h1, h2, h3, e2, .inl (Eq.symm e1)⟩
    ·exact h.elim
   ·exact h.elim
  ·exact h.elim
 ·rename_i p obs pf q hl t
  split at h
  ·rename_i v
   have hv : v = r := hs
   subst hv
   split at h
   ·rename_i hs1 h1
    split at h
    ·rename_i L h2
     split at h
     ·rename_i h3
      obtain ⟨e0, e1, e2⟩ := h
      exact ⟨hs1, L, h1, h2, h3, e2, .inr ⟨p, q, e0, hl, Eq.symm e1⟩⟩
     ·exact h.elim
    ·exact h.elim
   ·exact h.elim
  ·exact h.elim
 ·exact h.elim
def cv4 (hs : List HV) (rs : List Row) : List (Option Nat × Nat) → Option (List HV)
 | [] => some []
 | (i, j) :: l => (match i with | none => hs[j]? | some i => (rs[i]?).bind fun r => r.flat[j]?).bind fun g => (cv4 hs rs l).map fun gs => g :: gs
theorem bL2 {hs : List HV} {rs : List Row} : ∀ {l : List (Option Nat × Nat)} {gs : List HV}, cv4 hs rs l = some gs → ∀ g ∈ gs, g ∈ hs ∨ ∃ r ∈ rs, g ∈ r.flat
 | [], gs, h, g, hg => by
  simp only [cv4, oI] at h
  subst h; cases hg
 | (i, j) :: l, gs, h, g, hg => by
  simp only [cv4, oE, oM] at h
  obtain ⟨x, hx, gs', h1, rfl⟩ := h
  rcases mem_cons.1 hg with rfl | hg
  ·cases i with
   | none => exact .inl (mem_of_getElem? hx)
   | some i =>
    simp only [oE] at hx
    obtain ⟨r, hr, hx⟩ := hx
    exact .inr ⟨r, mem_of_getElem? hr, mem_of_getElem? hx⟩
  ·exact bL2 h1 g hg
def b31 : Nat → List HV → Bool
 | _, [] => true
 | k, g :: r => match aA2 (.tup [g]) with
  | some i => Nat.beq i k && b31 (k + 1) r
  | none => false
theorem bn0 : ∀ {gs : List HV} {i k : Nat} {g : HV}, b31 i gs = true → gs[k]? = some g → aA2 (.tup [g]) = some (i + k)
 | x :: r, i, 0, g, h, hk => by
  simp only [List.getElem?_cons_zero, oI] at hk
  subst hk
  unfold b31 at h
  split at h
  ·rename_i a ha
   rw [bA] at h
   rw [ha, Nat.eq_of_beq_eq_true h.1]; rfl
  ·cases h
 | x :: r, i, k + 1, g, h, hk => by
  unfold b31 at h
  split at h
  ·rw [bA] at h
   have := bn0 (k := k) h.2 (by simpa using hk)
   rw [this]; congr 1; omega
  ·cases h
def cj6 (hs gs : List HV) (rs : List Row) : Bool := (rs.all fun r => r.calm && r.ids.all (Nat.blt · rs.length)) && ((aC8 hs).all (Nat.blt · rs.length) && (Nat.beq gs.length rs.length && b31 0 gs))
def b34 [Mode] (P : Program) (fn : Func) {ρ : Type} (hs : List HV) (rs : List Row) (gp : List (Option Nat × Nat)) (sp : List Nat) (t : Tr P ρ) (H : ρ → HV) (RS : ρ → List (Nat × Row)) : Obl := match cv4 hs rs gp with
 | some gs => match cj6 hs gs rs with
  | true => ck P fn.ntmps (bf1 fn) (bK9 sp (b25 hs gs rs)) t (cv3 (co6 P fn) rs.length H RS)
  | false => .bad
 | none => .bad
theorem okM [Mode] {f : FuncId} {fn : Func} {ρ : Type} {hs : List HV} {rs : List Row} {H : ρ → HV} {RS : ρ → List (Nat × Row)} {r : ρ} (hy : Mode.y = false) (gp : List (Option Nat × Nat)) (sp : List Nat) (t : Tr P ρ) (hf : P.funcs[f]? = some fn) (hs1 : t.Sat (fun v => v = r))
  (hc : cd1 P fn = true) (hk : b34 P fn hs rs gp sp t H RS = (b34 P fn hs rs gp sp t H RS).R) : MutOK P f hs rs (H r) (RS r) := by
 unfold cd1 at hc
 simp only [bA, Bool.not_eq_true', beq_eq_false_iff_ne, ne_eq] at hc
 obtain ⟨c1, c2, c3, c4, c6⟩ := hc
 obtain ⟨c, hb⟩ := Option.isSome_iff_exists.1 c1
 obtain ⟨slots, hsl⟩ := Option.isSome_iff_exists.1 c2
 have e1 : bf1 fn = c := by unfold bf1; rw [hb]
 have e2 : co6 P fn = slots := by unfold co6; rw [hsl]
 have hok := Obl.ok _ hk
 unfold b34 at hok
 split at hok
 ·rename_i gs hg
  split at hok
  ·rename_i hm
   unfold cj6 at hm
   simp only [bA] at hm
   obtain ⟨m1, m2, m3, m4⟩ := hm
   rw [e1, e2] at hok
   refine bS3 hy hf hb c3 hsl (of_decide_eq_true c6) (gs := gs) (fun x hx => ?_) (fun id hid => ?_) (Nat.eq_of_beq_eq_true m3) (bL2 hg) (fun k g hk => ?_) fun w0 I0 hP a w hr => ?_
   ·have := all_eq_true.1 m1 x hx
    rw [bA] at this
    exact ⟨this.1, fun id hid => by have := all_eq_true.1 this.2 id hid; rwa [blt_eq] at this⟩
   ·have := all_eq_true.1 m2 id hid
    rwa [blt_eq] at this
   ·have := bn0 m4 hk
    rwa [zero_add] at this
   ·have := (bK8 (P := P) (N := fn.ntmps) (w0 := w0) (I0 := I0) (Q := fun e st => ∃ s1, Sub s1 st ∧ mutQ slots rs.length (H r) (RS r) e s1) hP c4 c hs1 hok fun e st' t' hs' h' => by
     cases e with
     | exit i => exact h'.elim
     | normal => obtain ⟨s1, t1, a1, a2, a3⟩ := aq4 hs' h'; exact ⟨s1, a1, a84 a2 a3⟩
     | ret => obtain ⟨s1, t1, a1, a2, a3⟩ := aq4 hs' h'; exact ⟨s1, a1, a84 a2 a3⟩).mono fun e st h => h
    exact this a w (a82 sp _ fn.ntmps w0 I0 a w hr)
  ·exact hok.elim
 ·exact hok.elim
def CtM [Mode] {ρ : Type} (P : Program) (f : FuncId) (hs : List HV) (rs : List Row) (H : ρ → HV) (RS : ρ → List (Nat × Row)) (o : Option ρ) : Prop := ∀ r, o = some r → MutOK P f hs rs (H r) (RS r)
theorem bB2 [Mode] {f : FuncId} {fn : Func} {ρ : Type} {hs : List HV} {rs : List Row} {H : ρ → HV} {RS : ρ → List (Nat × Row)} {o : Option ρ} (gp : List (Option Nat × Nat)) (sp : List Nat) (t : TE P o) (hf : P.funcs[f]? = some fn)
  (hy : Mode.y = false := by rfl) (hc : cd1 P fn = true := by kernel_rfl) (hk : b34 P fn hs rs gp sp t.t H RS = (b34 P fn hs rs gp sp t.t H RS).R := by kernel_rfl) : CtM P f hs rs H RS o :=
 fun r h => okM hy gp sp t.t hf (t.h r h) hc hk
end
def atL (ids : List Nat) (k : Nat) : Nat := ids.getD k 0
theorem MutOK.heap [Mode] {P : Program} {f : FuncId} {hs : List HV} {rs : List Row} {h : HV} {rs' : List (Nat × Row)} (hm : MutOK P f hs rs h rs') (ids : List Nat) (id0 : Nat) (hn : aL2 ids = true) (hl : ids.length = rs.length) :
  bv5 P f (aF9 (nm (atL ids) rs.length id0) hs) (ct2 (nm (atL ids) rs.length id0) 0 rs) id0 (h.ren (nm (atL ids) rs.length id0)) (bm9 (nm (atL ids) rs.length id0) rs.length rs') := by
 refine hm (atL ids) id0 fun i j hi hj e => ?_
 unfold nm at e
 rw [iP hi, iP hj] at e
 have h1 : ids[i]? = some (ids[i]'(by omega)) := gE (by omega)
 have h2 : ids[j]? = some (ids[j]'(by omega)) := gE (by omega)
 unfold atL at e
 simp only [List.getD_eq_getElem?_getD, h1, h2, getD_some] at e
 rw [← e] at h2
 exact aR5 (aw9 hn) h1 h2
end Go.Vm
