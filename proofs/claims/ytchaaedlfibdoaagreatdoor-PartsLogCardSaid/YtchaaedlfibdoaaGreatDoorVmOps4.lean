import Derived.Test.YtchaaedlfibdoaaGreatDoorVmOps3
open List (length_map map_set)
namespace Go.Vm
open Go.RowKit (Below)
section
variable {P : Program} {w0 : Base} {I0 : Prot} {row : ad1} {w : World} {I : Prot} {ρ : Nat → Option Loc} {id0 : Nat} {ev : Operand → Value} {get : Nat → Option HV} {h : HV} {upd : Upd}
variable [Mode] (hget : ∀ (x : Operand) (vx : VA) (h : HV), opdOf x = some vx → vx.get get = some h → RepH w I ρ h (ev x)) (hm : Mem w0 I0 row w I ρ) (hfree : ∀ k, id0 ≤ k → k < id0 + 4 → ρ k = none)
omit [Mode] in
theorem bJ0 {g n : Nat} {sh : Shape} {r : Row} {idx : Nat} {e : HV} (hr : RowRep w I ρ (.blk g n sh) r) (he : r.es[idx]? = some e) :
  e.fits sh = true ∧ ∃ us, RepHs w I ρ e.cells us ∧ ∀ j x, us[j]? = some x → w.cell? ⟨g, idx * sh.size + j, none⟩ = some x := by
 obtain ⟨hsh, hf, cur, t, vs, hg, hn, hvs, hp, _⟩ := hr.cells (bI6 he)
 refine ⟨hf e (List.mem_of_getElem? he), (vs.drop (idx * sh.size)).take sh.size, ?_, ?_⟩
 ·have h1 := (hvs.drop (idx * sh.size)).take sh.size
  rw [Row.flat, bb4 (Row.flat_length hf) he] at h1
  exact h1
 ·intro j x hx
  exact ao3 hp hg _ _ (drop_take_get hx)
include hget hm in
theorem bc2 {t : TypeId} {sh : Shape} {x : Operand} {vx : VA} (hsh : aa9 P t = some sh) (hx : opdOf x = some vx) (hs : aa5 (.load sh vx) id0 get row = some (h, upd)) :
  ∃ v, (Instr.loadAt t (ev x)).run P w = .ok v w ∧ RepH w I ρ h v := by
 have key : ∀ (g o : Nat) (us : List Value) (off : Nat), (∀ j x, us[j]? = some x → w.cell? ⟨g, o + j, none⟩ = some x) → off + sh.size ≤ us.length →
   (Instr.loadAt t (.pointer (some ⟨g, o + off, none⟩))).run P w = .ok (aw7 sh ((us.drop off).take sh.size)) w := by
  intro g o us off hc hle
  simp only [Instr.loadAt, Instr.sureAddr, rB, Sem.run_pure, aO]
  exact ah1 hsh (by simp; omega) fun j v hv => by rw [Nat.add_assoc]; exact hc _ _ (drop_take_get hv)
 simp only [aa5] at hs
 split at hs
 ·rename_i esh e off hsx
  simp only [oM, pJ] at hs
  obtain ⟨q, hq, rfl, rfl⟩ := hs
  obtain ⟨b, o, vs, hv, hI, hf, hvs, hc⟩ := (hget x vx _ hx hsx).rptr_inv
  have hvs' : RepHs w I ρ (HV.pv e).cells vs := by rw [HV.cells_pv]; exact hvs.toH rfl
  obtain ⟨h1, h2⟩ := RepHs.load (by rw [HV.fits_pv]; exact hf) hvs' (bX2 hq)
  rw [hv]
  exact ⟨_, key b o vs off hc h2, h1⟩
 ·rename_i id idx off hsx
  obtain ⟨g, n, sh', hρ, hv⟩ := (hget x vx _ hx hsx).optr_inv
  have hrow : ∀ (r : Row) (e : HV), row id = some r → r.es[idx]? = some e → e.fits sh' = true ∧ r.sh = sh' ∧ ∃ us, RepHs w I ρ e.cells us ∧ ∀ j x, us[j]? = some x → w.cell? ⟨g, idx * sh'.size + j, none⟩ = some x := by
   intro r e hr he
   obtain ⟨l, hl, hrr⟩ := hm.rows id r hr
   rw [hρ] at hl
   simp only [oI] at hl; subst hl
   obtain ⟨h1, h2⟩ := bJ0 hrr he
   exact ⟨h1, (hrr.cells (bI6 he)).1, h2⟩
  split at hs
  ·rename_i esh es _ hr
   simp only [oE, oM, pJ] at hs
   obtain ⟨e, he, q, hq, rfl, rfl⟩ := hs
   obtain ⟨hf, hsh', us, hus, hc⟩ := hrow _ (.pv e) hr (by simp [Row.es, he])
   have hsh'' : esh = sh' := hsh'
   subst hsh''
   obtain ⟨h1, h2⟩ := RepHs.load hf hus (bX2 hq)
   rw [hv]
   exact ⟨_, key g _ us off hc h2, h1⟩
  ·rename_i esh es hr
   simp only [oE, oM, pJ] at hs
   obtain ⟨e, he, q, hq, rfl, rfl⟩ := hs
   obtain ⟨hf, hsh', us, hus, hc⟩ := hrow _ e hr (by simp [Row.es, he])
   have hsh'' : esh = sh' := hsh'
   subst hsh''
   obtain ⟨h1, h2⟩ := RepHs.load hf hus hq
   rw [hv]
   exact ⟨_, key g _ us off hc h2, h1⟩
  ·cases hs
 ·cases hs
include hget hm in
theorem bY2 {t : TypeId} {sh : Shape} {x : Operand} {vx : VA} (hsh : aa9 P t = some sh) (hx : opdOf x = some vx) (hs : aa5 (.load sh vx) id0 get row = some (h, upd)) :
  Done P w0 I0 row w I ρ id0 (do pure (.value (← Instr.loadAt t (ev x)))) h upd := by
 have hupd : upd = [] := by
  simp only [aa5] at hs
  split at hs
  ·simp only [oM, pJ] at hs; obtain ⟨_, _, _, rfl⟩ := hs; rfl
  ·split at hs
   ·simp only [oE, oM, pJ] at hs; obtain ⟨_, _, _, _, _, rfl⟩ := hs; rfl
   ·simp only [oE, oM, pJ] at hs; obtain ⟨_, _, _, _, _, rfl⟩ := hs; rfl
   ·cases hs
  ·cases hs
 obtain ⟨v, h1, h2⟩ := bc2 hget hm hsh hx hs
 subst hupd
 exact Done.quiet hm (by rw [rB, h1]; rfl) h2
omit [Mode] in
theorem HV.whole {sh : Shape} {e h : HV} (he : e.fits sh = true) (hh : h.fits sh = true) : splice e.cells 0 h.cells = h.cells := by
 simp [splice, (HV.fits_cells he).1, (HV.fits_cells hh).1]
omit [Mode] in
theorem aX1 {sh esh : Shape} {e h : HV} {off : Nat} (he : e.fits esh = true) (hone : esh ≠ none) (hh : h.fits sh = true) (hle : off + sh.size ≤ e.cells.length) :
  (HV.agg (splice e.cells off h.cells)).fits esh = true ∧ splice e.cells off (HV.cells h) = (HV.agg (splice e.cells off h.cells)).cells := by
 obtain ⟨h1, h2⟩ := HV.fits_cells he
 obtain ⟨h3, h4⟩ := HV.fits_cells hh
 refine ⟨?_, rfl⟩
 cases esh with
 | none => exact absurd rfl hone
 | some n =>
  simp only [HV.fits, bA, beq_iff_eq, List.all_eq_true]
  exact ⟨by rw [ac4 (by rw [h3]; exact hle), h1]; rfl, bN9 h2 h4⟩
omit [Mode] in
theorem bC6 {α : Type} {f e xs : List α} {a s off : Nat} (h : f.drop a = e ++ f.drop (a + s)) (he : e.length = s) (hle : off + xs.length ≤ s) : splice f a (splice e off xs) = splice f (a + off) xs := by
 have h1 : (splice e off xs).length = s := by rw [ac4 (by omega), he]
 have h2 : f.take (a + off) = f.take a ++ e.take off := by rw [List.take_add, h, List.take_append_of_le_length (by omega)]
 have h3 : f.drop (a + off + xs.length) = e.drop (off + xs.length) ++ f.drop (a + s) := by rw [Nat.add_assoc, ← List.drop_drop, h, List.drop_append_of_le_length (by omega)]
 have h4 : splice f a (splice e off xs) = f.take a ++ splice e off xs ++ f.drop (a + s) := by rw [← h1]; rfl
 rw [h4]
 simp only [splice, h2, h3, List.append_assoc]
omit [Mode] in
theorem splice_prefix {α : Type} {f vs xs : List α} {o : Nat} (h : f.take vs.length = vs) (hle : o + xs.length ≤ vs.length) : (splice f o xs).take vs.length = splice vs o xs := by
 have h0 : f = vs ++ f.drop vs.length := by conv => lhs; rw [← List.take_append_drop vs.length f, h]
 have h1 : f.take o = vs.take o := by rw [h0, List.take_append_of_le_length (by omega)]
 have h2 : f.drop (o + xs.length) = vs.drop (o + xs.length) ++ f.drop vs.length := by
  conv => lhs; rw [h0]
  rw [List.drop_append_of_le_length (by omega)]
 have h3 : splice f o xs = splice vs o xs ++ f.drop vs.length := by simp only [splice, h1, h2, List.append_assoc]
 rw [h3, List.take_append_of_le_length (by rw [ac4 hle]; exact Nat.le_refl _), List.take_of_length_le (by rw [ac4 hle]; exact Nat.le_refl _)]
theorem aq2 {t : TypeId} {sh esh : Shape} {id idx off : Nat} {xv y : Value} {hv : HV} {r r' : Row} {e e' : HV} (hm : Mem w0 I0 row w I ρ) (hsh : aa9 P t = some sh)
  (hx : RepH w I ρ (.optr id idx off) xv) (hy : RepH w I ρ hv y) (hf : hv.fits sh = true) (hr : row id = some r) (he : r.es[idx]? = some e) (hrs : r.sh = esh) (hrs' : r'.sh = esh) (hes : r'.es = r.es.set idx e')
  (hle : off + sh.size ≤ esh.size) (he' : e'.fits esh = true) (hcells : e'.cells = splice e.cells off hv.cells) (hB : ∀ T e bs, r' ≠ .b T e bs := by intro T e bs h; cases h) (h00 : r.prot = 0 := by rfl)
  (hT : ∀ g n vs, ρ id = some (.blk g n esh) → vs.length = r.es.length * esh.size → Tails w I g r.tk r.sh r.pes vs → Tails w I g r'.tk r'.sh r'.pes (splice vs (idx * esh.size + off) y.cells.toList) := by exact fun _ _ _ _ _ _ => Tails.nil _ _ _ _ _ _) :
  Done P w0 I0 row w I ρ id0 (do Instr.storeAt t xv y; pure .skip) .undef [(id, some r')] := by
 obtain ⟨g, n, sh', hρ, rfl⟩ := hx.optr_inv
 obtain ⟨l, hl, hrr⟩ := hm.rows id r hr
 rw [hρ] at hl
 simp only [oI] at hl; subst hl
 have hMr' : r'.asM = none := bu3 fun hn => by
  rw [hes] at hn
  have := congrArg List.length hn
  rw [List.length_set] at this
  have h0 := (gS.1 he).1
  simp at this; simp [this] at h0
 obtain ⟨hsh', hfit, cur, ty, vs, hg, hn, hvs, hp, hT0⟩ := hrr.cells (bI6 he)
 obtain rfl : esh = sh' := by rw [← hrs]; exact hsh'
 have hfl := Row.flat_length hfit
 have hyl : y.cells.size = sh.size := by rw [← (HV.fits_cells hf).1, hy.cells.length]; simp
 have hone := hy.cells.oneCell (HV.fits_cells hf).2
 obtain ⟨hidx, _⟩ := gS.1 he
 have hvl : vs.length = r.es.length * esh.size := by rw [← hvs.length, Row.flat, flat_length hfl]
 have hpos : (idx + 1) * esh.size ≤ r.es.length * esh.size := Nat.mul_le_mul_right _ hidx
 have hpos' : idx * esh.size + esh.size = (idx + 1) * esh.size := by rw [Nat.add_mul]; omega
 have hvle : vs.length ≤ cur.size := by
  have := congrArg List.length hp
  simp at this; omega
 have hst := ak8 (P := P) hsh (o := idx * esh.size + off) hyl hg (by omega) hone
 have hflat : r'.flat = splice r.flat (idx * esh.size + off) hv.cells := by
  have hec := hfl e (List.mem_of_getElem? he)
  have hhc := (HV.fits_cells hf).1
  have h1 : r'.flat = splice r.flat (idx * esh.size) e'.cells := by
   rw [Row.flat, hes]
   exact bI5 hfl hidx (HV.fits_cells he').1
  have h2 := bb4 hfl he
  rw [h1, hcells]
  have h3 : r.flat.drop (idx * esh.size) = e.cells ++ r.flat.drop (idx * esh.size + esh.size) := by
   rw [← h2, ← List.drop_drop]
   exact (List.take_append_drop esh.size (List.drop (idx * esh.size) (List.flatMap HV.cells r.es))).symm
  exact bC6 h3 hec (by omega)
 obtain ⟨m1, m2⟩ := hm.setRow hr hρ (r := r') (cur' := (splice cur.toList (idx * esh.size + off) y.cells.toList).toArray) (vs := splice vs (idx * esh.size + off) y.cells.toList) hg
  (by rw [List.size_toArray, ac4 (by simp [hyl]; omega)]; simpa using hn) hrs' (fun x hx => by
   rw [hes] at hx
   rcases List.mem_or_eq_of_mem_set hx with hx | rfl
   ·exact hfit x hx
   ·exact he') (by rw [hflat]; exact hvs.splice hy.cells _)
  (by
   have hl2 : (splice vs (idx * esh.size + off) y.cells.toList).length = vs.length := ac4 (by simp [hyl]; omega)
   rw [hl2]
   exact splice_prefix hp (by simp [hyl]; omega)) hB h00 (hT g n vs hρ hvl hT0)
 refine ⟨.skip, undef, _, I, ρ, ?_, .inr ⟨rfl, rfl⟩, m1, .undef, ⟨m2.agree, m2.mono, m2.rho, fun k hk _ => hk⟩⟩
 simp [Instr.storeAt, Instr.sureAddr, hst]
omit [Mode] in
theorem aX2 (cs : List HV) : (mkAgg cs).cells = cs := by
 unfold mkAgg
 split
 ·rename_i ps h
  rw [HV.cells_pv]; exact (aC1 h).symm
 ·rfl
omit [Mode] in
theorem bl5 {cs : List HV} {esh : Shape} (h : (HV.agg cs).fits esh = true) : (mkAgg cs).fits esh = true := by
 unfold mkAgg
 split
 ·rename_i ps hp
  have := aC1 hp
  subst this
  cases esh with
  | none => cases h
  | some n =>
   simp only [HV.fits, PV.fits, length_map, List.all_map, bA, beq_iff_eq, List.all_eq_true] at h ⊢
   exact ⟨h.1, fun p hp => h.2 p hp⟩
 ·exact h
omit [Mode] in
theorem aQ7 {e : HV} {esh : Shape} (he : e.fits esh = true) (h : e.one = false) : esh ≠ none := by
 rintro rfl
 have : e.one = true := he
 rw [this] at h; cases h
include hget hm in
theorem bO6 {t : TypeId} {sh : Shape} {x y : Operand} {vx vy : VA} (hsh : aa9 P t = some sh) (hx : opdOf x = some vx) (hy : opdOf y = some vy) (hs : aa5 (.store sh vx vy) id0 get row = some (h, upd)) :
  Done P w0 I0 row w I ρ id0 (do Instr.storeAt t (ev x) (ev y); pure .skip) h upd := by
 simp only [aa5] at hs
 split at hs
 ·rename_i id idx off hv hgx hgy
  split at hs
  ·cases hs
  ·rename_i hf0
   have hf : hv.fits sh = true := by simpa using hf0
   clear hf0
   have hx' := hget x vx _ hx hgx
   have hy' := hget y vy _ hy hgy
   have hfits : ∀ r e, row id = some r → r.es[idx]? = some e → e.fits r.sh = true := by
    intro r e hr he
    obtain ⟨g, n, sh', hρ, _⟩ := hx'.optr_inv
    obtain ⟨l, hl, hrr⟩ := hm.rows id r hr
    rw [hρ] at hl
    simp only [oI] at hl; subst hl
    have hrr := hrr.cells (bI6 he)
    rw [hrr.1]; exact hrr.2.1 e (List.mem_of_getElem? he)
   split at hs
   ·rename_i esh es tk q hr
    simp only [oE] at hs
    obtain ⟨e, he, hs⟩ := hs
    have hes : (Row.p esh es tk).es[idx]? = some (.pv e) := by simp [Row.es, he]
    have hef : (HV.pv e).fits esh = true := hfits _ _ hr hes
    split at hs
    ·rename_i hc
     obtain ⟨rfl, rfl⟩ := hc
     simp only [oI, pJ] at hs
     obtain ⟨rfl, rfl⟩ := hs
     exact aq2 (e := .pv e) (e' := .pv q) hm hsh hx' hy' hf hr hes rfl rfl (by simp [Row.es, map_set]) (by simp only [Row.sh]; omega) hf (HV.whole hef hf).symm
    ·split at hs
     ·rename_i hc
      simp only [oI, pJ] at hs
      obtain ⟨rfl, rfl⟩ := hs
      have hlen := (HV.fits_cells hef).1
      rw [HV.cells_pv, length_map] at hlen
      have hsp : splice (HV.pv e).cells off (HV.pv q).cells = (splice e.cells off q.cells).map .pv := by simp [HV.cells_pv, splice, List.map_take, List.map_drop]
      obtain ⟨f1, f2⟩ := aX1 (e := .pv e) hef (aQ7 hef hc.2) hf (by rw [HV.cells_pv, length_map]; exact hc.1)
      have f3 : (HV.pv (.agg (splice e.cells off q.cells))).fits esh = true := by
       rw [hsp] at f1
       cases esh with
       | none => exact absurd rfl (aQ7 hef hc.2)
       | some n => simpa [HV.fits, PV.fits, HV.one] using f1
      exact aq2 (e := .pv e) (e' := .pv (.agg (splice e.cells off q.cells))) hm hsh hx' hy' hf hr hes rfl rfl (by simp [Row.es, map_set]) (by simp only [Row.sh]; omega) f3 hsp.symm
     ·cases hs
   ·rename_i hv _ _ esh e tk hr hne
    split at hs
    ·rename_i hi
     subst hi
     have hes : (Row.p esh [e] tk).es[0]? = some (.pv e) := rfl
     have hef : (HV.pv e).fits esh = true := hfits _ _ hr hes
     split at hs
     ·rename_i hc
      obtain ⟨rfl, rfl⟩ := hc
      simp only [oI, pJ] at hs
      obtain ⟨rfl, rfl⟩ := hs
      exact aq2 (e := .pv e) (e' := hv) hm hsh hx' hy' hf hr hes rfl rfl (by simp [Row.es]) (by simp only [Row.sh]; omega) hf (HV.whole hef hf).symm
     ·split at hs
      ·rename_i hc
       simp only [oI, pJ] at hs
       obtain ⟨rfl, rfl⟩ := hs
       have hlen := (HV.fits_cells hef).1
       rw [HV.cells_pv, length_map] at hlen
       obtain ⟨f1, f2⟩ := aX1 (e := .pv e) hef (aQ7 hef hc.2) hf (by rw [HV.cells_pv, length_map]; exact hc.1)
       rw [HV.cells_pv] at f1 f2
       exact aq2 (e := .pv e) (e' := .agg (splice (e.cells.map .pv) off hv.cells)) hm hsh hx' hy' hf hr hes rfl rfl (by simp [Row.es]) (by simp only [Row.sh]; omega) f1 (by rw [HV.cells_pv]; exact f2.symm)
      ·cases hs
    ·cases hs
   ·rename_i hv _ _ esh es hr
    simp only [oE] at hs
    obtain ⟨e, he, hs⟩ := hs
    have hes : (Row.h esh es).es[idx]? = some e := by simp [Row.es, he]
    have hef : e.fits esh = true := hfits _ _ hr hes
    split at hs
    ·rename_i hc
     obtain ⟨rfl, rfl⟩ := hc
     simp only [oI, pJ] at hs
     obtain ⟨rfl, rfl⟩ := hs
     exact aq2 (e := e) (e' := hv) hm hsh hx' hy' hf hr hes rfl (aQ6 _ _) (by rw [aK9]; rfl) (by simp only [Row.sh]; omega) hf (HV.whole hef hf).symm (hB := aZ4 _ _) (hT := fun _ _ _ _ _ _ => by rw [aZ5]; exact Tails.nil _ _ _ _ _ _)
    ·split at hs
     ·rename_i hc
      simp only [oI, pJ] at hs
      obtain ⟨rfl, rfl⟩ := hs
      have hlen := (HV.fits_cells hef).1
      obtain ⟨f1, f2⟩ := aX1 hef (aQ7 hef hc.2) hf hc.1
      have f3 := aX2 (splice e.cells off hv.cells)
      exact aq2 (e := e) (e' := mkAgg (splice e.cells off hv.cells)) hm hsh hx' hy' hf hr hes rfl (aQ6 _ _) (by rw [aK9]; rfl) (by simp only [Row.sh]; omega) (bl5 f1) (f3.trans f2.symm) (hB := aZ4 _ _) (hT := fun _ _ _ _ _ _ => by rw [aZ5]; exact Tails.nil _ _ _ _ _ _)
     ·cases hs
   ·cases hs
 ·cases hs
end
end Go.Vm
