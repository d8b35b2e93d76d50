import Derived.Test.YtchaaedlfibdoaaGreatDoorVmCall
open List (flatMap_map mapM_cons map_append map_drop map_flatMap map_take mem_map)
open Nat (add_mul le_refl zero_add zero_mul)
open Option (bind_eq_bind pure_def)
namespace Go.Vm
open Go.RowKit (Below)
section
variable {P : Program} {w0 : Base} {I0 : Prot} {row : ad1} {w : World} {I : Prot} {ρ : Nat → Option Loc} {id0 : Nat} {ev : Operand → Value} {get : Nat → Option HV} {h : HV} {upd : Upd}
theorem Mem.dropTk [Mode] (h : Mem w0 I0 row w I ρ) {id : Nat} {sh : Shape} {es : List PV} {tk tk' : List (Nat × Option Nat)} (h0 : row id = some (.p sh es tk))
  (ht : ∀ c m', (c, m') ∈ tk' → ∀ j, j < es.length → (∀ k, m' = some k → j < k) → ∃ m, (c, m) ∈ tk ∧ ∀ k, m = some k → j < k) : Mem w0 I0 (ae8 row [(id, some (.p sh es tk'))]) w I ρ := by
 have hlive : ∀ k x, ae8 row [(id, some (.p sh es tk'))] k = some x → (k = id ∧ x = .p sh es tk') ∨ (k ≠ id ∧ row k = some x) := by
  intro k x hx
  unfold ae8 look at hx
  by_cases hk : id = k
  ·simp [hk] at hx; exact .inl ⟨hk.symm, hx.symm⟩
  ·simp [hk, look] at hx; exact .inr ⟨Ne.symm hk, hx⟩
 have hold : ∀ k x, ae8 row [(id, some (.p sh es tk'))] k = some x → ∃ y, row k = some y ∧ y.prot = x.prot := by
  intro k x hx
  rcases hlive k x hx with ⟨rfl, rfl⟩ | ⟨_, hx⟩
  ·exact ⟨_, h0, rfl⟩
  ·exact ⟨_, hx, rfl⟩
 refine { bel := h.bel, agr := h.agr, i0 := h.i0, lt := h.lt, new := h.new, tyF := h.tyF, nn := ?_, rows := ?_, own := ?_, inj := ?_, tyI := h.tyI, tyR := ?_, bld := ?_, one := ?_, glob := h.glob, tab := h.tab }
 ·intro b g hb
  obtain ⟨n1, n2, n3, n4⟩ := h.nn b g hb
  refine ⟨n1, n2, n3, fun k x n sh hx hk => ?_⟩
  obtain ⟨y, hy, _⟩ := hold k x hx
  exact n4 k y n sh hy hk
 ·intro k x hx
  rcases hlive k x hx with ⟨rfl, rfl⟩ | ⟨_, hx⟩
  ·obtain ⟨l, h1, h2⟩ := h.rows k _ h0
   refine ⟨l, h1, ?_⟩
   cases l with
   | nil => exact h2
   | blk g n sh' =>
    obtain ⟨q1, q2, cur, t, vs, q3, q4, q5, q6, q7⟩ := h2
    refine ⟨q1, q2, cur, t, vs, q3, q4, q5, q6, fun c m' hc j e he hm => ?_⟩
    obtain ⟨m, h3, h4⟩ := ht c m' hc j (gS.1 he).1 hm
    exact q7 c m h3 j e he h4
  ·exact h.rows k x hx
 ·intro k x g n sh' hx hk
  obtain ⟨y, hy, hp⟩ := hold k x hx
  rw [← hp]
  exact h.own k y g n sh' hy hk
 ·intro k k' x x' g n n' sh1 sh2 hx hx' hk hk'
  obtain ⟨y, hy, _⟩ := hold k x hx
  obtain ⟨y', hy', _⟩ := hold k' x' hx'
  exact h.inj k k' y y' g n n' sh1 sh2 hy hy' hk hk'
 ·intro k x g n sh' hx hk
  obtain ⟨y, hy, _⟩ := hold k x hx
  exact h.tyR k y g n sh' hy hk
 ·intro k T e bs hx
  rcases hlive k _ hx with ⟨_, e1⟩ | ⟨_, hx⟩
  ·cases e1
  ·exact h.bld k T e bs hx
 ·intro k k' T e bs T' e' bs' hx hx'
  rcases hlive k _ hx with ⟨_, e1⟩ | ⟨_, hx⟩
  ·cases e1
  ·rcases hlive k' _ hx' with ⟨_, e1⟩ | ⟨_, hx'⟩
   ·cases e1
   ·exact h.one k k' T e bs T' e' bs' hx hx'
theorem Mem.takeRoom [Mode] (h : Mem w0 I0 row w I ρ) {id g : Nat} (hid : ρ id = none) {b : Nat} (hb : I.n b = some g) (hg : ∀ k x n sh, row k = some x → ρ k = some (.blk g n sh) → x.tk = [])
  {sh : Shape} {es : List PV} {cur : Array Value} {t : TypeId} {vs : List Value} (hh : w.heap[b]? = some (.cells cur t (0, 0))) (hf : ∀ e ∈ es, e.fits sh = true) (hr : RepPs w I (es.flatMap PV.cells) vs []) (hp : cur.toList.take vs.length = vs)
  (hfree : ∀ o, es.length * sh.size ≤ o → ¬ I b o) : Mem w0 I0 (ae8 row [(id, some (.room sh es))]) w ⟨I.c, fun k => if k = b then none else I.n k⟩ (put ρ id (.blk b cur.size sh)) ∧
   Grow w I ρ w ⟨I.c, fun k => if k = b then none else I.n k⟩ (put ρ id (.blk b cur.size sh)) (fun k => k = id) := by
 have hmono := aS8 (l := .blk b cur.size sh) hid
 obtain ⟨b1, b2, b3, b4⟩ := h.nn b g hb
 have hlive : ∀ k x, ae8 row [(id, some (.room sh es))] k = some x → (k = id ∧ x = .room sh es) ∨ (k ≠ id ∧ row k = some x) := by
  intro k x hx
  unfold ae8 look at hx
  by_cases hk : id = k
  ·simp [hk] at hx; exact .inl ⟨hk.symm, hx.symm⟩
  ·simp [hk, look] at hx; exact .inr ⟨Ne.symm hk, hx⟩
 refine ⟨{ bel := h.bel, agr := h.agr, i0 := h.i0, lt := h.lt, new := h.new, tyF := h.tyF, nn := ?_, rows := ?_, own := ?_, inj := ?_, tyI := h.tyI, tyR := ?_, bld := ?_, one := ?_, glob := h.glob, tab := h.tab },
  ⟨fun _ _ _ => rfl, fun _ _ h => h, hmono, fun k hk hne => by simp [put, hne, hk]⟩⟩
 ·intro t' k hk
  by_cases htb : t' = b
  ·simp [htb] at hk
  ·simp only [htb, if_false] at hk
   obtain ⟨n1, n2, n3, n4⟩ := h.nn t' k hk
   refine ⟨n1, n2, n3, fun k' x n sh' hx hk' => ?_⟩
   rcases hlive k' x hx with ⟨rfl, rfl⟩ | ⟨hne, hx⟩
   ·simp [put] at hk'; exact htb hk'.1.symm
   ·exact n4 k' x n sh' hx (by simpa [put, hne] using hk')
 ·intro k x hx
  rcases hlive k x hx with ⟨rfl, rfl⟩ | ⟨hk, hx⟩
  ·refine ⟨.blk b cur.size sh, by simp [put], rfl, ?_, cur, t, vs, hh, rfl, ?_, hp, Tails.nil _ _ _ _ _ _⟩
   ·intro e he
    simp only [Row.es, mem_map] at he
    obtain ⟨q, hq, rfl⟩ := he
    rw [HV.fits_pv]; exact hf q hq
   ·have h1 := (hr.mono (w' := w) (I' := ⟨I.c, fun k => if k = b then none else I.n k⟩) (fun _ _ _ => rfl) (by intro _ _ h; exact h) (by simp)).toH (ρ := put ρ k (.blk b cur.size sh)) rfl
    simpa [Row.flat, Row.es, flatMap_map, HV.cells_pv, map_flatMap] using h1
  ·obtain ⟨l, h1, h2⟩ := h.rows k x hx
   refine ⟨l, hmono k l h1, h2.mono (fun _ _ _ => rfl) (by intro _ _ h; exact h) hmono fun g' n sh' hl => ⟨rfl, fun htk t' ht' => ?_⟩⟩
   subst hl
   have htb : t' ≠ b := by
    rintro rfl
    rw [hb] at ht'; cases ht'
    exact htk (hg k x n sh' hx h1)
   exact ⟨by simp only [htb, if_false]; exact ht', rfl, fun _ h => h⟩
 ·intro k x g' n sh' hx hk
  rcases hlive k x hx with ⟨rfl, rfl⟩ | ⟨hne, hx⟩
  ·simp [put] at hk
   obtain ⟨rfl, _, _⟩ := hk
   exact ⟨b1, b2, fun o ho => hfree o ho⟩
  ·exact h.own k x g' n sh' hx (by simpa [put, hne] using hk)
 ·intro k k' x x' g' n n' sh1 sh2 hx hx' hk hk'
  rcases hlive k x hx with ⟨rfl, rfl⟩ | ⟨hne, hx⟩ <;> rcases hlive k' x' hx' with ⟨rfl, rfl⟩ | ⟨hne', hx'⟩
  ·rfl
  ·simp [put] at hk
   obtain ⟨rfl, _, _⟩ := hk
   exact (b4 k' x' n' sh2 hx' (by simpa [put, hne'] using hk')).elim
  ·simp [put] at hk'
   obtain ⟨rfl, _, _⟩ := hk'
   exact (b4 k x n sh1 (by assumption) (by simpa [put, hne] using hk)).elim
  ·exact h.inj k k' x x' g' n n' sh1 sh2 hx hx' (by simpa [put, hne] using hk) (by simpa [put, hne'] using hk')
 ·intro k x g' n sh' hx hk
  rcases hlive k x hx with ⟨rfl, rfl⟩ | ⟨hne, hx⟩
  ·simp [put] at hk
   obtain ⟨rfl, _, _⟩ := hk
   exact fun _ => b3
  ·exact h.tyR k x g' n sh' hx (by simpa [put, hne] using hk)
 ·intro k T e bs hx
  rcases hlive k _ hx with ⟨_, e1⟩ | ⟨hne, hx⟩
  ·cases e1
  ·obtain ⟨g', n, sh', q1, q2, q3⟩ := h.bld k T e bs hx
   exact ⟨g', n, sh', hmono _ _ q1, q2, q3⟩
 ·intro k k' T e bs T' e' bs' hx hx'
  rcases hlive k _ hx with ⟨_, e1⟩ | ⟨_, hx⟩
  ·cases e1
  ·rcases hlive k' _ hx' with ⟨_, e1⟩ | ⟨_, hx'⟩
   ·cases e1
   ·exact h.one k k' T e bs T' e' bs' hx hx'
theorem bJ4 (row : ad1) (a b : Nat) (x y : Option Row) : ae8 (ae8 row [(b, y)]) [(a, x)] = ae8 row [(a, x), (b, y)] := by
 funext k
 unfold ae8
 by_cases h1 : a = k
 ·simp [look, h1]
 ·by_cases h2 : b = k
  ·simp [look, h1, h2]
  ·simp [look, h1, h2]
variable [Mode] (hget : ∀ (x : Operand) (vx : VA) (h : HV), opdOf x = some vx → vx.get get = some h → RepH w I ρ h (ev x)) (hm : Mem w0 I0 row w I ρ) (hfree : ∀ k, id0 ≤ k → k < id0 + 4 → ρ k = none)
include hget hm hfree
theorem bq1 {t : TypeId} {x : Operand} {vx : VA} (hsh : aa9 P t = some none) (hx : opdOf x = some vx) (hs : bp0 vx id0 get row h upd) :
  Done P w0 I0 row w I ρ id0 (do pure (.value (← Instr.loadAt t (ev x)))) h upd := by
 obtain ⟨id, idx, off, esh, es, tk, e, sh, es', hsx, hrow, he, hc, htk, hpos, rfl, rfl⟩ := hs
 obtain ⟨g, n, sh2, hρ, hv⟩ := (hget x vx _ hx hsx).optr_inv
 obtain ⟨l, hl, hrr⟩ := hm.rows id _ hrow
 rw [hρ] at hl
 simp only [oI] at hl; subst hl
 have hrr0 := hrr
 obtain ⟨hsh2, hf, cur, ty, vs, hg, hn, hvs, hp, hT⟩ := hrr
 obtain rfl : esh = sh2 := hsh2
 obtain ⟨m, htm, hidx⟩ := htk
 obtain ⟨p, v, hp1, hv1, htail⟩ := hT off m htm idx e he hidx
 rw [hc] at hp1
 cases hp1
 have hv1 : vs[idx * esh.size + off]? = some v := hv1
 have hcell := ao3 hp hg _ _ hv1
 have hrun : (Instr.loadAt t (ev x)).run P w = .ok v w := by
  rw [hv]
  simp only [Instr.loadAt, Instr.sureAddr, rB, Sem.run_pure, aO]
  exact ah1 hsh (us := [v]) rfl fun j u hu => by
   cases j with
   | zero => simp at hu; subst hu; exact hcell
   | succ j => simp at hu
 have hfl : Row.flat (.p esh es tk) = (es.flatMap PV.cells).map .pv := by simp [Row.flat, Row.es, flatMap_map, HV.cells_pv, map_flatMap]
 have hfp : ∀ e ∈ es, e.fits esh = true := fun e he => by rw [← HV.fits_pv]; exact hf (.pv e) (by simp [Row.es, he])
 have hvs' : RepPs w I (es.flatMap PV.cells) vs [] := by rw [hfl] at hvs; exact hvs.toP
 have h0 : ∀ e ∈ es, e.cells.length = esh.size := fun e he => (PV.fits_cells (hfp e he)).1
 have hat : (es.flatMap PV.cells)[idx * esh.size + off]? = some (.sl sh es') := by
  have h1 := bb4 h0 he
  have h2 : off < esh.size := by rw [← h0 e (List.mem_of_getElem? he)]; exact (gS.1 hc).1
  rw [← h1, List.getElem?_take_of_lt h2, List.getElem?_drop] at hc
  exact hc
 obtain ⟨v2, hv2, hrep⟩ := hvs'.get rfl _ _ hat
 rw [hv1] at hv2
 cases hv2
 have m1 := hm.dropTk (tk' := []) hrow (by intro c m' h; cases h)
 have hid0 := hfree id0 (le_refl _) (by omega)
 have hne : id0 ≠ id := by rintro rfl; rw [hρ] at hid0; cases hid0
 rcases htail with rfl | ⟨sh', es2, heq, b, cap, cur2, t2, rfl, hb, hhb, hsz, hfr⟩
 ·have hes : es' = [] := by
   generalize hF : ([] : List Nat) = F at hrep
   cases hrep with
   | slNil => rfl
  subst hes
  obtain ⟨m2, g2⟩ := m1.allocNil hid0 (r := .room sh []) rfl
  rw [bJ4 row] at m2
  exact ⟨_, _, w, I, _, by rw [rB, hrun]; rfl, .inl rfl, m2, .oslNil (by simp [put]), ⟨g2.agree, g2.mono, g2.rho, fun k hk hn => g2.dom k hk fun e => hn (by subst e; omega)⟩⟩
 ·cases heq
  have hread : ∃ us, (∀ e ∈ es', e.fits sh = true) ∧ es'.length ≤ cap ∧ RepPs w I (es'.flatMap PV.cells) us [] ∧ ∀ i u, us[i]? = some u → w.cell? ⟨b, i, none⟩ = some u := by
   have h1 := (RepH.pv (ρ := ρ) hrep).sl_inv
   obtain ⟨a, cap', q1, q2, q3, q4, q5⟩ := h1
   cases q1
   rcases q5 _ rfl with rfl | ⟨b', o', us, q6, _, q7, q8⟩
   ·exact ⟨[], by simp, by simp, .nil, by simp⟩
   ·cases q6
    exact ⟨us, q3, q2, q7, fun i u hu => by have := q8 i u hu; rwa [zero_add] at this⟩
  obtain ⟨us, q1, q2, q3, q4⟩ := hread
  have hul : us.length = es'.length * sh.size := by rw [← q3.length, flat_length (fun e he => (PV.fits_cells (q1 e he)).1)]
  have hpre : cur2.toList.take us.length = us := by
   apply List.ext_getElem?
   intro i
   rw [List.getElem?_take]
   by_cases hi : i < us.length
   ·rw [iP hi]
    have h1 := q4 i us[i] (gE hi)
    rw [cell_of_row w b i cur2 t2 (0, 0) hhb] at h1
    rw [gE hi, ← h1]
    simp
   ·rw [iN hi, List.getElem?_eq_none (by omega)]
  obtain ⟨m2, g2⟩ := m1.takeRoom (id := id0) hid0 hb (fun k y n' s' hy hk => by
    by_cases hki : k = id
    ·subst hki
     simp [ae8, look] at hy
     subst hy; rfl
    ·have hy' : row k = some y := by unfold ae8 at hy; simpa [look, Ne.symm hki] using hy
     exact absurd (hm.inj k id y _ g n' n s' esh hy' hrow hk hρ) hki) (sh := sh) hhb q1 q3 hpre hfr
  rw [bJ4 row] at m2
  refine ⟨_, _, w, _, _, by rw [rB, hrun]; rfl, .inl rfl, m2, ?_, ⟨g2.agree, g2.mono, g2.rho, fun k hk hn => g2.dom k hk fun e => hn (by subst e; omega)⟩⟩
  have := RepH.osl (w := w) (I := ⟨I.c, fun k => if k = b then none else I.n k⟩) (ρ := put ρ id0 (.blk b cur2.size sh)) (id := id0) (off := 0) (len := es'.length) (cap := cap) (g := b) (n := cur2.size) (sh := sh) (by simp [put]) (by rw [hsz]; simp) q2
  simpa using this
omit hget hm hfree in
theorem aR1 (hyo : Mode.y = false) (g : Nat) : ∀ {cs : List HV} {vs : List Value} {qs : List PV} {row : ad1} {I : Prot}, Mem w0 I0 row w I ρ → RepHs w I ρ cs vs → cs.mapM (am5 row) = some qs → (cs.flatMap ax5).Nodup →
  ∃ I', Mem w0 I0 (ae8 row (af2 (cs.flatMap ax5))) w I' ρ ∧ RepPs w I' qs vs [] ∧ (∀ b o, I b o → I' b o) ∧ (∀ k, NK w w I I' k) ∧
   ∀ (k : Nat) (c : HV), cs[k]? = some c → bb2 c = true → ∃ q v, qs[k]? = some q ∧ vs[k]? = some v ∧ TailAt w I' g q v
 | [], vs, qs, row, I, hm, hr, hq, _ => by
  cases hr
  simp at hq; subst hq
  exact ⟨I, by simpa [af2, a95] using hm, .nil, fun _ _ h => h, fun k => NK.refl _ _ _, by simp⟩
 | c :: cs, vs, qs, row, I, hm, hr, hq, hn => by
  simp only [mapM_cons, bind_eq_bind, pure_def, oE] at hq
  obtain ⟨q, hq1, qs', hq2, hq⟩ := hq
  simp only [oI] at hq; subst hq
  cases hr with
  | @cons _ v _ vs r1 r2 =>
  have step : ∃ I1, Mem w0 I0 (ae8 row (af2 (ax5 c))) w I1 ρ ∧ RepP w I1 q v [] ∧ (∀ b o, I b o → I1 b o) ∧ (∀ k, NK w w I I1 k) ∧ (bb2 c = true → TailAt w I1 g q v) := by
   unfold am5 at hq1
   split at hq1
   ·cases hq1
    cases r1 with
    | pv r1 => exact ⟨I, by simpa [ax5, af2, a95] using hm, bb7 r1, fun _ _ h => h, fun k => NK.refl _ _ _, fun h => by cases h⟩
   ·rename_i id len
    split at hq1
    ·rename_i sh es tk hrow
     split at hq1
     ·rename_i hc
      obtain ⟨rfl, hpos⟩ := hc
      cases hq1
      obtain ⟨l, hl, hrr⟩ := hm.rows id _ hrow
      rcases r1.osl_inv with ⟨b, n, sh', cap, o, hρ, hv, hcap, ho⟩ | ⟨hρ, _, hl0, hv⟩
      ·rw [hρ] at hl
       simp only [oI] at hl; subst hl
       obtain ⟨hsh, hf, cur, ty, us, hg, hn', hus, hp, _⟩ := hrr
       obtain rfl : sh = sh' := hsh
       rcases ho with ⟨rfl, hn2⟩ | ⟨_, _, hne⟩
       case inr => exact absurd rfl hne
       simp only [zero_mul, zero_add] at hv hn2
       obtain ⟨m1, g1⟩ := hm.freezeAt hrow hρ hg (Kept.refl _ _) hg (fun _ _ => rfl) (fun o => o < es.length * sh.size) (some g) (fun _ => hyo)
       have hfp : ∀ e ∈ es, e.fits sh = true := fun e he => by rw [← HV.fits_pv]; exact hf (.pv e) (by simp [Row.es, he])
       have hfl : Row.flat (.p sh es tk) = (es.flatMap PV.cells).map .pv := by simp [Row.flat, Row.es, flatMap_map, HV.cells_pv, map_flatMap]
       have hus' : RepPs w I (es.flatMap PV.cells) us [] := by rw [hfl] at hus; exact hus.toP
       have hul : us.length = es.length * sh.size := by rw [← hus'.length, flat_length (fun e he => (PV.fits_cells (hfp e he)).1)]
       have hnb : ∀ t k, I.n t = some k → t ≠ b := fun t k ht e => (hm.nn t k ht).2.2.2 id _ n sh hrow (e ▸ hρ)
       refine ⟨_, m1, ?_, g1.mono, ?_, fun _ => .inr ⟨sh, es, rfl, b, cap, cur, ty, hv, by simp, hg, by rw [hn', ← hn2], ?_⟩⟩
       ·rw [hv]
        exact .sl (b := b) (o := 0) (vs := us) (fun i hi => Or.inr ⟨rfl, by rw [zero_add]; omega⟩) hfp hcap (hus'.mono g1.agree g1.mono (by simp)) fun i u hu => by rw [zero_add]; exact ao3 hp hg i u hu
       ·intro k t ht
        have htb := hnb t k ht
        refine ⟨by simp only [htb, if_false]; exact ht, rfl, ?_⟩
        rintro o (ho | ⟨ho, _⟩)
        ·exact ho
        ·exact (htb ho).elim
       ·rintro o ho (hh | ⟨_, hh⟩)
        ·exact (hm.own id _ b n sh hrow hρ).2.2 o (Nat.zero_le _) hh
        ·omega
      ·have hes : es = [] := List.eq_nil_of_length_eq_zero hl0
       subst hes
       refine ⟨I, hm.sub fun k r hk => ?_, by rw [hv]; exact .slNil sh, fun _ _ h => h, fun k => NK.refl _ _ _, fun _ => .inl hv⟩
       unfold ae8 at hk
       simp only [ax5, af2, List.map_cons, List.map_nil, look] at hk
       by_cases h1 : id = k
       ·simp [h1] at hk
       ·simpa [h1] using hk
     ·cases hq1
    ·cases hq1
   ·cases hq1
  obtain ⟨I1, m1, p1, i1, k1, t1⟩ := step
  simp only [List.flatMap_cons] at hn ⊢
  obtain ⟨n1, n2, n3⟩ := List.nodup_append.1 hn
  have hrow' : ∀ c' ∈ cs, am5 (ae8 row (af2 (ax5 c))) c' = am5 row c' := fun c' hc' => soleCell_eq fun id hid => by
   unfold ae8
   rw [at0, iN (fun hm' => n3 id hm' id (List.mem_flatMap.2 ⟨c', hc', hid⟩) rfl)]
  have hq2' : cs.mapM (am5 (ae8 row (af2 (ax5 c)))) = some qs' := by rw [← hq2]; exact mapM_eq hrow'
  obtain ⟨I2, m2, p2, i2, k2, t2⟩ := aR1 hyo g m1 (r2.mono (fun _ _ _ => rfl) i1 (fun _ _ h => h)) hq2' n2
  refine ⟨I2, ?_, .cons (F := []) (G := []) (p1.mono (fun _ _ _ => rfl) i2 (by simp)) p2, fun b o hb => i2 b o (i1 b o hb), fun k t ht => ?_, ?_⟩
  ·rw [show ae8 row (af2 (ax5 c ++ cs.flatMap ax5)) = ae8 (ae8 row (af2 (ax5 c))) (af2 (cs.flatMap ax5)) from ?_]
   ·exact m2
   ·funext k
    unfold ae8
    rw [at0, at0, at0]
    by_cases h1 : k ∈ ax5 c <;> by_cases h2 : k ∈ cs.flatMap ax5 <;> simp [h1, h2]
  ·obtain ⟨a1, _, a3⟩ := k1 k t ht
   obtain ⟨b1, _, b3⟩ := k2 k t a1
   exact ⟨b1, rfl, fun o ho => a3 o (b3 o ho)⟩
  ·intro k c' hc' ho
   cases k with
   | zero =>
    simp at hc'; subst hc'
    exact ⟨q, v, rfl, rfl, (t1 ho).mono (k2 g)⟩
   | succ k =>
    obtain ⟨q', v', h1, h2, h3⟩ := t2 k c' (by simpa using hc') ho
    exact ⟨q', v', by simpa using h1, by simpa using h2, h3⟩
where
 soleCell_eq {row row' : ad1} {h : HV} (hr : ∀ id ∈ ax5 h, row id = row' id) : am5 row h = am5 row' h := by
  cases h with
  | osl id off len =>
   cases off with
   | zero => simp only [am5]; rw [hr id (by simp [ax5])]
   | succ n => rfl
  | _ => rfl
 mapM_eq {α β : Type} {f f' : α → Option β} : ∀ {l : List α}, (∀ a ∈ l, f a = f' a) → l.mapM f = l.mapM f'
  | [], _ => rfl
  | a :: l, h => by simp only [mapM_cons]; rw [h a (by simp), mapM_eq fun b hb => h b (by simp [hb])]
omit hget hm hfree in
omit [Mode] in
theorem bP9 {sh : Shape} {qs : List PV} (hl : qs.length = sh.size) (ho : ∀ q ∈ qs, q.one = true) : (b91 sh qs).cells = qs ∧ (b91 sh qs).fits sh = true := by
 cases sh with
 | none =>
  match qs, hl, ho with
  | [q], _, ho =>
   have h1 : q.one = true := ho q (by simp)
   refine ⟨?_, h1⟩
   show q.cells = [q]
   cases q <;> first | rfl | (simp [PV.one] at h1)
 | some n =>
  refine ⟨rfl, ?_⟩
  simp only [b91, PV.fits, bA, beq_iff_eq, List.all_eq_true]
  exact ⟨hl, ho⟩
omit hget hm hfree in
omit [Mode] in
theorem bv3 {α : Type} {cs xs : List α} {off k : Nat} (h : off + xs.length ≤ cs.length) (h1 : off ≤ k) (h2 : k < off + xs.length) : (splice cs off xs)[k]? = xs[k - off]? := by
 unfold splice
 rw [List.append_assoc, List.getElem?_append_right (by simp; omega), List.getElem?_append_left (by simp; omega)]
 congr 1
 simp; omega
omit hget hm hfree in
omit [Mode] in
theorem a47 {α : Type} {cs xs : List α} {off k : Nat} (h : off + xs.length ≤ cs.length) (h1 : k < off ∨ off + xs.length ≤ k) : (splice cs off xs)[k]? = cs[k]? := by
 unfold splice
 rcases h1 with h1 | h1
 ·rw [List.append_assoc, List.getElem?_append_left (by simp; omega), List.getElem?_take_of_lt h1]
 ·rw [List.getElem?_append_right (by simp; omega), List.getElem?_drop]
  congr 1
  simp; omega
omit hfree in
theorem bD9 (hyo : Mode.y = false) {t : TypeId} {sh : Shape} {x y : Operand} {vx vy : VA} (hsh : aa9 P t = some sh) (hx : opdOf x = some vx) (hy : opdOf y = some vy) (hs : b97 sh vx vy get row h upd) :
  Done P w0 I0 row w I ρ id0 (do Instr.storeAt t (ev x) (ev y); pure .skip) h upd := by
 obtain ⟨id, idx, off, esh, es, tk, tk', e, hv, qs, hsx, hsy, hf, hrow, he, hqs, hnd, hnid, hcase, htk, rfl, rfl⟩ := hs
 have hx' := hget x vx _ hx hsx
 have hy' := hget y vy _ hy hsy
 obtain ⟨g, n, sh2, hρ, hvx⟩ := hx'.optr_inv
 obtain ⟨l, hl, hrr⟩ := hm.rows id _ hrow
 rw [hρ] at hl
 simp only [oI] at hl; subst hl
 obtain ⟨hsh2, hfr, cur, ty, vs, hg, hn, hvs, hp, _⟩ := hrr
 obtain rfl : esh = sh2 := hsh2
 obtain ⟨I1, m1, hq1, hi1, hn1, ht1⟩ := aR1 (I0 := I0) (w0 := w0) hyo g hm hy'.cells hqs hnd
 have hfc := HV.fits_cells hf
 have hql : qs.length = sh.size := by rw [← hfc.1]; exact (ag9 hqs)
 have hqo : ∀ q ∈ qs, q.one = true := fun q hq => by
  obtain ⟨c, hc, hcq⟩ := mapM_mem hqs hq
  unfold am5 at hcq
  split at hcq
  ·cases hcq; exact (bb8 _).trans (hfc.2 _ hc)
  ·split at hcq
   ·split at hcq
    ·cases hcq; rfl
    ·cases hcq
   ·cases hcq
  ·cases hcq
 obtain ⟨hpc, hpf⟩ := bP9 hql hqo
 have hyc : (ev y).cells.size = sh.size := by
  have := hy'.cells.length
  rw [hfc.1] at this
  simpa using this.symm
 have hyrep : RepH w I1 ρ (.pv (b91 sh qs)) (ev y) := by
  have h1 : RepHs w I1 ρ (HV.pv (b91 sh qs)).cells (ev y).cells.toList := by rw [HV.cells_pv, hpc]; exact hq1.toH rfl
  have h2 := RepHs.val (e := .pv (b91 sh qs)) (by rw [HV.fits_pv]; exact hpf) h1
  have h3 : aw7 sh (ev y).cells.toList = ev y := by
   cases sh with
   | none =>
    have hone := HV.one_oneCell hy' hf
    generalize ev y = v at hone
    cases v <;> first | rfl | (simp [Value.oneCell'] at hone)
   | some k =>
    have : ∃ us, ev y = .agg us := by
     generalize ev y = v at hy'
     cases hv with
     | agg cs => cases hy' with | agg _ => exact ⟨_, rfl⟩
     | pv p =>
      cases p with
      | agg cs => cases hy' with | pv hy' => cases hy' with | agg _ => exact ⟨_, rfl⟩
      | _ => simp [HV.fits, PV.fits] at hf
     | _ => simp [HV.fits] at hf
    obtain ⟨us, hus⟩ := this
    rw [hus]; simp [aw7, Value.cells]
  rw [h3] at h2; exact h2
 have hrow1 : ae8 row (af2 (hv.cells.flatMap ax5)) id = some (.p esh es tk) := by
  unfold ae8
  rw [at0, iN hnid]; exact hrow
 have hx1 : RepH w I1 ρ (.optr id idx off) (ev x) := hx'.mono (fun _ _ _ => rfl) hi1 (fun _ _ h => h)
 have hef : (HV.pv e).fits esh = true := hfr (.pv e) (by simp [Row.es]; exact List.mem_of_getElem? he)
 have hec : e.cells.length = esh.size := by
  have := (HV.fits_cells hef).1
  rwa [HV.cells_pv, List.length_map] at this
 have hle : off + sh.size ≤ esh.size := by
  rcases hcase with ⟨rfl, rfl⟩ | ⟨h1, _⟩
  ·omega
  ·rw [← hec]; exact h1
 have hnew : ∃ e' : PV, e' = (if off = 0 ∧ sh = esh then b91 sh qs else .agg (splice e.cells off qs)) ∧ e'.fits esh = true ∧ e'.cells = splice e.cells off qs := by
  refine ⟨_, rfl, ?_⟩
  by_cases hc : off = 0 ∧ sh = esh
  ·obtain ⟨rfl, rfl⟩ := hc
   rw [iP ⟨rfl, rfl⟩]
   refine ⟨hpf, ?_⟩
   rw [hpc]
   unfold splice
   rw [List.take_zero, List.nil_append, zero_add, hql, List.drop_of_length_le (by omega), List.append_nil]
  ·rw [iN hc]
   rcases hcase with hcc | ⟨h1, h2⟩
   ·exact absurd hcc hc
   refine ⟨?_, rfl⟩
   have hes := aQ7 hef h2
   cases esh with
   | none => exact absurd rfl hes
   | some k =>
    simp only [PV.fits, bA, beq_iff_eq, List.all_eq_true]
    refine ⟨by rw [ac4 (by rw [hql]; exact h1), hec]; rfl, ?_⟩
    have h3 : ∀ q ∈ e.cells, q.one = true := fun q hq => by
     have := (HV.fits_cells hef).2 (.pv q) (by rw [HV.cells_pv]; exact mem_map.2 ⟨q, hq, rfl⟩)
     exact this
    intro q hq
    simp only [splice, List.mem_append] at hq
    rcases hq with (hq | hq) | hq
    ·exact h3 q (List.mem_of_mem_take hq)
    ·exact hqo q hq
    ·exact h3 q (List.mem_of_mem_drop hq)
 obtain ⟨e', he', hef', hec'⟩ := hnew
 have hd := aq2 (P := P) (id0 := id0) (e := .pv e) (e' := .pv e') (r := .p esh es tk) (r' := .p esh (es.set idx e') tk') m1 hsh hx1 hyrep (by rw [HV.fits_pv]; exact hpf) hrow1 (by simp [Row.es, he]) rfl rfl (by simp [Row.es, List.map_set]) hle (by rw [HV.fits_pv]; exact hef')
  (by rw [HV.cells_pv, HV.cells_pv, HV.cells_pv, hec', hpc]; simp [splice, map_take, map_drop]) (by intro T e bs h; cases h) rfl (by
  intro g' n' us hρ' hul hT c m' hc j ej hej hmj
  rw [hρ] at hρ'
  cases hρ'
  have hul : us.length = es.length * esh.size := by simpa [Row.es, Row.sh] using hul
  have hidx := (gS.1 he).1
  obtain ⟨m, hm0, hcond⟩ := htk c m' hc
  have hyl : (ev y).cells.toList.length = sh.size := by simpa using hyc
  have hpos : (idx + 1) * esh.size ≤ es.length * esh.size := Nat.mul_le_mul_right _ hidx
  have hpos' : idx * esh.size + esh.size = (idx + 1) * esh.size := by rw [add_mul]; omega
  have hfit : idx * esh.size + off + (ev y).cells.toList.length ≤ us.length := by omega
  by_cases hj : j = idx
  ·subst hj
   have hej' : ej = e' := by
    have := List.getElem?_set_self (a := e') hidx
    rw [show (Row.p esh (es.set j e') tk').pes = es.set j e' from rfl, this] at hej
    exact (Option.some.inj hej).symm
   subst hej'
   rcases hcond with ⟨hout, rfl⟩ | ⟨hin, ⟨q, hq, hqo'⟩, _⟩
   ·obtain ⟨p, v, h1, h2, h3⟩ := hT c m' hm0 j e he hmj
    have h2 : us[j * esh.size + c]? = some v := h2
    refine ⟨p, v, ?_, ?_, h3⟩
    ·rw [hec', a47 (by rw [hql, hec]; exact hle) (by rw [hql]; exact hout)]; exact h1
    ·show (splice us (j * esh.size + off) (ev y).cells.toList)[j * esh.size + c]? = some v
     rw [a47 hfit (by rw [hyl]; omega)]; exact h2
   ·obtain ⟨q', v, h1, h2, h3⟩ := ht1 (c - off) q hq hqo'
    have hlt : c - off < sh.size := by rw [← hql]; exact (gS.1 h1).1
    refine ⟨q', v, ?_, ?_, h3⟩
    ·rw [hec', bv3 (by rw [hql, hec]; exact hle) hin (by rw [hql]; omega)]; exact h1
    ·show (splice us (j * esh.size + off) (ev y).cells.toList)[j * esh.size + c]? = some v
     rw [bv3 hfit (by omega) (by rw [hyl]; omega), show j * esh.size + c - (j * esh.size + off) = c - off by omega]; exact h2
  ·have hej' : es[j]? = some ej := by
    have : (es.set idx e')[j]? = es[j]? := List.getElem?_set_ne (Ne.symm hj)
    rw [← this]; exact hej
   obtain ⟨p, v, h1, h2, h3⟩ := hT c m hm0 j ej hej' (by
    rcases hcond with ⟨_, rfl⟩ | ⟨_, _, ⟨rfl, rfl⟩ | ⟨k, k', rfl, rfl, hk, hk'⟩⟩
    ·exact hmj
    ·exact hmj
    ·intro k2 hk2
     cases hk2
     have := hmj k' rfl
     omega)
   have h2 : us[j * esh.size + c]? = some v := h2
   refine ⟨p, v, h1, ?_, h3⟩
   have hcl : c < esh.size := by
    have : ej.cells.length = esh.size := by
     have := (HV.fits_cells (hfr (.pv ej) (by simp [Row.es]; exact List.mem_of_getElem? hej'))).1
     rwa [HV.cells_pv, List.length_map] at this
    rw [← this]; exact (gS.1 h1).1
   show (splice us (idx * esh.size + off) (ev y).cells.toList)[j * esh.size + c]? = some v
   rw [a47 hfit ?_]; · exact h2
   rw [hyl]
   rcases Nat.lt_or_gt_of_ne hj with hlt | hgt
   ·left
    have : (j + 1) * esh.size ≤ idx * esh.size := Nat.mul_le_mul_right _ hlt
    rw [add_mul] at this; omega
   ·right
    have : (idx + 1) * esh.size ≤ j * esh.size := Nat.mul_le_mul_right _ hgt
    rw [add_mul] at this; omega)
 rw [← he']
 obtain ⟨nx, v, w', I', ρ', hrun, hnx, m2, r2, g2⟩ := hd
 refine ⟨nx, v, w', I', ρ', hrun, hnx, ?_, r2, ⟨fun b o hb => g2.agree b o (hi1 b o hb), fun b o hb => g2.mono b o (hi1 b o hb), g2.rho, g2.dom⟩⟩
 rw [show ae8 row ((id, some (.p esh (es.set idx e') tk')) :: af2 (hv.cells.flatMap ax5)) = ae8 (ae8 row (af2 (hv.cells.flatMap ax5))) [(id, some (.p esh (es.set idx e') tk'))] from ?_]
 ·exact m2
 ·funext k
  unfold ae8
  by_cases h1 : id = k
  ·simp [look, h1]
  ·simp [look, h1]
where
 ag9 {α β : Type} {f : α → Option β} : ∀ {l : List α} {r : List β}, l.mapM f = some r → r.length = l.length
  | [], r, h => by simp at h; subst h; rfl
  | a :: l, r, h => by
   simp only [mapM_cons, bind_eq_bind, pure_def, oE] at h
   obtain ⟨b, _, bs, hbs, h⟩ := h
   simp only [oI] at h; subst h
   simp [ag9 hbs]
 mapM_mem {α β : Type} {f : α → Option β} : ∀ {l : List α} {r : List β} {y : β}, l.mapM f = some r → y ∈ r → ∃ a ∈ l, f a = some y
  | [], r, y, h, hy => by simp at h; subst h; cases hy
  | a :: l, r, y, h, hy => by
   simp only [mapM_cons, bind_eq_bind, pure_def, oE] at h
   obtain ⟨b, hb, bs, hbs, h⟩ := h
   simp only [oI] at h; subst h
   rcases List.mem_cons.1 hy with rfl | hy
   ·exact ⟨a, by simp, hb⟩
   ·obtain ⟨a', h1, h2⟩ := mapM_mem hbs hy
    exact ⟨a', by simp [h1], h2⟩
omit hfree in
theorem bE0 {t e ty : TypeId} {sh : Shape} {i : TypeInfo} {x y : Operand} {vx vy : VA} (ht : P.underlying t = some (.slice e)) (hsh : aa9 P e = some sh) (hi : P.info? e = some i)
  (hx : opdOf x = some vx) (hy : opdOf y = some vy) (hs : b98 sh vx vy get row h upd) : Done P w0 I0 row w I ρ id0 (do pure (.value (← Builtin.append_ #[t, t] ty #[ev x, ev y]))) h upd := by
 obtain ⟨id, len, es, tk, hb, ys, hga, hrow, hgb, he1, hok, hpos, hle, rfl, rfl⟩ := hs
 obtain ⟨i2, d, hi2, hu2, hsz, _⟩ := ad9 hsh
 obtain rfl : i = i2 := by rw [hi] at hi2; exact Option.some.inj hi2
 obtain ⟨a, cap, news, hvy, hnl, hnone, hnews, hnrep, hnfit⟩ := aZ8 hm (hget y vy hb hy hgb) he1 hok
 have hcy : ad4 (.inl ys) = ys.length := rfl
 rw [hcy] at hvy hnl hnone
 have h1c := hnrep.oneCell (fun p hp => by
  obtain ⟨q, hq, hp⟩ := List.mem_flatMap.1 hp
  exact (HV.fits_cells (hnfit q hq)).2 p hp)
 have hrx := hget x vx _ hx hga
 rw [hvy]
 rcases hrx.osl_inv with ⟨g, n, sh', cap2, o, hρ, hvx, hcap2, ho⟩ | ⟨hρ, _, rfl, hvx⟩
 ·obtain ⟨l, hl, hrr⟩ := hm.rows id _ hrow
  rw [hρ] at hl
  simp only [oI] at hl; subst hl
  obtain ⟨hsh2, hf, cur, ty2, vs, hg, hn, hvs, hp, _⟩ := hrr
  obtain rfl : sh = sh' := hsh2
  rcases ho with ⟨rfl, hn'⟩ | ⟨_, _, hne⟩
  case inr => exact absurd rfl hne
  simp only [zero_mul, zero_add] at hvx hn'
  have hfl := Row.flat_length hf
  have hvl : vs.length = es.length * sh.size := by rw [← hvs.length, Row.flat, flat_length hfl]; simp [Row.es]
  have hvc : vs.length ≤ cur.size := by have := congrArg List.length hp; simp at this; omega
  have hcap : es.length ≤ cap2 := by
   have h1 : es.length * sh.size ≤ cap2 * sh.size := by rw [hn', ← hn, ← hvl]; exact hvc
   exact Nat.le_of_mul_le_mul_right h1 hpos
  have hlt : len * sh.size + news.length ≤ vs.length := by rw [hnl, hvl, ← add_mul]; exact Nat.mul_le_mul_right _ hle
  have hfit : len * i.size + news.length ≤ cur.size := by rw [hsz]; omega
  have hr := aC9 (P := P) (w := w) t ty e i ht hi g len cap2 cur ty2 hg a ys.length cap news (by rw [hsz]; exact hnl) hnone hnews h1c (by omega) hfit
  rw [hsz] at hr hfit
  rw [hvx]
  have hfp : ∀ e ∈ es, e.cells.length = sh.size := fun e he => by
   have := hfl (.pv e) (by simp [Row.es, he])
   simpa [HV.cells_pv] using this
  have hfy : ∀ e ∈ ys, e.cells.length = sh.size := fun e he => by
   have := (HV.fits_cells (hnfit (.pv e) (by simp [aV7, he]))).1
   simpa [HV.cells_pv] using this
  have hflat : ∀ l : List PV, ∀ tk, Row.flat (.p sh l tk) = (l.flatMap PV.cells).map .pv := fun l tk => by simp [Row.flat, Row.es, flatMap_map, HV.cells_pv, map_flatMap]
  have hyr : (aV7 (.inl ys)).flatMap HV.cells = (ys.flatMap PV.cells).map .pv := by simp [aV7, flatMap_map, HV.cells_pv, map_flatMap]
  rw [hyr] at hnrep
  have hnew : RepHs w I ρ (Row.flat (.p sh (es.take len ++ ys ++ es.drop (len + ys.length)))) (splice vs (len * sh.size) news) := by
   rw [hflat] at hvs ⊢
   have h1 := hvs.take (len * sh.size)
   have h2 := hvs.drop (len * sh.size + news.length)
   rw [← map_take, as8 hfp] at h1
   rw [← map_drop, hnl, ← add_mul, aG0 hfp] at h2
   have h3 := (h1.append hnrep).append h2
   rw [← map_append, ← map_append, ← List.flatMap_append, ← List.flatMap_append] at h3
   simpa only [splice, hnl, ← add_mul] using h3
  have hfe : ∀ e ∈ (Row.p sh (es.take len ++ ys ++ es.drop (len + ys.length))).es, e.fits sh = true := by
   intro e he
   simp only [Row.es, map_append, List.mem_append] at he
   rcases he with (he | he) | he
   ·obtain ⟨p, hp', rfl⟩ := mem_map.1 he
    exact hf _ (by simp only [Row.es]; exact List.mem_map_of_mem (List.mem_of_mem_take hp'))
   ·exact hnfit e he
   ·obtain ⟨p, hp', rfl⟩ := mem_map.1 he
    exact hf _ (by simp only [Row.es]; exact List.mem_map_of_mem (List.mem_of_mem_drop hp'))
  have hsl : (splice vs (len * sh.size) news).length = vs.length := ac4 hlt
  obtain ⟨m1, m2⟩ := hm.setRow hrow hρ (r := .p sh (es.take len ++ ys ++ es.drop (len + ys.length))) (cur' := (splice cur.toList (len * sh.size) news).toArray) (vs := splice vs (len * sh.size) news) hg
   (by rw [List.size_toArray, ac4 (by simpa using hfit)]; simpa using hn) rfl hfe hnew (by rw [hsl]; exact splice_prefix hp hlt) (by intro T e bs h; cases h) rfl (Tails.nil _ _ _ _ _ _)
  refine ⟨_, .slice (some ⟨g, 0, none⟩) (len + ys.length) cap2, _, I, ρ, by rw [rB, hr]; rfl, .inl rfl, m1, ?_, ⟨m2.agree, m2.mono, m2.rho, fun k hk _ => hk⟩⟩
  have := RepH.osl (w := w.setRow g (splice cur.toList (len * sh.size) news).toArray) (I := I) (ρ := ρ) (id := id) (off := 0) (len := len + ys.length) (cap := cap2) hρ (by simpa using hn') (by omega)
  simpa using this
 ·obtain ⟨l, hl, hrr⟩ := hm.rows id _ hrow
  rw [hρ] at hl
  simp only [oI] at hl; subst hl
  have hes : es = [] := by simpa [Row.es] using (show (Row.p sh es tk).es = [] from hrr)
  subst hes
  have hys : ys = [] := List.eq_nil_of_length_eq_zero (by have h0 := hle; simp only [List.length_nil] at h0; omega)
  subst hys
  rw [hvx]
  refine ⟨_, .slice none 0 0, w, I, ρ, by rw [rB, show ([] : List PV).length = 0 from rfl, ax7 t ty e i ht hi a cap]; rfl, .inl rfl, ?_, by simpa using RepH.oslNil hρ, .refl⟩
  exact hm.shorter hrow 0 (by simp)
omit hfree in
theorem bv4 {x : Operand} {lo hi : Option Operand} {vx : VA} {vlo vhi : Option VA} {t e : TypeId} {sh : Shape} (ht : P.underlying t = some (.slice e)) (he : aa9 P e = some sh) (hx : opdOf x = some vx)
  (hlo : (match lo with | none => some none | some o => (opdOf o).map some) = some vlo) (hhi : (match hi with | none => some none | some o => (opdOf o).map some) = some vhi)
  (hs : bI4 sh vx vlo vhi get row h upd) : Done P w0 I0 row w I ρ id0 (do pure (.value (← Instr.sliceAt t (ev x) (lo.map ev) (hi.map ev) none))) h upd := by
 obtain ⟨id, len, es, tk, l, r, hsx, hrow, hl, hr, hlr, hre, hpos, rfl, rfl⟩ := hs
 have key : ∀ (a : Option Addr) (len cap l r : Nat), aJ6 get 0 vlo = some l → aJ6 get len vhi = some r → l ≤ r → r ≤ cap →
   (Instr.sliceAt t (.slice a len cap) (lo.map ev) (hi.map ev) none).run P w = .ok (.slice (if cap = l then a else a.map (·.add (l * sh.size))) (r - l) (cap - l)) w := by
  intro a len cap l r hl hr h1 h2
  have h1' := az9 hget hlo hl
  have h2' := az9 hget hhi hr
  have hb := ao4 (P := P) (w := w) (isSlice := true) (len := len) (cap := cap) (lo := lo.map ev) (hi := hi.map ev)
    (by rcases h1' with ⟨rfl, rfl⟩ | ⟨o, k, rfl, e⟩ <;> simp [*]) (by rcases h2' with ⟨rfl, rfl⟩ | ⟨o, k, rfl, e⟩ <;> simp [*]) h1 h2
  simp only [Instr.sliceAt, rB, run_underlying ht, aO, Instr.slice, hb, ad7 he, Sem.run_pure]
 rcases (hget x vx _ hx hsx).osl_inv with ⟨g, n, sh', cap, o, hρ, hv, hcap, ho⟩ | ⟨hρ, _, rfl, hv⟩
 ·obtain ⟨l2, hl2, hrr⟩ := hm.rows id _ hrow
  rw [hρ] at hl2
  simp only [oI] at hl2; subst hl2
  obtain ⟨hsh2, hf, cur, ty2, vs, hg, hn, hvs, hp, _⟩ := hrr
  obtain rfl : sh = sh' := hsh2
  rcases ho with ⟨rfl, hn'⟩ | ⟨_, _, hne⟩
  case inr => exact absurd rfl hne
  simp only [zero_mul, zero_add] at hv hn'
  have hfl := Row.flat_length hf
  have hvl : vs.length = es.length * sh.size := by rw [← hvs.length, Row.flat, flat_length hfl]; simp [Row.es]
  have hvc : vs.length ≤ cur.size := by have := congrArg List.length hp; simp at this; omega
  have hcap2 : es.length ≤ cap := by
   have h1 : es.length * sh.size ≤ cap * sh.size := by rw [hn', ← hn, ← hvl]; exact hvc
   exact Nat.le_of_mul_le_mul_right h1 hpos
  rw [hv]
  have hrun := key (some ⟨g, 0, none⟩) len cap l r hl hr hlr (by omega)
  refine Done.quiet hm (by rw [rB, hrun]; rfl) ?_
  by_cases hcl : cap = l
  ·rw [iP hcl, show r - l = 0 by omega, show cap - l = 0 by omega]
   by_cases hz : l = 0
   ·subst hz
    have : RepH w I ρ (.osl id 0 0) (.slice (some ⟨g, 0 * sh.size, none⟩) 0 0) := .osl hρ (by rw [← hn', hcl]) (le_refl _)
    simpa using this
   ·exact .oslEnd hρ hz
  ·rw [iN hcl, Option.map_some, ag2, zero_add]
   exact .osl hρ (by rw [← hn']; congr 1; omega) (by omega)
 ·obtain ⟨l2, hl2, hrr⟩ := hm.rows id _ hrow
  rw [hρ] at hl2
  simp only [oI] at hl2; subst hl2
  have hes : es = [] := by simpa [Row.es] using (show (Row.p sh es tk).es = [] from hrr)
  subst hes
  have : l = 0 ∧ r = 0 := by simp at hre; omega
  obtain ⟨rfl, rfl⟩ := this
  rw [hv]
  have hrun := key none 0 0 0 0 hl hr (le_refl _) (le_refl _)
  refine Done.quiet hm (by rw [rB, hrun]; rfl) ?_
  simpa using RepH.oslNil hρ
omit hget hm hfree in
theorem cn6 (hyo : Mode.y = false) {s : Sem Next} {h0 : HV} {qs : List PV} (hd : Done P w0 I0 row w I ρ id0 s h0 []) (hq : h0.cells.mapM (am5 row) = some qs) (hn : (h0.cells.flatMap ax5).Nodup)
  (hh : (∃ cs, h0 = .agg cs ∧ h = .pv (.agg qs)) ∨ ∃ id off len, h0 = .osl id off len ∧ h = .pv (qs.headD default)) : Done P w0 I0 row w I ρ id0 s h (af2 (h0.cells.flatMap ax5)) := by
 obtain ⟨nx, v, w', I', ρ', hrun, hnx, m1, r1, g1⟩ := hd
 rw [a95] at m1
 obtain ⟨I2, m2, p2, i2, _, _⟩ := aR1 hyo 0 m1 r1.cells hq hn
 refine ⟨nx, v, w', I2, ρ', hrun, hnx, m2, ?_, ⟨g1.agree, fun b o hb => i2 b o (g1.mono b o hb), g1.rho, g1.dom⟩⟩
 rcases hh with ⟨cs, rfl, rfl⟩ | ⟨id, off, len, rfl, rfl⟩
 ·cases r1 with
  | agg r1 => exact .pv (.agg p2)
 ·have hv : v.cells.toList = [v] := by cases r1 <;> rfl
  rw [hv] at p2
  match qs, p2.length with
  | [q], _ =>
   obtain ⟨v', hv', hr'⟩ := p2.get rfl 0 q rfl
   cases hv'
   exact .pv hr'
end
end Go.Vm
