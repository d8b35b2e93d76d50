import Derived.Lib.AppendZeros
import Derived.Test.YtchaaedlfibdoaaGreatDoorVmOps5
open List (flatMap_map length_append length_map map_flatMap map_take mem_append mem_flatMap mem_map replicate size_toArray take_left)
open Nat (add_mul add_zero le_refl mul_le_mul_right zero_add zero_mul)
namespace Go.Vm
open Go.RowKit (Below)
def aV7 : Sum (List PV) (List HV) → List HV
 | .inl a => a.map .pv
 | .inr a => a
theorem aX3 (s : Sum (List PV) (List HV)) : (aV7 s).length = ad4 s := by cases s <;> simp [aV7, ad4]
theorem aZ6 (sh : Shape) (a b : Sum (List PV) (List HV)) : (aJ7 sh a b).es = aV7 a ++ aV7 b := by cases a <;> cases b <;> simp [aJ7, Row.es, aV7]
theorem a97 (sh : Shape) (a b : Sum (List PV) (List HV)) (T e : TypeId) (bs : List UInt8) : aJ7 sh a b ≠ .b T e bs := by cases a <;> cases b <;> intro h <;> cases h
theorem bp5 (sh : Shape) (a b : Sum (List PV) (List HV)) : (aJ7 sh a b).tk = [] := by cases a <;> cases b <;> rfl
theorem aZ7 (sh : Shape) (a b : Sum (List PV) (List HV)) : (aJ7 sh a b).sh = sh := by cases a <;> cases b <;> rfl
section
variable {P : Program} {w : World}
theorem aC9 (t ty e : TypeId) (i : TypeInfo) (ht : P.underlying t = some (.slice e)) (hi : P.info? e = some i)
  (g sLen sCap : Nat) (cur : Array Value) (e' : TypeId) (hg : w.heap[g]? = some (.cells cur e' (0, 0)))
  (a : Option Addr) (m c : Nat) (news : List Value) (hl : news.length = m * i.size) (hnone : a = none → m = 0) (hnews : ∀ b, a = some b → ∀ j u, news[j]? = some u → w.cell? (b.add j) = some u) (h1 : ∀ u ∈ news, u.oneCell' = true)
  (hroom : sLen + m ≤ sCap) (hfit : sLen * i.size + news.length ≤ cur.size) :
  (Builtin.append_ #[t, t] ty #[.slice (some ⟨g, 0, none⟩) sLen sCap, .slice a m c]).run P w =
   .ok (.slice (some ⟨g, 0, none⟩) (sLen + m) sCap) (w.setRow g (splice cur.toList (sLen * i.size) news).toArray) := by
 have hst := run_storeCells_at P g (sLen * i.size) e' news 0 cur w hg (by simpa using hfit) h1
 simp only [add_zero] at hst
 have hf : (Builtin.firstCells i.size m (.slice a m c)).run P w = .ok news.toArray w := by
  cases a with
  | none =>
   have : news = [] := List.eq_nil_of_length_eq_zero (by rw [hl, hnone rfl]; simp)
   subst this
   simp [Builtin.firstCells]
  | some b => exact run_firstCells_some (P := P) w i.size m b m c news hl (hnews b rfl)
 simp only [splice]
 simp [Builtin.append_, run_underlying ht, sizeOf, typeInfo, hi, Builtin.lenOf, hroom, hf, Addr.add_lit, hst]
theorem ax7 (t ty e : TypeId) (i : TypeInfo) (ht : P.underlying t = some (.slice e)) (hi : P.info? e = some i) (a : Option Addr) (c : Nat) :
  (Builtin.append_ #[t, t] ty #[.slice none 0 0, .slice a 0 c]).run P w = .ok (.slice none 0 0) w := by
 cases a <;> simp [Builtin.append_, run_underlying ht, sizeOf, typeInfo, hi, Builtin.lenOf, Builtin.firstCells, loadCells, loadCellsFrom]
end
theorem a68 : ∀ {ps : List PV} {k c : Nat} {m : Option Nat}, (c, m) ∈ a38 k ps → k ≤ c ∧ ∃ sh, ps[c - k]? = some (.usl sh [])
 | [], _, _, _, h => by cases h
 | p :: r, k, c, m, h => by
  have step : (c, m) ∈ a38 (k + 1) r → k ≤ c ∧ ∃ sh, (p :: r)[c - k]? = some (.usl sh []) := by
   intro h
   obtain ⟨h1, sh, h2⟩ := a68 h
   refine ⟨by omega, sh, ?_⟩
   rw [show c - k = (c - (k + 1)) + 1 by omega]
   simpa using h2
  unfold a38 at h
  split at h
  ·cases h
  ·rename_i sh r' heq
   cases heq
   rcases List.mem_cons.1 h with h | h
   ·cases h; exact ⟨le_refl _, sh, by simp⟩
   ·exact step h
  ·rename_i heq
   cases heq
   exact step h
theorem aQ8 {α : Type} {l : List α} {n j c : Nat} {v : α} (hj : j < n) (hv : l[c]? = some v) : (replicate n l).flatten[j * l.length + c]? = some v := by
 have hc := (gS.1 hv).1
 induction n generalizing j with
 | zero => omega
 | succ n ih =>
  rw [List.replicate_succ, List.flatten_cons]
  cases j with
  | zero => rw [zero_mul, zero_add, List.getElem?_append_left hc]; exact hv
  | succ j =>
   rw [List.getElem?_append_right (by rw [add_mul]; omega), show (j + 1) * l.length + c - l.length = j * l.length + c by rw [add_mul]; omega]
   exact ih (by omega)
theorem bu7 {w w' : World} {I : Prot} {g : Nat} {z : Value} {p : PV} {sh : Shape} (h : RepP w I p z []) (hf : p.fits sh = true) (n : Nat) :
  Tails w' I g (aM7 p) sh (replicate n (aV2 p)) (replicate n z.cells.toList).flatten := by
 intro c m hc j e he _
 obtain ⟨_, sh', h2⟩ := a68 hc
 rw [Nat.sub_zero] at h2
 have hj : j < n := by have := (gS.1 he).1; simpa using this
 obtain rfl : e = aV2 p := by
  have := List.getElem?_replicate (a := aV2 p) (n := n) (i := j)
  rw [he, iP hj] at this
  exact Option.some.inj this
 have hcs : RepPs w I p.cells z.cells.toList [] := by
  have := (RepH.pv (ρ := fun _ => none) h).cells
  rw [HV.cells_pv] at this
  exact this.toP
 have hlen : z.cells.toList.length = sh.size := by rw [← hcs.length]; exact (PV.fits_cells hf).1
 obtain ⟨v, hv, hr⟩ := hcs.get rfl c _ h2
 refine ⟨.sl sh' [], v, by rw [bb9, List.getElem?_map, h2]; rfl, ?_, .inl ?_⟩
 ·rw [← hlen]; exact aQ8 hj hv
 ·generalize hF : ([] : List Nat) = F at hr
  cases hr with
  | uslNil => rfl
  | usl => cases hF
theorem Mem.rename [Mode] {w0 : Base} {I0 : Prot} {row : ad1} {w : World} {I : Prot} {ρ : Nat → Option Loc} (h : Mem w0 I0 row w I ρ) {id id0 : Nat} {r : Row} {l : Loc} (hr : row id = some r) (hl : ρ id = some l) (h0 : ρ id0 = none) :
  Mem w0 I0 (ae8 row [(id0, some r), (id, none)]) w I (put ρ id0 l) ∧ Grow w I ρ w I (put ρ id0 l) (fun k => k = id0) := by
 have hne : id ≠ id0 := by rintro rfl; rw [hl] at h0; cases h0
 have hmono := aS8 (l := l) h0
 have hlive : ∀ k x, ae8 row [(id0, some r), (id, none)] k = some x → (k = id0 ∧ x = r) ∨ (k ≠ id0 ∧ k ≠ id ∧ row k = some x) := by
  intro k x hx
  unfold ae8 at hx
  by_cases hk : id0 = k
  ·simp [look, hk] at hx; exact .inl ⟨hk.symm, hx.symm⟩
  ·by_cases hk2 : id = k
   ·simp [look, hk, hk2] at hx
   ·simp [look, hk, hk2] at hx; exact .inr ⟨Ne.symm hk, Ne.symm hk2, hx⟩
 refine ⟨{ bel := h.bel, agr := h.agr, i0 := h.i0, lt := h.lt, new := h.new, tyF := h.tyF, nn := fun b g hb => ?_, rows := ?_, own := ?_, inj := ?_, tyI := h.tyI, tyR := ?_, bld := ?_, one := ?_, glob := h.glob, tab := h.tab }, ⟨fun _ _ _ => rfl, fun _ _ h => h, hmono, fun k hk hn => by simp [put, hn, hk]⟩⟩
 ·obtain ⟨n1, n2, n3, n4⟩ := h.nn b g hb
  refine ⟨n1, n2, n3, fun k x n sh hx hk => ?_⟩
  rcases hlive k x hx with ⟨rfl, rfl⟩ | ⟨h1, h2, hx⟩
  ·simp [put] at hk
   exact n4 id x n sh hr (by rw [hl, hk])
  ·exact n4 k x n sh hx (by simpa [put, h1] using hk)
 ·intro k x hx
  rcases hlive k x hx with ⟨rfl, rfl⟩ | ⟨h1, h2, hx⟩
  ·obtain ⟨l', hl', hrr⟩ := h.rows id x hr
   rw [hl] at hl'
   simp only [oI] at hl'; subst hl'
   exact ⟨l, by simp [put], hrr.mono (fun _ _ _ => rfl) (fun _ _ h => h) hmono fun _ _ _ _ => ⟨rfl, fun _ => NK.refl _ _ _⟩⟩
  ·obtain ⟨l', hl', hrr⟩ := h.rows k x hx
   exact ⟨l', hmono _ _ hl', hrr.mono (fun _ _ _ => rfl) (fun _ _ h => h) hmono fun _ _ _ _ => ⟨rfl, fun _ => NK.refl _ _ _⟩⟩
 ·intro k x g n sh hx hk
  rcases hlive k x hx with ⟨rfl, rfl⟩ | ⟨h1, h2, hx⟩
  ·simp [put] at hk
   exact h.own id x g n sh hr (by rw [hl, hk])
  ·exact h.own k x g n sh hx (by simpa [put, h1] using hk)
 ·intro k k' x x' g n n' sh sh' hx hx' hk hk'
  rcases hlive k x hx with ⟨rfl, rfl⟩ | ⟨h1, h2, hx⟩ <;> rcases hlive k' x' hx' with ⟨rfl, rfl⟩ | ⟨h1', h2', hx'⟩
  ·rfl
  ·simp [put] at hk
   exact absurd (h.inj id k' x x' g n n' sh sh' hr hx' (by rw [hl, hk]) (by simpa [put, h1'] using hk')) (Ne.symm h2')
  ·simp [put] at hk'
   rename_i hxx
   exact absurd (h.inj id k x' x g n' n sh' sh hr hxx (by rw [hl, hk']) (by simpa [put, h1] using hk)) (Ne.symm h2)
  ·exact h.inj k k' x x' g n n' sh sh' hx hx' (by simpa [put, h1] using hk) (by simpa [put, h1'] using hk')
 ·intro k x g n sh hx hk
  rcases hlive k x hx with ⟨rfl, rfl⟩ | ⟨h1, h2, hx⟩
  ·simp [put] at hk
   exact h.tyR id x g n sh hr (by rw [hl, hk])
  ·exact h.tyR k x g n sh hx (by simpa [put, h1] using hk)
 ·intro k T e bs hx
  rcases hlive k _ hx with ⟨rfl, e1⟩ | ⟨h1, h2, hx⟩
  ·subst e1
   obtain ⟨g, n, sh, q1, q2, q3⟩ := h.bld id T e bs hr
   exact ⟨g, n, sh, by rw [hl] at q1; simp [put, q1], q2, q3⟩
  ·obtain ⟨g, n, sh, q1, q2, q3⟩ := h.bld k T e bs hx
   exact ⟨g, n, sh, hmono _ _ q1, q2, q3⟩
 ·intro k k' T e bs T' e' bs' hx hx'
  rcases hlive k _ hx with ⟨rfl, e1⟩ | ⟨h1, h2, hx⟩ <;> rcases hlive k' _ hx' with ⟨rfl, e2⟩ | ⟨h1', h2', hx'⟩
  ·rfl
  ·exact absurd (h.one k' id T' e' bs' T e bs hx' (by rw [hr, ← e1])) h2'
  ·rename_i hxx
   exact absurd (h.one k id T e bs T' e' bs' hxx (by rw [hr, ← e2])) h2
  ·exact h.one k k' T e bs T' e' bs' hx hx'
section
variable {P : Program} {w0 : Base} {I0 : Prot} {row : ad1} {w : World} {I : Prot} {ρ : Nat → Option Loc} {id0 : Nat} {ev : Operand → Value} {get : Nat → Option HV} {h : HV} {upd : Upd}
theorem aZ8 [Mode] (hm : Mem w0 I0 row w I ρ) {sh : Shape} {hb : HV} {v : Value} {s : Sum (List PV) (List HV)} (hr : RepH w I ρ hb v) (hs : aK6 row hb = some s) (hok : am3 sh row hb = true) :
  ∃ a cap news, v = .slice a (ad4 s) cap ∧ news.length = ad4 s * sh.size ∧ (a = none → ad4 s = 0) ∧ (∀ b, a = some b → ∀ j u, news[j]? = some u → w.cell? (b.add j) = some u) ∧
   RepHs w I ρ ((aV7 s).flatMap HV.cells) news ∧ ∀ e ∈ aV7 s, e.fits sh = true := by
 have nl : ∀ (sh' : Shape) (es : List PV), hb = .pv (.sl sh' es) → s = .inl es → ∃ a cap news, v = .slice a (ad4 s) cap ∧ news.length = ad4 s * sh.size ∧ (a = none → ad4 s = 0) ∧ (∀ b, a = some b → ∀ j u, news[j]? = some u → w.cell? (b.add j) = some u) ∧
   RepHs w I ρ ((aV7 s).flatMap HV.cells) news ∧ ∀ e ∈ aV7 s, e.fits sh = true := by
  rintro sh' es rfl rfl
  obtain rfl : sh' = sh := by simpa [am3] using hok
  obtain ⟨a, cap, hv, hcap, hf, hnone, hsome⟩ := hr.sl_inv
  have hfl : ∀ e ∈ aV7 (.inl es), e.fits sh' = true := by
   intro e he
   simp only [aV7, mem_map] at he
   obtain ⟨p, hp, rfl⟩ := he
   rw [HV.fits_pv]; exact hf p hp
  cases a with
  | none =>
   obtain ⟨rfl, rfl⟩ := hnone rfl
   exact ⟨none, 0, [], hv, by simp [ad4], fun _ => rfl, (fun b hb => by cases hb), .nil, hfl⟩
  | some a =>
   rcases hsome a rfl with rfl | ⟨b, o, vs, rfl, hI, hvs, hcell⟩
   ·exact ⟨some a, cap, [], hv, by simp [ad4], (fun h => by cases h), (fun b hb j u hu => by simp at hu), .nil, hfl⟩
   refine ⟨_, cap, vs, hv, ?_, (fun h => by cases h), fun b' hb' j u hu => ?_, ?_, hfl⟩
   ·rw [← hvs.length, flat_length (fun e he => (PV.fits_cells (hf e he)).1)]; rfl
   ·cases hb'; rw [ag2]; exact hcell j u hu
   ·have := hvs.toH (ρ := ρ) rfl
    simpa [aV7, flatMap_map, HV.cells_pv, map_flatMap] using this
 unfold aK6 at hs
 split at hs
 ·rename_i p
  simp only [oM] at hs
  obtain ⟨es, hes, rfl⟩ := hs
  unfold ci3 at hes
  split at hes
  ·simp only [oI] at hes; subst hes
   exact ⟨none, 0, [], hr.nilsl_inv, by simp [ad4], fun _ => rfl, (fun b hb => by cases hb), .nil, by simp [aV7]⟩
  ·simp only [oI] at hes; subst hes
   cases hr with | pv hr =>
   cases hr
   exact ⟨_, _, [], rfl, by simp [ad4], fun _ => rfl, (fun b hb j u hu => by simp at hu), .nil, by simp [aV7]⟩
  ·simp only [oI] at hes; subst hes
   exact nl _ _ rfl rfl
  ·rename_i sh' es'
   split at hes
   ·rename_i he
    have he' : es' = [] := List.isEmpty_iff.1 he
    subst he'
    simp only [oI] at hes; subst hes
    exact ⟨none, 0, [], hr.uslNil_inv, by simp [ad4], fun _ => rfl, (fun b hb => by cases hb), .nil, by simp [aV7]⟩
   ·cases hes
  ·cases hes
 ·rename_i id off len
  have key : ∀ r, row id = some r → off + len ≤ r.es.length → ∃ a cap news, v = .slice a len cap ∧ news.length = len * sh.size ∧ (a = none → len = 0) ∧ (∀ b, a = some b → ∀ j u, news[j]? = some u → w.cell? (b.add j) = some u) ∧
    RepHs w I ρ (((r.es.drop off).take len).flatMap HV.cells) news ∧ ∀ e ∈ (r.es.drop off).take len, e.fits sh = true := by
   intro r hrow hle
   obtain ⟨l, hl, hrr⟩ := hm.rows id r hrow
   rcases hr.osl_inv with ⟨g, n, sh', cap, o, hρ, hv, hcap, ho⟩ | ⟨hρ, rfl, rfl, hv⟩
   ·rw [hρ] at hl
    simp only [oI] at hl; subst hl
    simp only [am3, hrow, bA, dT] at hok
    obtain ⟨hsh, hf, cur, ty, vs, hg, hn, hvs, hp, _⟩ := hrr.cells (bC3 hok.2)
    have hsz : sh' = sh := by
     rw [← hsh]; exact hok.1
    subst hsz
    have hfe : ∀ e ∈ (r.es.drop off).take len, e.fits sh' = true := fun e he => hf e (List.mem_of_mem_drop (List.mem_of_mem_take he))
    have hlen : ((r.es.drop off).take len).length = len := by simp; omega
    rcases ho with ⟨rfl, hn'⟩ | ⟨rfl, rfl, _⟩
    ·refine ⟨_, cap, (vs.drop (off * sh'.size)).take (len * sh'.size), hv, ?_, (fun h => by cases h), fun b hb j u hu => ?_, ?_, hfe⟩
     ·have h1 := ((hvs.drop (off * sh'.size)).take (len * sh'.size)).length
      rw [Row.flat, aG0 (Row.flat_length hf), as8 (fun e he => (HV.fits_cells (hf e (List.mem_of_mem_drop he))).1), flat_length (fun e he => (HV.fits_cells (hfe e he)).1), hlen] at h1
      exact h1.symm
     ·cases hb; rw [ag2]; exact ao3 hp hg _ _ (drop_take_get hu)
     ·have h1 := (hvs.drop (off * sh'.size)).take (len * sh'.size)
      rw [Row.flat, aG0 (Row.flat_length hf), as8 (fun e he => (HV.fits_cells (hf e (List.mem_of_mem_drop he))).1)] at h1
      exact h1
    ·exact ⟨_, 0, [], hv, by simp, (fun h => by cases h), (fun b hb j u hu => by simp at hu), by simpa using RepHs.nil, by simp⟩
   ·exact ⟨none, 0, [], hv, by simp, fun _ => rfl, (fun b hb => by cases hb), by simpa using RepHs.nil, by simp⟩
  split at hs
  ·rename_i sh' es tk hrow
   split at hs
   ·rename_i hle
    simp only [oI] at hs; subst hs
    obtain ⟨a, cap, news, h1, h2, h3, h4, h5, h6⟩ := key _ hrow (by simpa [Row.es] using hle)
    have hc : ad4 (.inl ((es.drop off).take len)) = len := by simp [ad4]; omega
    have he : ((Row.p sh' es tk).es.drop off).take len = aV7 (.inl ((es.drop off).take len)) := by simp [Row.es, aV7, map_take, List.map_drop]
    rw [he] at h5 h6
    exact ⟨a, cap, news, by rw [hc]; exact h1, by rw [hc]; exact h2, by rw [hc]; exact h3, h4, h5, h6⟩
   ·cases hs
  ·rename_i sh' es hrow
   split at hs
   ·rename_i hle
    simp only [oI] at hs; subst hs
    obtain ⟨a, cap, news, h1, h2, h3, h4, h5, h6⟩ := key _ hrow (by simpa [Row.es] using hle)
    have hc : ad4 (.inr ((es.drop off).take len)) = len := by simp [ad4]; omega
    exact ⟨a, cap, news, by rw [hc]; exact h1, by rw [hc]; exact h2, by rw [hc]; exact h3, h4, h5, h6⟩
   ·cases hs
  ·cases hs
 ·cases hs
theorem Done.newDrew [Mode] {s : Sem Next} {h : HV} {v : Value} (hm : Mem w0 I0 row w I ρ) (hfree : ∀ k, id0 ≤ k → k < id0 + 4 → ρ k = none) {r : Row} {cur : Array Value} {t : TypeId} {vs : List Value} {old : Upd}
  (hr : s.run P w = .ok (.value v) (w.drew.alloc (.cells cur t))) (hf : ∀ e ∈ r.es, e.fits r.sh = true) (hrep : RepHs w I ρ r.flat vs) (hp : cur.toList.take vs.length = vs)
  (hold : ∀ id x, ae8 row ((id0, some r) :: old) id = some x → ae8 row [(id0, some r)] id = some x)
  (hv : ∀ w' I' ρ', ρ' id0 = some (.blk w.heap.size cur.size r.sh) → RepH w' I' ρ' h v) (hty : Mode.y = false → ap7 w0.P t = false) (hB : ∀ T e bs, r ≠ .b T e bs) (hT : Tails (w.drew.alloc (.cells cur t)) I w.heap.size r.tk r.sh r.pes vs) (hM : r.asM = none := by first | rfl | assumption | exact aZ1 _ _ | exact aK8 _ _ | exact aZ2 _ _ _) : Done P w0 I0 row w I ρ id0 s h ((id0, some r) :: old) := by
 have hrep' : RepHs w.drew I ρ r.flat vs := RepHs.mono (w := w) (w' := w.drew) (fun _ _ _ => rfl) (fun _ _ h => h) (fun _ _ h => h) hrep
 obtain ⟨h1, h2⟩ := hm.drew.alloc (hfree id0 (le_refl _) (by omega)) (t := t) hf hrep' hp hty hT (fun T e bs h => (hB T e bs h).elim)
 refine ⟨_, v, _, I, _, hr, .inl rfl, h1.sub hold, hv _ _ _ (by simp [put]), ⟨fun b o hb => (h2.agree b o hb).trans rfl, h2.mono, h2.rho, fun k hk hn => h2.dom k hk fun e => hn ?_⟩⟩
 subst e; omega
variable [Mode] (hget : ∀ (x : Operand) (vx : VA) (h : HV), opdOf x = some vx → vx.get get = some h → RepH w I ρ h (ev x)) (hm : Mem w0 I0 row w I ρ) (hfree : ∀ k, id0 ≤ k → k < id0 + 4 → ρ k = none)
include hget hm hfree
theorem bc4 {t e ty : TypeId} {sh : Shape} {i : TypeInfo} {zp : PV} {x y : Operand} {vx vy : VA} {ha hb : HV} {id : Nat} {es : List PV} (hnb : Mode.y = false → ap7 w0.P e = false) (ht : P.underlying t = some (.slice e)) (hsh : aa9 P e = some sh) (hi : P.info? e = some i) (hz : aC2 P e = some zp)
  (hx : opdOf x = some vx) (hy : opdOf y = some vy) (hga : vx.get get = some ha) (hgb : vy.get get = some hb) (hroom : bi8 sh row ha = some (id, es))
  (hs : ((aK6 row hb).bind fun e => match e with
    | .inl ys => if am3 sh row hb = true ∧ 0 < sh.size ∧ (es.length + ys.length) * i.bytes ≤ 140737488355328 ∧ es.length + ys.length ≤ 9223372036854775807 then
      some (HV.pv (.sl sh (es ++ ys)), ([(id, none)] : Upd))
     else none
    | .inr _ => none) = some (h, upd)) :
  Done P w0 I0 row w I ρ id0 (do pure (.value (← Builtin.append_ #[t, t] ty #[ev x, ev y]))) h upd := by
 obtain ⟨i2, d, hi2, hu2, hsz, _⟩ := ad9 hsh
 obtain rfl : i = i2 := by rw [hi] at hi2; exact Option.some.inj hi2
 obtain ⟨i3, z, sh', hi3, hzv, hsh', hzf, hzc⟩ := as9 hz
 obtain rfl : i = i3 := by rw [hi] at hi3; exact Option.some.inj hi3
 obtain rfl : sh = sh' := by rw [hsh] at hsh'; exact Option.some.inj hsh'
 have hzl : z.cells.size = sh.size := by
  have hr : RepH w I ρ (.pv zp) z := .pv (closed_rep hzc)
  have := hr.cells.length
  rw [HV.cells_pv, length_map, (PV.fits_cells hzf).1] at this
  simpa using this.symm
 simp only [oE] at hs
 obtain ⟨e1, he1, hs⟩ := hs
 split at hs
 case h_2 => cases hs
 rename_i ys
 split at hs
 case isFalse => cases hs
 rename_i hc
 obtain ⟨hok, hpos, hbytes, h63⟩ := hc
 simp only [oI, pJ] at hs
 obtain ⟨rfl, rfl⟩ := hs
 obtain ⟨a, cap, news, hvy, hnl, hnone, hnews, hnrep, hnfit⟩ := aZ8 hm (hget y vy hb hy hgb) he1 hok
 have hnl : news.length = ys.length * sh.size := hnl
 have h1c := hnrep.oneCell (fun p hp => by
  obtain ⟨q, hq, hp⟩ := mem_flatMap.1 hp
  exact (HV.fits_cells (hnfit q hq)).2 p hp)
 have hrx := hget x vx ha hx hga
 have hnrep' : RepPs w I (ys.flatMap PV.cells) news [] := by
  have : (aV7 (.inl ys)).flatMap HV.cells = (ys.flatMap PV.cells).map .pv := by simp [aV7, flatMap_map, HV.cells_pv, map_flatMap]
  rw [this] at hnrep
  exact hnrep.toP
 have hyf : ∀ e ∈ ys, e.fits sh = true := fun e he => by rw [← HV.fits_pv]; exact hnfit (.pv e) (by simp [aV7, he])
 unfold bi8 at hroom
 split at hroom
 case h_2 => cases hroom
 rename_i id' len
 split at hroom
 case h_2 => cases hroom
 rename_i sh' es' hrow
 split at hroom
 case isFalse => cases hroom
 rename_i hcc
 obtain ⟨rfl, rfl⟩ := hcc
 simp only [oI, pJ] at hroom
 obtain ⟨rfl, rfl⟩ := hroom
 obtain ⟨l, hl, hrr⟩ := hm.rows id' _ hrow
 have grown : ∀ (cur : Array Value) (vs : List Value) (cap2 : Nat), (∀ e ∈ es', e.fits sh' = true) → RepPs w I (es'.flatMap PV.cells) vs [] → cur.toList.take (vs ++ news).length = vs ++ news → es'.length + ys.length ≤ cap2 →
   (do pure (Next.value (← Builtin.append_ #[t, t] ty #[ev x, ev y])) : Sem Next).run P w = .ok (.value (.slice (some ⟨w.heap.size, 0, none⟩) (es'.length + ys.length) cap2)) (w.drew.alloc (.cells cur e)) →
   Done P w0 I0 row w I ρ id0 (do pure (.value (← Builtin.append_ #[t, t] ty #[ev x, ev y]))) (.pv (.sl sh' (es' ++ ys))) [(id', none)] := by
  intro cur vs cap2 hf hvs hp hcap hrun
  have hall : RepPs w I ((es' ++ ys).flatMap PV.cells) (vs ++ news) [] := by
   have := (hvs.toH (ρ := ρ) rfl).append (hnrep'.toH (ρ := ρ) rfl)
   rw [← List.map_append] at this
   rw [List.flatMap_append]; exact this.toP
  have hfa : ∀ e ∈ es' ++ ys, e.fits sh' = true := fun e he => by
   rcases mem_append.1 he with he | he
   ·exact hf e he
   ·exact hyf e he
  have hrep' : RepHs w.drew I ρ (Row.flat (.p sh' (es' ++ ys))) (vs ++ news) := by
   have h1 := hall.toH (ρ := ρ) rfl
   have h2 : RepHs w I ρ (Row.flat (.p sh' (es' ++ ys))) (vs ++ news) := by
    have : Row.flat (.p sh' (es' ++ ys)) = ((es' ++ ys).flatMap PV.cells).map .pv := by simp [Row.flat, Row.es, flatMap_map, HV.cells_pv, map_flatMap]
    rw [this]; exact h1
   exact RepHs.mono (w := w) (w' := w.drew) (fun _ _ _ => rfl) (fun _ _ h => h) (fun _ _ h => h) h2
  have hid0 := hfree id0 (le_refl _) (by omega)
  obtain ⟨m1, g1⟩ := hm.drew.alloc hid0 (r := .p sh' (es' ++ ys)) (cur := cur) (t := e) (by
   intro q hq
   simp only [Row.es, mem_map] at hq
   obtain ⟨p, hp', rfl⟩ := hq
   rw [HV.fits_pv]; exact hfa p hp') hrep' hp hnb (Tails.nil _ _ _ _ _ _)
  have hblk : put ρ id0 (.blk w.heap.size cur.size sh') id0 = some (.blk w.heap.size cur.size sh') := by simp [put]
  obtain ⟨m2, g2⟩ := m1.freezeAt (id := id0) (r := .p sh' (es' ++ ys)) (by simp [ae8, look]) hblk (heap_alloc_new w.drew _) (Kept.refl _ _) (heap_alloc_new w.drew _) (fun o ho => rfl) (fun _ => True) none
  have hv : RepP (w.drew.alloc (.cells cur e)) _ (.sl sh' (es' ++ ys)) (.slice (some ⟨w.heap.size, 0, none⟩) (es' ++ ys).length cap2) [] :=
   RepP.sl (I := ⟨fun b o => I b o ∨ (b = w.heap.size ∧ True), fun b => if b = w.heap.size then none else I.n b⟩) (b := w.heap.size) (o := 0) (fun i hi => Or.inr ⟨rfl, trivial⟩) hfa (by rw [length_append]; exact hcap)
    (hall.mono (w' := w.drew.alloc (.cells cur e)) (fun b o hb => by rw [g1.agree b o hb]; rfl) (fun b o hb => Or.inl hb) (by simp)) (fun i v hv => by rw [zero_add]; exact ao3 hp (heap_alloc_new w.drew _) i v hv)
  rw [length_append] at hv
  refine ⟨_, _, _, _, _, hrun, .inl rfl, m2.sub ?_, .pv hv, ⟨fun b o hb => (g1.agree b o hb).trans rfl, fun b o hb => Or.inl hb, g1.rho, fun k hk hn => g1.dom k hk fun e => hn (by subst e; omega)⟩⟩
  intro k r hk
  unfold ae8 at hk ⊢
  by_cases h1 : id' = k
  ·simp [look, h1] at hk
  ·simp only [look, h1, if_false] at hk
   have h2 : id0 ≠ k := by
    rintro rfl
    obtain ⟨l2, hl2, _⟩ := hm.rows id0 r hk
    rw [hid0] at hl2; cases hl2
   simp [look, h2, hk]
 rw [hvy] at grown ⊢
 rcases hrx.osl_inv with ⟨g, n, sh2, cap2, o, hρ, hvx, hcap2, ho⟩ | ⟨hρ, _, hl0, hvx⟩
 ·rw [hρ] at hl
  simp only [oI] at hl; subst hl
  obtain ⟨hsh2, hf, cur, ty2, vs, hg, hn, hvs, hp, _⟩ := hrr
  obtain rfl : sh' = sh2 := hsh2
  rcases ho with ⟨rfl, hn'⟩ | ⟨_, _, hne⟩
  case inr => exact absurd rfl hne
  simp only [zero_mul, zero_add] at hvx hn'
  have hfp : ∀ e ∈ es', e.fits sh' = true := fun e he => by rw [← HV.fits_pv]; exact hf (.pv e) (by simp [Row.es, he])
  have hflat : Row.flat (.room sh' es') = (es'.flatMap PV.cells).map .pv := by simp [Row.flat, Row.es, flatMap_map, HV.cells_pv, map_flatMap]
  rw [hflat] at hvs
  have hvs := hvs.toP
  have hvl : vs.length = es'.length * sh'.size := by rw [← hvs.length, flat_length (fun e he => (PV.fits_cells (hfp e he)).1)]
  rw [hvx] at grown ⊢
  by_cases hroom : es'.length + ys.length ≤ cap2
  ·have hfit : es'.length * i.size + news.length ≤ cur.size := by
    rw [hsz, hnl, hn, ← hn', ← add_mul]; exact mul_le_mul_right _ hroom
   have hr := aC9 (P := P) (w := w) t ty e i ht hi g es'.length cap2 cur ty2 hg a ys.length cap news (by rw [hsz]; exact hnl) hnone hnews h1c hroom hfit
   rw [hsz] at hr hfit
   have hcur : cur.toList.take (es'.length * sh'.size) = vs := by rw [← hvl]; exact hp
   have hnew : (splice cur.toList (es'.length * sh'.size) news).take (vs ++ news).length = vs ++ news := by
    simp only [splice, hcur]
    exact take_left
   have hg2 := setRow_heap w g cur (splice cur.toList (es'.length * sh'.size) news).toArray ty2 (0, 0) hg
   obtain ⟨m1, g1⟩ := hm.freezeAt (w' := w.setRow g (splice cur.toList (es'.length * sh'.size) news).toArray) hrow hρ hg ⟨rfl, rfl, rfl, by simp [World.setRow], fun k _ hk => setRow_other w g k _ hk⟩ hg2 (fun o ho => by
    have ho : o < es'.length * sh'.size := ho
    have h1 : o < (cur.toList.take (es'.length * sh'.size)).length := by rw [hcur, hvl]; exact ho
    simp only [List.getElem?_toArray, splice, List.append_assoc]
    rw [List.getElem?_append_left h1, List.getElem?_take_of_lt ho]
    simp) (fun _ => True) none
   refine ⟨_, .slice (some ⟨g, 0, none⟩) (es'.length + ys.length) cap2, _, _, _, by rw [rB, show ad4 (.inl ys) = ys.length from rfl, hr]; rfl, .inl rfl, m1, .pv ?_, ⟨g1.agree, g1.mono, g1.rho, fun k hk hn => hk⟩⟩
   rw [← length_append]
   refine RepP.sl (b := g) (o := 0) (vs := vs ++ news) (fun i hi => Or.inr ⟨rfl, trivial⟩) (fun e he => ?_) (by rw [length_append]; exact hroom) ?_ (fun i v hv => by rw [zero_add]; exact ao3 hnew hg2 i v hv)
   ·rcases mem_append.1 he with he | he
    ·exact hfp e he
    ·exact hyf e he
   ·have h1 := (hvs.toH (ρ := ρ) rfl).append (hnrep'.toH (ρ := ρ) rfl)
    rw [← List.map_append, ← List.flatMap_append] at h1
    exact h1.toP.mono g1.agree g1.mono (by simp)
  ·have hcells : ∀ j u, vs[j]? = some u → w.cell? ((⟨g, 0, none⟩ : Addr).add j) = some u := by
    intro j u hu
    rw [ag2, zero_add]
    exact ao3 hp hg _ _ hu
   have hgf := growslice_fits (need := es'.length + ys.length) (old := cap2) (bytes := i.bytes) (by omega) hbytes
   have hge := grownCap_ge w (es'.length + ys.length) cap2 e
   refine grown ((vs.toArray ++ news.toArray ++ Builtin.zeroCells z.cells (grownCap w (es'.length + ys.length) cap2 e - (es'.length + ys.length)))) vs _ hfp hvs (by simp only [Array.toList_append]; exact take_left) hge ?_
   cases a with
   | none =>
    have : ys.length = 0 := hnone rfl
    omega
   | some b =>
    have hr := run_append_grow (P := P) w t ty e i z ht hi hzv ⟨g, 0, none⟩ es'.length cap2 vs (by rw [hsz]; exact hvl) hcells b ys.length cap news (by rw [hsz]; exact hnl) (hnews b rfl) (by omega) (by omega) hgf
    rw [rB]; rw [show ad4 (.inl ys) = ys.length from rfl, hr]; rfl
 ·have hes : es' = [] := List.eq_nil_of_length_eq_zero hl0
  subst hes
  rw [hvx] at grown ⊢
  by_cases hm0 : ys.length = 0
  ·have hy0 : ys = [] := List.eq_nil_of_length_eq_zero hm0
   subst hy0
   exact ⟨_, .slice none 0 0, w, I, ρ, by rw [rB, show ad4 (.inl ([] : List PV)) = 0 from rfl, ax7 t ty e i ht hi a cap]; rfl, .inl rfl, hm.sub (fun k r hk => by
    unfold ae8 at hk
    by_cases h1 : id' = k
    ·simp [look, h1] at hk
    ·simpa [look, h1] using hk), .pv (.slNil _), .refl⟩
  ·cases a with
   | none => exact absurd (hnone rfl) hm0
   | some b =>
    have hb2 : ys.length * i.bytes ≤ 140737488355328 := by simpa using hbytes
    have hr := run_append_nil (P := P) w t ty e i z ht hi hzv b ys.length cap news (by rw [hsz]; exact hnl) (hnews b rfl) (by omega) (by omega) (by omega)
    have hge := grownCap_ge w ys.length 0 e
    refine grown (news.toArray ++ Builtin.zeroCells z.cells (grownCap w ys.length 0 e - ys.length)) [] (grownCap w ys.length 0 e) (by simp) .nil (by simp) (by simpa using hge) ?_
    rw [rB]; rw [show ad4 (.inl ys) = ys.length from rfl, hr]
    simp
theorem bC9 {t e ty : TypeId} {sh : Shape} {i : TypeInfo} {zp : PV} {x y : Operand} {vx vy : VA} (hnb : Mode.y = false → ap7 w0.P e = false) (ht : P.underlying t = some (.slice e)) (hsh : aa9 P e = some sh) (hi : P.info? e = some i) (hz : aC2 P e = some zp)
  (hx : opdOf x = some vx) (hy : opdOf y = some vy) (hs : aa5 (.append sh i.bytes vx vy) id0 get row = some (h, upd)) :
  Done P w0 I0 row w I ρ id0 (do pure (.value (← Builtin.append_ #[t, t] ty #[ev x, ev y]))) h upd := by
 obtain ⟨i2, d, hi2, hu2, hsz, _⟩ := ad9 hsh
 obtain rfl : i = i2 := by rw [hi] at hi2; exact Option.some.inj hi2
 obtain ⟨i3, z, sh', hi3, hzv, hsh', hzf, hzc⟩ := as9 hz
 obtain rfl : i = i3 := by rw [hi] at hi3; exact Option.some.inj hi3
 obtain rfl : sh = sh' := by rw [hsh] at hsh'; exact Option.some.inj hsh'
 have hzl : z.cells.size = sh.size := by
  have hr : RepH w I ρ (.pv zp) z := .pv (closed_rep hzc)
  have := hr.cells.length
  rw [HV.cells_pv, length_map, (PV.fits_cells hzf).1] at this
  simpa using this.symm
 simp only [aa5] at hs
 split at hs
 ·rename_i ha hb hga hgb
  split at hs
  ·rename_i id es hroom
   exact bc4 hget hm hfree hnb ht hsh hi hz hx hy hga hgb hroom hs
  rename_i hnr
  clear hnr
  simp only [oE] at hs
  obtain ⟨s, hs1, e1, he1, hs⟩ := hs
  split at hs
  ·rename_i hc
   obtain ⟨hok, hpos, hbytes, h63⟩ := hc
   simp only [oI, pJ] at hs
   obtain ⟨rfl, rfl⟩ := hs
   obtain ⟨a, cap, news, hvy, hnl, hnone, hnews, hnrep, hnfit⟩ := aZ8 hm (hget y vy hb hy hgb) he1 hok
   have h1c := hnrep.oneCell (fun p hp => by
    obtain ⟨q, hq, hp⟩ := mem_flatMap.1 hp
    exact (HV.fits_cells (hnfit q hq)).2 p hp)
   have hrx := hget x vx ha hx hga
   rw [hvy]
   have nilcase : ∀ (old : Upd) (s2 : Sum (List PV) (List HV)), aV7 s2 = [] → ev x = .slice none 0 0 →
     (∀ id x', ae8 row ((id0, some (aJ7 sh s2 e1)) :: old) id = some x' → ae8 row [(id0, some (aJ7 sh s2 e1))] id = some x') →
     Done P w0 I0 row w I ρ id0 (do pure (.value (← Builtin.append_ #[t, t] ty #[ev x, .slice a (ad4 e1) cap]))) (.osl id0 0 (ad4 s2 + ad4 e1)) ((id0, some (aJ7 sh s2 e1)) :: old) := by
    intro old s2 hs2 hvx hold
    have hc0 : ad4 s2 = 0 := by rw [← aX3, hs2]; rfl
    rw [hvx]
    by_cases hm0 : ad4 e1 = 0
    ·have he0 : aV7 e1 = [] := List.eq_nil_of_length_eq_zero (by rw [aX3]; exact hm0)
     obtain ⟨m1, m2⟩ := hm.allocNil (hfree id0 (le_refl _) (by omega)) (r := aJ7 sh s2 e1) (by rw [aZ6, hs2, he0]; rfl) (a97 _ _ _)
     refine ⟨_, .slice none 0 0, w, I, _, ?_, .inl rfl, m1.sub hold, ?_, ⟨m2.agree, m2.mono, m2.rho, fun k hk hn => m2.dom k hk fun e => hn (by subst e; omega)⟩⟩
     ·rw [hm0, rB, ax7 t ty e i ht hi a cap]; rfl
     ·rw [hc0, hm0]; exact .oslNil (by simp [put])
    ·cases a with
     | none => exact absurd (hnone rfl) hm0
     | some b =>
      have hb2 : ad4 e1 * i.bytes ≤ 140737488355328 := Nat.le_trans (mul_le_mul_right _ (by omega)) hbytes
      have hr := run_append_nil (P := P) w t ty e i z ht hi hzv b (ad4 e1) cap news (by rw [hsz]; exact hnl) (hnews b rfl) (by omega) (by omega) (by omega)
      refine Done.newDrew hm hfree (by rw [rB, hr]; rfl) ?_ (vs := news) ?_ ?_ hold ?_ hnb (a97 _ _ _) (by rw [bp5]; exact Tails.nil _ _ _ _ _ _)
      ·rw [aZ6, aZ7, hs2, List.nil_append]; exact hnfit
      ·rw [Row.flat, aZ6, hs2, List.nil_append]; exact hnrep
      ·simp
      ·intro w' I' ρ' hρ
       rw [aZ7] at hρ
       rw [hc0, zero_add]
       have hge := grownCap_ge w (ad4 e1) 0 e
       have := RepH.osl (w := w') (I := I') (off := 0) (len := ad4 e1) (cap := grownCap w (ad4 e1) 0 e) hρ (by
        simp only [Array.size_append, size_toArray, size_zeroCells, hzl, hnl, ← add_mul]
        congr 1; omega) hge
       simpa using this
   have over_id : ∀ (id : Nat) (r : Row) (k : Nat) (x' : Row), ae8 row [(id0, some r), (id, none)] k = some x' → ae8 row [(id0, some r)] k = some x' := by
    intro id r k x' hk
    unfold ae8 at hk ⊢
    by_cases h1 : id0 = k
    ·simpa [look, h1] using hk
    ·by_cases h2 : id = k
     ·simp [look, h1, h2] at hk
     ·simpa [look, h1, h2] using hk
   have rowcase : ∀ (id len : Nat) (r : Row) (s2 : Sum (List PV) (List HV)), ha = .osl id 0 len → row id = some r → r.asM = none → r.prot = 0 → r.sh = sh → len ≤ r.es.length → aV7 s2 = r.es.take len → (ad4 s2 + ad4 e1) * i.bytes ≤ 140737488355328 → ad4 s2 + ad4 e1 ≤ 9223372036854775807 →
     Done P w0 I0 row w I ρ id0 (do pure (.value (← Builtin.append_ #[t, t] ty #[ev x, .slice a (ad4 e1) cap]))) (.osl id0 0 (ad4 s2 + ad4 e1)) [(id0, some (aJ7 sh s2 e1)), (id, none)] := by
    intro id len r s2 hha hrow hrM hr00 hrsh hle hs2 hbytes h63
    subst hha
    have hc2 : ad4 s2 = len := by rw [← aX3, hs2]; simp; omega
    rcases hrx.osl_inv with ⟨g, n, sh', cap2, o, hρ, hvx, hcap2, ho⟩ | ⟨hρ, _, rfl, hvx⟩
    ·obtain ⟨l, hl, hrr⟩ := hm.rows id r hrow
     rw [hρ] at hl
     simp only [oI] at hl; subst hl
     obtain ⟨hsh2, hf, cur, ty2, vs, hg, hn, hvs, hp, _⟩ := hrr.cells hrM
     obtain rfl : sh' = sh := by rw [← hsh2]; exact hrsh
     rcases ho with ⟨rfl, hn'⟩ | ⟨_, _, hne⟩
     case inr => exact absurd rfl hne
     simp only [zero_mul, zero_add] at hvx hn'
     have hfl := Row.flat_length hf
     have hvl : vs.length = r.es.length * sh'.size := by rw [← hvs.length, Row.flat, flat_length hfl]
     have hlv : len * sh'.size ≤ vs.length := by rw [hvl]; exact mul_le_mul_right _ hle
     have hxs : RepHs w I ρ ((aV7 s2).flatMap HV.cells) (vs.take (len * sh'.size)) := by
      have h1 := hvs.take (len * sh'.size)
      rw [Row.flat, as8 hfl] at h1
      rw [hs2]; exact h1
     have hxl : (vs.take (len * sh'.size)).length = len * sh'.size := by simp; omega
     have hjf : ∀ x' ∈ (aJ7 sh' s2 e1).es, x'.fits sh' = true := by
      intro x' hx'
      rw [aZ6, mem_append] at hx'
      rcases hx' with hx' | hx'
      ·rw [hs2] at hx'; exact hf x' (List.mem_of_mem_take hx')
      ·exact hnfit x' hx'
     have hjr : RepHs w I ρ (aJ7 sh' s2 e1).flat (vs.take (len * sh'.size) ++ news) := by
      rw [Row.flat, aZ6, List.flatMap_append]; exact hxs.append hnrep
     have hjl : (vs.take (len * sh'.size) ++ news).length = (len + ad4 e1) * sh'.size := by rw [length_append, hxl, hnl, add_mul]
     rw [hvx]
     by_cases hroom : len + ad4 e1 ≤ cap2
     ·have hfit : len * i.size + news.length ≤ cur.size := by
       rw [hsz, hnl, hn, ← hn', ← add_mul]; exact mul_le_mul_right _ hroom
      have hr := aC9 (P := P) (w := w) t ty e i ht hi g len cap2 cur ty2 hg a (ad4 e1) cap news (by rw [hsz]; exact hnl) hnone hnews h1c hroom hfit
      rw [hsz] at hr hfit
      have hvc : vs.length ≤ cur.size := by have := congrArg List.length hp; simp at this; omega
      have hcl : (splice cur.toList (len * sh'.size) news).length = n := by rw [ac4 (by simpa using hfit)]; simpa using hn
      obtain ⟨m1, m2⟩ := hm.setRow hrow hρ (r := aJ7 sh' s2 e1) (cur' := (splice cur.toList (len * sh'.size) news).toArray) (vs := vs.take (len * sh'.size) ++ news) hg (by simpa using hcl) (aZ7 _ _ _) hjf hjr (by
       rw [hjl]
       have h2 : cur.toList.take (len * sh'.size) = vs.take (len * sh'.size) := by rw [← hp, List.take_take, Nat.min_eq_left hlv]
       simp only [splice, h2]
       rw [List.take_append_of_le_length (by rw [hjl]; exact le_refl _), List.take_of_length_le (by rw [hjl]; exact le_refl _)]) (a97 _ _ _) hr00 (by rw [bp5]; exact Tails.nil _ _ _ _ _ _)
      have hrow' : ae8 row [(id, some (aJ7 sh' s2 e1))] id = some (aJ7 sh' s2 e1) := by simp [ae8, look]
      obtain ⟨k1, k2⟩ := m1.rename hrow' hρ (hfree id0 (le_refl _) (by omega))
      have hov : ae8 (ae8 row [(id, some (aJ7 sh' s2 e1))]) [(id0, some (aJ7 sh' s2 e1)), (id, none)] = ae8 row [(id0, some (aJ7 sh' s2 e1)), (id, none)] := by
       funext k
       unfold ae8
       by_cases h1 : id0 = k
       ·simp [look, h1]
       ·by_cases h2 : id = k
        ·simp [look, h1, h2]
        ·simp [look, h1, h2]
      rw [hov] at k1
      refine ⟨_, .slice (some ⟨g, 0, none⟩) (len + ad4 e1) cap2, _, I, _, by rw [rB, hr]; rfl, .inl rfl, k1, ?_, ⟨fun b o hb => m2.agree b o hb, fun _ _ h => h, k2.rho, fun k hk hn => k2.dom k hk fun e => hn (by subst e; omega)⟩⟩
      rw [hc2]
      have := RepH.osl (w := w.setRow g (splice cur.toList (len * sh'.size) news).toArray) (I := I) (ρ := put ρ id0 (.blk g n sh')) (id := id0) (off := 0) (len := len + ad4 e1) (cap := cap2) (g := g) (n := n) (sh := sh') (by simp [put]) (by simpa using hn') hroom
      simpa using this
     ·have hcells : ∀ j u, (vs.take (len * sh'.size))[j]? = some u → w.cell? ((⟨g, 0, none⟩ : Addr).add j) = some u := by
       intro j u hu
       rw [ag2, zero_add]
       refine ao3 hp hg _ _ ?_
       rw [List.getElem?_take] at hu
       split at hu
       ·exact hu
       ·cases hu
      have hgf := growslice_fits (need := len + ad4 e1) (old := cap2) (bytes := i.bytes) (by omega) (by rw [← hc2]; exact hbytes)
      have hge := grownCap_ge w (len + ad4 e1) cap2 e
      have hr : (Builtin.append_ #[t, t] ty #[.slice (some ⟨g, 0, none⟩) len cap2, .slice a (ad4 e1) cap]).run P w = .ok (.slice (some ⟨w.heap.size, 0, none⟩) (len + ad4 e1) (grownCap w (len + ad4 e1) cap2 e))
        (w.drew.alloc (.cells ((vs.take (len * sh'.size)).toArray ++ news.toArray ++ Builtin.zeroCells z.cells (grownCap w (len + ad4 e1) cap2 e - (len + ad4 e1))) e)) := by
       cases a with
       | none => exact absurd (hnone rfl) (by omega)
       | some b => exact run_append_grow (P := P) w t ty e i z ht hi hzv ⟨g, 0, none⟩ len cap2 _ (by rw [hsz]; exact hxl) hcells b (ad4 e1) cap news (by rw [hsz]; exact hnl) (hnews b rfl) (by omega) (by omega) hgf
      refine Done.newDrew hm hfree (by rw [rB, hr]; rfl) (by rw [aZ7]; exact hjf) (vs := vs.take (len * sh'.size) ++ news) hjr ?_ (over_id id _) ?_ hnb (a97 _ _ _) (by rw [bp5]; exact Tails.nil _ _ _ _ _ _)
      ·simp only [Array.toList_append]
       exact take_left
      ·intro w' I' ρ' hρ'
       rw [aZ7] at hρ'
       rw [hc2]
       have := RepH.osl (w := w') (I := I') (off := 0) (len := len + ad4 e1) (cap := grownCap w (len + ad4 e1) cap2 e) hρ' (by
        simp only [Array.size_append, size_toArray, size_zeroCells, hzl, hnl, hxl, ← add_mul]
        congr 1; omega) hge
       simpa using this
    ·have hs0 : aV7 s2 = [] := by rw [hs2]; rfl
     exact nilcase [(id, none)] s2 hs0 hvx (over_id id _)
   unfold bB6 at hs1
   split at hs1
   ·simp only [oI] at hs1; subst hs1
    exact nilcase [] (.inl []) rfl hrx.nilsl_inv (fun _ _ h => h)
   ·simp only [oI] at hs1; subst hs1
    exact nilcase [] (.inl []) rfl hrx.uslNil_inv (fun _ _ h => h)
   ·rename_i id len
    split at hs1
    ·rename_i sh' es tk hrow
     split at hs1
     ·rename_i hcc
      simp only [oI] at hs1; subst hs1
      exact rowcase id len _ (.inl (es.take len)) rfl hrow rfl rfl hcc.1 (by simpa [Row.es] using hcc.2) (by simp [aV7, Row.es]) hbytes h63
     ·cases hs1
    ·rename_i sh' es hrow
     split at hs1
     ·rename_i hcc
      simp only [oI] at hs1; subst hs1
      exact rowcase id len _ (.inr (es.take len)) rfl hrow rfl rfl hcc.1 (by simpa [Row.es] using hcc.2) (by simp [aV7, Row.es]) hbytes h63
     ·cases hs1
    ·cases hs1
   ·cases hs1
  ·cases hs
 ·cases hs
theorem bj1 {t e : TypeId} {sh : Shape} {i : TypeInfo} {zp : PV} {x y : Operand} {vx vy : VA} (hnb : Mode.y = false → ap7 w0.P e = false) (ht : P.underlying t = some (.slice e)) (hsh : aa9 P e = some sh) (hi : P.info? e = some i) (hz : aC2 P e = some zp)
  (hx : opdOf x = some vx) (hy : opdOf y = some vy) (hs : aa5 (.makeSlice sh i.bytes zp vx vy) id0 get row = some (h, upd)) :
  Done P w0 I0 row w I ρ id0 (do pure (.value (← Instr.makeSlice t (ev x) (ev y)))) h upd := by
 obtain ⟨i2, d, hi2, hu2, hsz, _⟩ := ad9 hsh
 obtain rfl : i = i2 := by rw [hi] at hi2; exact Option.some.inj hi2
 obtain ⟨i3, z, sh', hi3, hzv, hsh', hzf, hzc⟩ := as9 hz
 obtain rfl : i = i3 := by rw [hi] at hi3; exact Option.some.inj hi3
 obtain rfl : sh = sh' := by rw [hsh] at hsh'; exact Option.some.inj hsh'
 have hzr : RepH w I ρ (.pv zp) z := .pv (closed_rep hzc)
 have hzl : z.cells.toList.length = sh.size := by
  have := hzr.cells.length
  rw [HV.cells_pv, length_map, (PV.fits_cells hzf).1] at this
  exact this.symm
 simp only [aa5] at hs
 split at hs
 ·rename_i a b hga hgb
  split at hs
  ·rename_i hc
   obtain ⟨h0, hab, hby, h63, hf, hpos⟩ := hc
   simp only [oI, pJ] at hs
   obtain ⟨rfl, rfl⟩ := hs
   rw [ao2 hget hx hga, ao2 hget hy hgb]
   have hr := run_make (P := P) w t e i z ht hi hzv .i64 .i64 a b h0 hab (by rw [Int.mul_comm]; exact hby) h63
   have hcells : madeCells z.cells (b.toNat * i.size) = (replicate b.toNat z.cells.toList).flatten.toArray := by
    have := al2 (n := b.toNat) hzl hpos
    have hzl' : z.cells.size = sh.size := by simpa using hzl
    rw [← this]
    unfold madeCells
    rw [hsz, hzl']
   refine Done.new hm hfree (r := .p sh (replicate a.toNat (aV2 zp)) (aM7 zp)) (cur := madeCells z.cells (b.toNat * i.size)) (t := e) (vs := (replicate a.toNat z.cells.toList).flatten) (by rw [rB, hr]; rfl) ?_ ?_ ?_ ?_ hnb (by intro T e bs h; cases h) (bu7 (closed_rep hzc (w := w) (I := I)) hf _)
   ·intro x' hx'
    simp only [Row.es, List.map_replicate] at hx'
    rw [List.eq_of_mem_replicate hx', HV.fits_pv]; exact a41 hf
   ·have := RepHs.replicate (RepH.pv (ρ := ρ) (bu5 (closed_rep (w := w) (I := I) hzc))).cells a.toNat
    simpa [Row.flat, Row.es] using this
   ·rw [hcells, show b.toNat = a.toNat + (b.toNat - a.toNat) by omega, ← List.replicate_append_replicate, List.flatten_append]
    exact take_left
   ·intro w' I' ρ' hρ
    have := RepH.osl (w := w') (I := I') (off := 0) (len := a.toNat) (cap := b.toNat) hρ (by rw [size_madeCells, hsz]; simp [Row.sh]) (by omega)
    simpa using this
  ·cases hs
 ·cases hs
theorem bY4 {t tn e ty : TypeId} {kn : IntKind} {sh : Shape} {i : TypeInfo} {zp : PV} {x y : Operand} {vx vy : VA} (hnb : Mode.y = false → ap7 w0.P e = false) (ht : P.underlying t = some (.slice e)) (htn : P.underlying tn = some (.int kn)) (hsh : aa9 P e = some sh) (hi : P.info? e = some i) (hz : aC2 P e = some zp)
  (hx : opdOf x = some vx) (hy : opdOf y = some vy) (hs : aa5 (.appZ sh i.bytes zp vx vy) id0 get row = some (h, upd)) :
  Done P w0 I0 row w I ρ id0 (do pure (.value (← Builtin.append_ #[t, tn] ty #[ev x, ev y]))) h upd := by
 obtain ⟨i2, d, hi2, hu2, hsz, _⟩ := ad9 hsh
 obtain rfl : i = i2 := by rw [hi] at hi2; exact Option.some.inj hi2
 obtain ⟨i3, z, sh', hi3, hzv, hsh', hzf, hzc⟩ := as9 hz
 obtain rfl : i = i3 := by rw [hi] at hi3; exact Option.some.inj hi3
 obtain rfl : sh = sh' := by rw [hsh] at hsh'; exact Option.some.inj hsh'
 have hzr : RepH w I ρ (.pv zp) z := .pv (closed_rep hzc)
 have hzl : z.cells.toList.length = sh.size := by
  have := hzr.cells.length
  rw [HV.cells_pv, length_map, (PV.fits_cells hzf).1] at this
  exact this.symm
 have hzl' : z.cells.size = sh.size := by simpa using hzl
 simp only [aa5] at hs
 split at hs
 ·rename_i a hga hgb
  split at hs
  ·rename_i hc
   obtain ⟨h0, hby, h63, hf, hpos⟩ := hc
   simp only [oI, pJ] at hs
   obtain ⟨rfl, rfl⟩ := hs
   obtain ⟨n, rfl⟩ : ∃ n : Nat, a = (n : Int) := ⟨a.toNat, by omega⟩
   rw [(hget x vx _ hx hga).nilsl_inv, ao2 hget hy hgb]
   have hby' : n * i.bytes ≤ 281474976710656 := by
    have : ((n * i.bytes : Nat) : Int) ≤ 140737488355328 := by rw [Int.natCast_mul]; exact hby
    omega
   have hr := Go.Lib.run_append_nil_zeros (P := P) w t tn ty e i z .i64 kn ht htn hi hzv n (by omega) (by omega) h63 hby'
   have hcells : ∀ m, (Builtin.zeroCells z.cells m).toList = (replicate m z.cells.toList).flatten := by
    intro m
    have := al2 (n := m) hzl hpos
    simp only [Builtin.zeroCells, hzl']
    have e := congrArg Array.toList this
    simpa using e
   refine Done.newDrew hm hfree (r := .p sh (replicate n (aV2 zp)) (aM7 zp)) (old := []) (t := e) (vs := (replicate n z.cells.toList).flatten) (by rw [rB, hr]; rfl) ?_ ?_ ?_ (fun _ _ h => h) ?_ hnb (by intro T e bs h; cases h) (bu7 (closed_rep hzc (w := w) (I := I)) hf _)
   ·intro x' hx'
    simp only [Row.es, List.map_replicate] at hx'
    rw [List.eq_of_mem_replicate hx', HV.fits_pv]; exact a41 hf
   ·have := RepHs.replicate (RepH.pv (ρ := ρ) (bu5 (closed_rep (w := w) (I := I) hzc))).cells n
    simpa [Row.flat, Row.es] using this
   ·rw [Array.toList_append, hcells]
    exact take_left
   ·intro w' I' ρ' hρ
    have hge := grownCap_ge w n 0 e
    have := RepH.osl (w := w') (I := I') (off := 0) (len := n) (cap := grownCap w n 0 e) hρ (by
     simp only [Array.size_append, size_zeroCells, hzl', Row.sh, ← add_mul]
     congr 1; omega) hge
    simpa using this
  ·cases hs
 ·cases hs
omit hfree in
theorem bO9 {t e ty : TypeId} {sh : Shape} {x : Operand} {vx : VA} {zp : PV} (ht : P.underlying t = some (.slice e)) (hsh : aa9 P e = some sh) (hz : aC2 P e = some zp) (hx : opdOf x = some vx)
  (hs : aa5 (.clear sh vx) id0 get row = some (h, upd)) : Done P w0 I0 row w I ρ id0 (do pure (.value (← Builtin.clear_ #[t] ty #[ev x]))) h upd := by
 obtain ⟨i3, z, sh', hi3, hzv, hsh', hzf, hzc⟩ := as9 hz
 obtain rfl : sh = sh' := by rw [hsh] at hsh'; exact Option.some.inj hsh'
 have hzr : RepH w I ρ (.pv zp) z := .pv (closed_rep hzc)
 have hzl : z.cells.toList.length = sh.size := by
  have := hzr.cells.length
  rw [HV.cells_pv, length_map, (PV.fits_cells hzf).1] at this
  exact this.symm
 simp only [aa5] at hs
 split at hs
 ·rename_i hsx
  simp only [oI, pJ] at hs
  obtain ⟨rfl, rfl⟩ := hs
  rw [(hget x vx _ hx hsx).nilsl_inv]
  refine Done.quiet hm (v := .tuple #[]) ?_ (.tup .nil)
  simp [Builtin.clear_, run_underlying ht]
 ·rename_i id off len hsx
  split at hs
  ·rename_i sh' es tk hrow
   split at hs
   ·rename_i hc
    obtain ⟨rfl, hpos, hle⟩ := hc
    simp only [oI, pJ] at hs
    obtain ⟨rfl, rfl⟩ := hs
    obtain ⟨l, hl, hrr⟩ := hm.rows id _ hrow
    have quiet : (Builtin.clear_ #[t] ty #[ev x]).run P w = .ok (.tuple #[]) w → Done P w0 I0 row w I ρ id0 (do pure (.value (← Builtin.clear_ #[t] ty #[ev x]))) (.tup []) [(id, some (.p sh' (es.take off)))] := by
     intro hrun
     refine ⟨_, .tuple #[], w, I, ρ, by rw [rB, hrun]; rfl, .inl rfl, ?_, .tup .nil, .refl⟩
     exact hm.shorter hrow off rfl
    rcases (hget x vx _ hx hsx).osl_inv with ⟨g, n, sh2, cap, o, hρ, hv, hcap, ho⟩ | ⟨hρ, rfl, rfl, hv⟩
    ·rw [hρ] at hl
     simp only [oI] at hl; subst hl
     have hrr' := hrr
     obtain ⟨hsh2, hf, cur, ty2, vs, hg, hn, hvs, hp, _⟩ := hrr
     obtain rfl : sh' = sh2 := hsh2
     by_cases hl0 : len = 0
     ·subst hl0
      exact quiet (by rw [hv]; simp [Builtin.clear_, run_underlying ht])
     rcases ho with ⟨rfl, hn'⟩ | ⟨h0, _⟩
     case inr => exact absurd h0 hl0
     have hzcells : (Builtin.zeroCells z.cells len).toList = (replicate len z.cells.toList).flatten := by
      have h1 := al2 (n := len) hzl hpos
      have hzl' : z.cells.size = sh'.size := by simpa using hzl
      have : Builtin.zeroCells z.cells len = (replicate len z.cells.toList).flatten.toArray := by
       rw [← h1]; unfold Builtin.zeroCells; rw [hzl']
      rw [this]
     have hone : ∀ v ∈ (replicate len z.cells.toList).flatten, v.oneCell' = true := by
      have h1 := (RepHs.replicate hzr.cells len).oneCell (fun p hp => by
       obtain ⟨q, hq, hp⟩ := mem_flatMap.1 hp
       rw [List.eq_of_mem_replicate hq] at hp
       exact (HV.fits_cells (by rw [HV.fits_pv]; exact hzf)).2 p hp)
      exact h1
     have hzlen : ((replicate len z.cells.toList).flatten).length = len * sh'.size := by simp [hzl]
     have hfit : off * sh'.size + 0 + ((replicate len z.cells.toList).flatten).length ≤ cur.size := by
      rw [hzlen, hn, ← hn', add_zero, ← add_mul]; exact mul_le_mul_right _ (by omega)
     have hst := run_storeCells_at P g (off * sh'.size) ty2 _ 0 cur w hg hfit hone
     simp only [add_zero] at hst
     have hfl := Row.flat_length hf
     have hvl : vs.length = es.length * sh'.size := by rw [← hvs.length, Row.flat, flat_length hfl]; simp [Row.es]
     have hlv : off * sh'.size ≤ vs.length := by rw [hvl]; exact mul_le_mul_right _ hle
     obtain ⟨m1, m2⟩ := hm.setRow hrow hρ (r := .p sh' (es.take off)) (cur' := (cur.toList.take (off * sh'.size) ++ (replicate len z.cells.toList).flatten ++ cur.toList.drop (off * sh'.size + ((replicate len z.cells.toList).flatten).length)).toArray)
      (vs := vs.take (off * sh'.size)) hg (by
       simp only [size_toArray, length_append, List.length_take, List.length_drop, Array.length_toList]
       omega) rfl (fun y hy => hf y (by
        simp only [Row.es, mem_map] at hy ⊢
        obtain ⟨p, hp', rfl⟩ := hy
        exact ⟨p, List.mem_of_mem_take hp', rfl⟩)) (by
       have h1 := hvs.take (off * sh'.size)
       rw [Row.flat, as8 hfl] at h1
       simpa [Row.flat, Row.es, map_take] using h1) (by
       have h2 : cur.toList.take (off * sh'.size) = vs.take (off * sh'.size) := by rw [← hp, List.take_take, Nat.min_eq_left hlv]
       have h3 : (vs.take (off * sh'.size)).length = off * sh'.size := by simp; omega
       rw [List.append_assoc, h2, List.take_append_of_le_length (by omega), List.take_of_length_le (by omega)]) (by intro T e bs h; cases h) rfl (Tails.nil _ _ _ _ _ _)
     refine ⟨_, .tuple #[], _, I, ρ, ?_, .inl rfl, m1, .tup .nil, ⟨m2.agree, m2.mono, m2.rho, fun k hk _ => hk⟩⟩
     rw [hv]
     cases len with
     | zero => exact absurd rfl hl0
     | succ len => simp [Builtin.clear_, run_underlying ht, zeroValue, typeInfo, hi3, hzv, hzcells, hst]
    ·exact quiet (by rw [hv]; simp [Builtin.clear_, run_underlying ht])
   ·cases hs
  ·cases hs
 ·cases hs
end
end Go.Vm
