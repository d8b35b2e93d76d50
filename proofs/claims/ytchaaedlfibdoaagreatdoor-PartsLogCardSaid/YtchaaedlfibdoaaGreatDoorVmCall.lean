import Derived.Test.YtchaaedlfibdoaaGreatDoorVmMap
open List (flatMap_cons flatMap_map mapM_cons map_flatMap map_take mem_append mem_map mem_singleton nodup_append)
open Nat (le_refl le_trans lt_of_lt_of_le zero_add)
open Option (bind_eq_bind isSome_iff_exists pure_def)
open Prod (ext)
namespace Go.Vm
open Go.RowKit (Below)
def FS (I : Prot) (Fa : List Nat) (b : Nat) : Prop := b ∈ Fa ∨ I.n b ≠ none
structure CallOK (P : Program) (f : FuncId) (ds : List PV) (r : PV) (fl : Bool) : Prop where
 enter : ∀ (args : Array Value) (w : World), (callFunc f args).run P w = .ok (.enter f args) w
 calls : ∀ (w : World) (I : Prot) (vs : Array Value) (Fa : List Nat), GlobOK P w (FS I Fa) → (∀ b o, I b o → b < w.heap.size) → RepPs w I ds vs.toList Fa → Fa.Nodup → (∀ b ∈ Fa, b < w.heap.size ∧ (∀ o, ¬ I b o) ∧ nb P w b) →
  (∀ b g, I.n b = some g → b < w.heap.size ∧ nb P w b ∧ b ∉ Fa) →
  Calls P f vs w fun e w' => ∃ v I' F, e = .returned v ∧ Kept (FS I Fa) w w' ∧ Agree w w' I ∧ (∀ b, FS I Fa b → nb P w' b) ∧
   (∀ b o, I' b o → b < w'.heap.size ∧ (I b o ∨ w.heap.size ≤ b ∨ FS I Fa b) ∧ (w.heap.size ≤ b ∨ FS I Fa b → nb P w' b)) ∧ (fl = true → ∀ b o, I' b o → w.heap.size ≤ b ∨ FS I Fa b) ∧
   RepP w' I' r v F ∧ F.Nodup ∧ (∀ b ∈ F, (w.heap.size ≤ b ∨ FS I Fa b) ∧ b < w'.heap.size ∧ (∀ o, ¬ I' b o ∧ ¬ I b o) ∧ nb P w' b) ∧
   (∀ b g, I'.n b = some g → (w.heap.size ≤ b ∨ FS I Fa b) ∧ b < w'.heap.size ∧ nb P w' b ∧ b ∉ F ∧ ∀ o, I b o → I' b o)
def VCall (P : Program) (f : FuncId) (ds : List PV) (K : PV → Bool → Prop) : Prop := ∃ r fl, CallOK P f ds r fl ∧ K r fl
def PV.plainC : PV → Bool
 | .agg _ => false
 | .tup _ => false
 | .usl _ _ => false
 | .dsl _ _ _ => false
 | .fn _ _ => false
 | _ => true
def PV.imp : PV → Bool
 | .fn _ caps => caps.all PV.plainC
 | p => p.one
theorem PV.imp_spec {p : PV} (h : p.imp = true) : p.one = true ∧ ∀ f cs, p = .fn f cs → cs.all PV.plainC = true := by
 cases p with
 | fn f cs => exact ⟨rfl, fun f' cs' e => by cases e; exact h⟩
 | _ => exact ⟨h, fun f cs e => by cases e⟩
theorem RepP.plainF {w : World} {I : Prot} {p : PV} {v : Value} {F : List Nat} (h : RepP w I p v F) (hp : p.plainC = true) : F = [] := by
 cases h <;> first | rfl | (simp [PV.plainC] at hp)
theorem RepPs.plainF {w : World} {I : Prot} : ∀ {ps : List PV} {vs : List Value} {F : List Nat}, RepPs w I ps vs F → ps.all PV.plainC = true → F = []
 | _, _, _, .nil, _ => rfl
 | _, _, _, .cons h r, hp => by
  simp only [List.all_cons, bA] at hp
  rw [h.plainF hp.1, r.plainF hp.2]; rfl
def aq9 : PV → Bool
 | .agg cs => cs.all PV.imp
 | p => p.imp
def au5 : PV → Bool
 | .tup vs => vs.all aq9
 | p => aq9 p
theorem Mem.called [Mode] {w0 : Base} {I0 : Prot} {row row' : ad1} {w : World} {I : Prot} {ρ : Nat → Option Loc} (h : Mem w0 I0 row w I ρ) {w' : World} {I' : Prot} {Fa : Nat → Prop} (hs : ∀ id r, row' id = some r → row id = some r)
    (hFr : ∀ id r g n sh, row' id = some r → ρ id = some (.blk g n sh) → ¬ Fa g) (hFa : ∀ b, Fa b → w0.New b ∧ b < w.heap.size ∧ nb w0.P w b) (hb : Kept Fa w w') (hag : Agree w w' I) (hnF : ∀ b, Fa b → nb w0.P w' b)
    (hI : ∀ b o, I' b o → b < w'.heap.size ∧ (I b o ∨ w.heap.size ≤ b ∨ Fa b) ∧ (w.heap.size ≤ b ∨ Fa b → nb w0.P w' b)) (hi : ∀ b o, I b o → I' b o)
    (hn : ∀ b g, I'.n b = some g → w0.New b ∧ b < w'.heap.size ∧ nb w0.P w' b ∧ ∀ id r n sh, row' id = some r → ρ id ≠ some (.blk b n sh))
    (hK : ∀ b g, I.n b = some g → (∃ id r n sh, row' id = some r ∧ ρ id = some (.blk g n sh)) → ¬ Fa b ∧ I'.n b = some g) : Mem w0 I0 row' w' I' ρ ∧ ∀ ids, Grow w I ρ w' I' ρ ids := by
  have hold : ∀ b, b < w.heap.size → ¬ Fa b → w'.heap[b]? = w.heap[b]? := fun b h1 h2 => hb.block b h1 h2
  have hnb : ∀ b, b < w.heap.size → nb w0.P w b → nb w0.P w' b := fun b h1 h2 => by
    by_cases hf : Fa b
    · exact hnF b hf
    · exact h2.same (hold b h1 hf)
  refine ⟨{ bel := h.bel.trans hb fun g hg => (hFa g hg).1, agr := h.agr.trans hag h.i0, i0 := fun b o hb' => hi b o (h.i0 b o hb'), lt := fun b o hb' => (hI b o hb').1, new := fun b o hb' => ?_, nn := hn,
            tyF := fun b hf => ⟨(h.tyF b hf).1, hnb b (lt_of_lt_of_le (h.tyF b hf).1 h.bel.size) (h.tyF b hf).2⟩, rows := ?_, own := ?_,
            inj := fun id id' r r' g n n' sh sh' hr hr' => h.inj id id' r r' g n n' sh sh' (hs id r hr) (hs id' r' hr'), tyI := ?_, tyR := ?_, bld := ?_, one := fun id id' T e bs T' e' bs' h1 h2 => h.one id id' T e bs T' e' bs' (hs _ _ h1) (hs _ _ h2), glob := h.glob, tab := h.tab },
    fun ids => ⟨hag, hi, fun _ _ h => h, fun _ h _ => h⟩⟩
  · rcases (hI b o hb').2.1 with hh | hh | hh
    · exact h.new b o hh
    · exact .inr (.inl (le_trans h.bel.size hh))
    · exact .inr (hFa b hh).1
  · intro id r hr
    obtain ⟨l, h1, h2⟩ := h.rows id r (hs id r hr)
    refine ⟨l, h1, h2.mono hag hi (fun _ _ h => h) fun g n sh hl => ?_⟩
    subst hl
    refine ⟨hold g (h.own id r g n sh (hs id r hr) h1).2.1 (hFr id r g n sh hr h1), fun _ b hb' => ?_⟩
    obtain ⟨k1, k2⟩ := hK b g hb' ⟨id, r, n, sh, hr, h1⟩
    have hlt := (h.nn b g hb').2.1
    refine ⟨k2, hold b hlt k1, fun o ho => ?_⟩
    rcases (hI b o ho).2.1 with hh | hh | hh
    · exact hh
    · omega
    · exact (k1 hh).elim
  · intro id r g n sh hr hρ
    obtain ⟨o1, o2, o3⟩ := h.own id r g n sh (hs id r hr) hρ
    refine ⟨o1, lt_of_lt_of_le o2 hb.size, fun o ho hh => ?_⟩
    rcases (hI g o hh).2.1 with hh | hh | hh
    · exact o3 o ho hh
    · omega
    · exact hFr id r g n sh hr hρ hh
  · intro b o hb' hnw
    rcases (hI b o hb').2.1 with hh | hh | hh
    · exact fun hy => hnb b (h.lt b o hh) (h.tyI b o hh hnw hy)
    · exact fun _ => (hI b o hb').2.2 (.inl hh)
    · exact fun _ => hnF b hh
  · intro id r g n sh hr hρ
    exact (h.tyR id r g n sh (hs id r hr) hρ).same (hold g (h.own id r g n sh (hs id r hr) hρ).2.1 (hFr id r g n sh hr hρ))
  · intro id T e bs hr
    obtain ⟨g, n, sh, q1, q2, q3⟩ := h.bld id T e bs (hs id _ hr)
    refine ⟨g, n, sh, q1, aI6 q2 (hold g (h.own id _ g n sh (hs id _ hr) q1).2.1 (hFr id _ g n sh hr q1)) (fun g2 c fz _ hg2 => hold g2 (gA.1 hg2).1 fun hm => ?_), q3⟩
    have := (hFa g2 hm).2.2 c e fz hg2
    rw [q3.1] at this; cases this
theorem Mem.adopt [Mode] {w0 : Base} {I0 : Prot} {row : ad1} {w : World} {I : Prot} {ρ : Nat → Option Loc} (h : Mem w0 I0 row w I ρ) {id g : Nat} (hid : ρ id = none)
  {r : Row} {cur : Array Value} {t : TypeId} {vs : List Value} (hg : w.heap[g]? = some (.cells cur t (0, 0))) (hf : ∀ e ∈ r.es, e.fits r.sh = true) (hr : RepHs w I ρ r.flat vs) (hp : cur.toList.take vs.length = vs)
  (h1 : w0.New g) (h2 : (∀ o, ¬ I g o) ∧ I.n g = none) (h3 : ∀ k x n sh, row k = some x → ρ k = some (.blk g n sh) → False) (h4 : nb w0.P w g) (hT : Tails w I g r.tk r.sh r.pes vs) (hB : ∀ T e bs, r ≠ .b T e bs := by intro T e bs h; cases h) (hM : r.asM = none := by first | rfl | assumption) :
  Mem w0 I0 (ae8 row [(id, some r)]) w I (put ρ id (.blk g cur.size r.sh)) ∧ Grow w I ρ w I (put ρ id (.blk g cur.size r.sh)) (fun k => k = id) := by
 have hmono := aS8 (l := .blk g cur.size r.sh) hid
 have hlt : g < w.heap.size := (gA.1 hg).1
 have hlive : ∀ k x, ae8 row [(id, some r)] k = some x → (k = id ∧ x = r) ∨ (k ≠ id ∧ row k = some x) := by
  intro k x hx
  unfold ae8 look at hx
  by_cases hk : id = k
  ·simp [hk] at hx; exact .inl ⟨hk.symm, hx.symm⟩
  ·simp [hk, look] at hx; exact .inr ⟨Ne.symm hk, hx⟩
 refine ⟨{ bel := h.bel, agr := h.agr, i0 := h.i0, lt := h.lt, new := h.new, tyF := h.tyF, nn := ?_, rows := ?_, own := ?_, inj := ?_, tyI := h.tyI, tyR := ?_, bld := ?_, one := ?_, glob := h.glob, tab := h.tab },
  ⟨fun _ _ _ => rfl, fun _ _ h => h, hmono, fun k hk hne => by simp [put, hne, hk]⟩⟩
 ·intro b k hb
  obtain ⟨n1, n2, n3, n4⟩ := h.nn b k hb
  refine ⟨n1, n2, n3, fun k' x n sh hx hk => ?_⟩
  rcases hlive k' x hx with ⟨rfl, rfl⟩ | ⟨hne, hx⟩
  ·simp [put] at hk
   obtain ⟨rfl, _, _⟩ := hk
   rw [h2.2] at hb; cases hb
  ·exact n4 k' x n sh hx (by simpa [put, hne] using hk)
 ·intro k x hx
  rcases hlive k x hx with ⟨rfl, rfl⟩ | ⟨hk, hx⟩
  ·exact ⟨.blk g cur.size x.sh, by simp [put], .of_cells hM ⟨rfl, hf, cur, t, vs, hg, rfl, hr.mono (fun _ _ _ => rfl) (fun _ _ h => h) hmono, hp, hT⟩⟩
  ·obtain ⟨l, h1, h2⟩ := h.rows k x hx
   exact ⟨l, hmono k l h1, h2.mono (fun _ _ _ => rfl) (fun _ _ h => h) hmono fun _ _ _ _ => ⟨rfl, fun _ => NK.refl _ _ _⟩⟩
 ·intro k x g' n sh hx hk
  rcases hlive k x hx with ⟨rfl, rfl⟩ | ⟨hne, hx⟩
  ·simp [put] at hk
   obtain ⟨rfl, _, _⟩ := hk
   exact ⟨h1, hlt, fun o _ => h2.1 o⟩
  ·exact h.own k x g' n sh hx (by simpa [put, hne] using hk)
 ·intro k k' x x' g' n n' sh sh' hx hx' hk hk'
  rcases hlive k x hx with ⟨rfl, rfl⟩ | ⟨hne, hx⟩ <;> rcases hlive k' x' hx' with ⟨rfl, rfl⟩ | ⟨hne', hx'⟩
  ·rfl
  ·simp [put] at hk
   obtain ⟨rfl, _, _⟩ := hk
   exact (h3 k' x' n' sh' hx' (by simpa [put, hne'] using hk')).elim
  ·simp [put] at hk'
   obtain ⟨rfl, _, _⟩ := hk'
   exact (h3 k x n sh (by assumption) (by simpa [put, hne] using hk)).elim
  ·exact h.inj k k' x x' g' n n' sh sh' hx hx' (by simpa [put, hne] using hk) (by simpa [put, hne'] using hk')
 ·intro k x g' n sh hx hk
  rcases hlive k x hx with ⟨rfl, rfl⟩ | ⟨hne, hx⟩
  ·simp [put] at hk
   obtain ⟨rfl, _, _⟩ := hk
   exact fun _ => h4
  ·exact h.tyR k x g' n sh hx (by simpa [put, hne] using hk)
 ·intro k T e bs hx
  rcases hlive k _ hx with ⟨_, e1⟩ | ⟨hne, hx⟩
  ·exact (hB T e bs e1.symm).elim
  ·obtain ⟨g', n, sh, q1, q2, q3⟩ := h.bld k T e bs hx
   exact ⟨g', n, sh, hmono _ _ q1, q2, q3⟩
 ·intro k k' T e bs T' e' bs' hx hx'
  rcases hlive k _ hx with ⟨_, e1⟩ | ⟨_, hx⟩
  ·exact (hB T e bs e1.symm).elim
  ·rcases hlive k' _ hx' with ⟨_, e1⟩ | ⟨_, hx'⟩
   ·exact (hB T' e' bs' e1.symm).elim
   ·exact h.one k k' T e bs T' e' bs' hx hx'
theorem RepP.oneF {w : World} {I : Prot} {p : PV} {v : Value} {F : List Nat} (h : RepP w I p v F) (ho : p.one = true) (hu : ∀ sh es, p ≠ .usl sh es) (hd : ∀ sh es cs, p ≠ .dsl sh es cs) (hf : ∀ f cs, p = .fn f cs → cs.all PV.plainC = true) : F = [] := by
 cases h with
 | agg _ => simp [PV.one] at ho
 | tup _ => simp [PV.one] at ho
 | usl _ _ _ _ _ _ => exact absurd rfl (hu _ _)
 | dsl _ _ _ _ _ _ _ => exact absurd rfl (hd _ _ _)
 | fn _ h => exact h.plainF (hf _ _ rfl)
 | _ => rfl
section
variable {w0 : Base} {I0 : Prot} {w : World} {I : Prot}
structure bd2 (w0 : Base) (row : ad1) (w : World) (I : Prot) (ρ : Nat → Option Loc) (F : List Nat) : Prop where
 lo : ∀ b ∈ F, w0.New b
 notI : ∀ b ∈ F, (∀ o, ¬ I b o) ∧ I.n b = none
 free : ∀ b ∈ F, ∀ k x n sh, row k = some x → ρ k = some (.blk b n sh) → False
 ty : ∀ b ∈ F, nb w0.P w b
theorem aw8 {α : Type} (u v : List (Nat × α)) (k : Nat) : look (u ++ v) k = (match look u k with | some x => some x | none => look v k) := by
 induction u with
 | nil => rfl
 | cons p u ih =>
  simp only [List.cons_append, look]
  split
  ·rfl
  ·exact ih
theorem aE0 (id : Nat) (p : PV) : id ≤ (al4 id p).2.2 := by cases p <;> simp [al4]
theorem aT0 {imp : Nat → PV → HV × Upd × Nat} (hi : ∀ id p, id ≤ (imp id p).2.2) : ∀ (id : Nat) (ps : List PV), id ≤ (ag5 imp id ps).2.2
 | _, [] => le_refl _
 | id, p :: ps => le_trans (hi id p) (aT0 hi _ ps)
theorem bD8 (row : ad1) (u v : Upd) (hd : ∀ k, (look u k).isSome = true → look v k = none) : ae8 (ae8 row u) v = ae8 row (u ++ v) := by
 funext k
 unfold ae8
 rw [aw8]
 cases hu : look u k with
 | none => rfl
 | some x => simp [hd k (by simp [hu])]
def cn5 (u : Upd) (a b : Nat) : Prop := ∀ k, (look u k).isSome = true → a ≤ k ∧ k < b
def bY9 [Mode] (w0 : Base) (I0 : Prot) (w : World) (I : Prot) (imp : Nat → PV → HV × Upd × Nat) (p : PV) : Prop :=
 ∀ {row : ad1} {ρ : Nat → Option Loc} {v : Value} {F : List Nat} (id : Nat), Mem w0 I0 row w I ρ → RepP w I p v F → bd2 w0 row w I ρ F → F.Nodup → (∀ k, id ≤ k → k < (imp id p).2.2 → ρ k = none) →
  ∃ ρ', Mem w0 I0 (ae8 row (imp id p).2.1) w I ρ' ∧ Grow w I ρ w I ρ' (fun k => id ≤ k ∧ k < (imp id p).2.2) ∧ RepH w I ρ' (imp id p).1 v ∧ id ≤ (imp id p).2.2 ∧
   cn5 (imp id p).2.1 id (imp id p).2.2 ∧ (∀ G, bd2 w0 row w I ρ G → (∀ b ∈ G, b ∉ F) → bd2 w0 (ae8 row (imp id p).2.1) w I ρ' G)
theorem bl8 [Mode] {p : PV} {sh : Shape} {es : List PV} {tk : List (Nat × Option Nat)} (hic : ∀ id, al4 id p = (.osl id 0 es.length, [(id, some (.p sh es tk))], id + 1))
  (hp : ∀ {v : Value} {F : List Nat}, RepP w I p v F → (v = .slice none 0 0 ∧ es = [] ∧ F = []) ∨ ∃ vs g cap cur e, v = .slice (some ⟨g, 0, none⟩) es.length cap ∧ F = [g] ∧ (∀ e ∈ es, e.fits sh = true) ∧ RepPs w I (es.flatMap PV.cells) vs [] ∧
   w.heap[g]? = some (.cells cur e (0, 0)) ∧ es.length ≤ cap ∧ cur.size = cap * sh.size ∧ cur.toList.take vs.length = vs ∧ Tails w I g tk sh es vs) : bY9 w0 I0 w I al4 p := by
 intro row ρ v F id hm hr hF _ hfree
 rw [hic] at hfree ⊢
 simp only at hfree ⊢
 have hupd : cn5 [(id, some (Row.p sh es tk))] id (id + 1) := by
  intro k hk
  simp only [look] at hk
  split at hk
  ·omega
  ·cases hk
 rcases hp hr with ⟨rfl, rfl, rfl⟩ | ⟨vs, g, cap, cur, e, rfl, rfl, hfit, h, hg, hcap, hcur, hpre, hT⟩
 ·obtain ⟨m1, m2⟩ := hm.allocNil (hfree id (le_refl _) (by omega)) (r := .p sh [] tk) rfl
  refine ⟨_, m1, ⟨m2.agree, m2.mono, m2.rho, fun k hk hn => m2.dom k hk fun e => hn (by subst e; omega)⟩, .oslNil (by simp [put]), by omega, hupd, fun G hG hd => ⟨hG.lo, hG.notI, fun b hb k x n sh' hx hk => ?_, hG.ty⟩⟩
  by_cases hkid : k = id
  ·subst hkid; simp [put] at hk
  ·refine hG.free b hb k x n sh' ?_ (by simpa [put, hkid] using hk)
   unfold ae8 at hx
   simpa [look, Ne.symm hkid] using hx
 ·have hrep : RepHs w I ρ (Row.flat (.p sh es tk)) vs := by
   have := h.toH (ρ := ρ) rfl
   simpa [Row.flat, Row.es, flatMap_map, HV.cells_pv, map_flatMap] using this
  obtain ⟨m1, m2⟩ := hm.adopt (hfree id (le_refl _) (by omega)) (r := .p sh es tk) hg (by
    intro x hx
    simp only [Row.es, mem_map] at hx
    obtain ⟨q, hq, rfl⟩ := hx
    rw [HV.fits_pv]; exact hfit q hq) hrep hpre (hF.lo g (by simp)) (hF.notI g (by simp)) (hF.free g (by simp)) (hF.ty g (by simp)) hT
  refine ⟨_, m1, ⟨m2.agree, m2.mono, m2.rho, fun k hk hn => m2.dom k hk fun e => hn (by subst e; omega)⟩, ?_, by omega, hupd, fun G hG hd => ⟨hG.lo, hG.notI, fun b hb k x n sh' hx hk => ?_, hG.ty⟩⟩
  ·have := RepH.osl (w := w) (I := I) (ρ := put ρ id (.blk g cur.size (Row.sh (.p sh es tk)))) (id := id) (off := 0) (len := es.length) (cap := cap) (g := g) (n := cur.size) (sh := sh) (by simp [put, Row.sh]) (by rw [hcur]; simp) hcap
   simpa using this
  ·by_cases hkid : k = id
   ·subst hkid
    simp [put] at hk
    exact hd b hb (by simp [hk.1])
   ·refine hG.free b hb k x n sh' ?_ (by simpa [put, hkid] using hk)
    unfold ae8 at hx
    simpa [look, Ne.symm hkid] using hx
theorem aX4 [Mode] {p : PV} (hi : p.imp = true) : bY9 w0 I0 w I al4 p := by
 obtain ⟨ho, hff⟩ := PV.imp_spec hi
 by_cases hu : ∃ sh es, p = .usl sh es
 ·obtain ⟨sh, es, rfl⟩ := hu
  exact bl8 (tk := []) (fun _ => rfl) fun hr => by
   cases hr with
   | uslNil => exact .inl ⟨rfl, rfl, rfl⟩
   | usl hfit h hg hcap hcur hpre => exact .inr ⟨_, _, _, _, _, rfl, rfl, hfit, h, hg, hcap, hcur, hpre, Tails.nil _ _ _ _ _ _⟩
 by_cases hd : ∃ sh es cs, p = .dsl sh es cs
 ·obtain ⟨sh, es, cs, rfl⟩ := hd
  exact bl8 (tk := cs.map fun c => (c, none)) (fun _ => rfl) fun hr => by
   cases hr with
   | dslNil => exact .inl ⟨rfl, rfl, rfl⟩
   | dsl hfit h hg hcap hcur hpre ht => exact .inr ⟨_, _, _, _, _, rfl, rfl, hfit, h, hg, hcap, hcur, hpre, ht⟩
 intro id hm hr hF _ hfree
 have hu' : ∀ sh es, p ≠ .usl sh es := fun sh es e => hu ⟨sh, es, e⟩
 have hd' : ∀ sh es cs, p ≠ .dsl sh es cs := fun sh es cs e => hd ⟨sh, es, cs, e⟩
 have hic : al4 id p = (.pv p, [], id) := by
  cases p <;> first | rfl | exact absurd rfl (hu' _ _) | exact absurd rfl (hd' _ _ _)
 obtain rfl := hr.oneF ho hu' hd' hff
 rw [hic]
 exact ⟨_, hm, .refl, .pv hr, le_refl _, fun k hk => by simp [look] at hk, fun G hG _ => hG⟩
theorem Grow.trans {w w1 w2 : World} {I I1 I2 : Prot} {ρ ρ1 ρ2 : Nat → Option Loc} {ids ids' : Nat → Prop} (h : Grow w I ρ w1 I1 ρ1 ids) (h' : Grow w1 I1 ρ1 w2 I2 ρ2 ids') (hs : Agree w1 w2 I) :
  Grow w I ρ w2 I2 ρ2 (fun k => ids k ∨ ids' k) :=
 ⟨fun b o hb => (hs b o hb).trans (h.agree b o hb), fun b o hb => h'.mono b o (h.mono b o hb), fun id l hl => h'.rho id l (h.rho id l hl), fun id hid hn => h'.dom id (h.dom id hid fun e => hn (.inl e)) fun e => hn (.inr e)⟩
theorem aN0 [Mode] {imp : Nat → PV → HV × Upd × Nat} (hle : ∀ id p, id ≤ (imp id p).2.2) : ∀ {ps : List PV} {row : ad1} {ρ : Nat → Option Loc} {vs : List Value} {F : List Nat} (id : Nat), Mem w0 I0 row w I ρ → RepPs w I ps vs F →
  (∀ p ∈ ps, bY9 w0 I0 w I imp p) → bd2 w0 row w I ρ F → F.Nodup → (∀ k, id ≤ k → k < (ag5 imp id ps).2.2 → ρ k = none) →
  ∃ ρ', Mem w0 I0 (ae8 row (ag5 imp id ps).2.1) w I ρ' ∧ Grow w I ρ w I ρ' (fun k => id ≤ k ∧ k < (ag5 imp id ps).2.2) ∧ RepHs w I ρ' (ag5 imp id ps).1 vs ∧ id ≤ (ag5 imp id ps).2.2 ∧
   cn5 (ag5 imp id ps).2.1 id (ag5 imp id ps).2.2 ∧ (∀ G, bd2 w0 row w I ρ G → (∀ b ∈ G, b ∉ F) → bd2 w0 (ae8 row (ag5 imp id ps).2.1) w I ρ' G)
 | [], row, ρ, vs, F, id, hm, hr, ho, hF, hn, hfree => by
  cases hr
  exact ⟨ρ, hm, .refl, .nil, le_refl _, fun k hk => by simp [ag5, look] at hk, fun G hG _ => hG⟩
 | p :: ps, row, ρ, vs, F, id, hm, hr, ho, hF, hn, hfree => by
  cases hr with
  | @cons _ v F1 _ vs G1 h r =>
   have hn1 := (nodup_append.1 hn)
   have hF1 : bd2 w0 row w I ρ F1 := ⟨fun b hb => hF.lo b (by simp [hb]), fun b hb => hF.notI b (by simp [hb]), fun b hb => hF.free b (by simp [hb]), fun b hb => hF.ty b (by simp [hb])⟩
   have hG1 : bd2 w0 row w I ρ G1 := ⟨fun b hb => hF.lo b (by simp [hb]), fun b hb => hF.notI b (by simp [hb]), fun b hb => hF.free b (by simp [hb]), fun b hb => hF.ty b (by simp [hb])⟩
   have c1 := fun hf => ho p (by simp) id hm h hF1 hn1.1 hf
   have c2 := fun (id' : Nat) (row' : ad1) (ρ' : Nat → Option Loc) (m' : Mem w0 I0 row' w I ρ') (hF' : bd2 w0 row' w I ρ' G1) => aN0 hle id' m' r (fun q hq => ho q (by simp [hq])) hF' hn1.2.1
   have e0 : ag5 imp id (p :: ps) = ((imp id p).1 :: (ag5 imp (imp id p).2.2 ps).1, (imp id p).2.1 ++ (ag5 imp (imp id p).2.2 ps).2.1, (ag5 imp (imp id p).2.2 ps).2.2) := rfl
   have hle2 : (imp id p).2.2 ≤ (ag5 imp (imp id p).2.2 ps).2.2 := aT0 hle _ _
   have hle1 : id ≤ (imp id p).2.2 := hle _ _
   rw [e0] at hfree ⊢
   generalize hA : imp id p = A at *
   obtain ⟨a1, a2, a3⟩ := A
   have c2 := c2 a3
   simp only at *
   generalize hB : ag5 imp a3 ps = B at *
   obtain ⟨b1, b2, b3⟩ := B
   simp only at *
   obtain ⟨ρ1, m1, g1, r1, l1, u1, f1⟩ := c1 (fun k hk1 hk2 => hfree k hk1 (lt_of_lt_of_le hk2 hle2))
   obtain ⟨ρ2, m2, g2, r2, l2, u2, f2⟩ := c2 _ _ m1 (f1 G1 hG1 (fun b hb hb' => hn1.2.2 b hb' b hb rfl))
    (fun k hk1 hk2 => g1.dom k (hfree k (le_trans l1 hk1) hk2) (fun hc => by omega))
   have hov : ae8 (ae8 row a2) b2 = ae8 row (a2 ++ b2) :=
    bD8 row _ _ fun k hk => by
     cases hl : look b2 k with
     | none => rfl
     | some x => have := u1 k hk; have := u2 k (by simp [hl]); omega
   rw [hov] at m2
   refine ⟨ρ2, m2, ?_, .cons (g2.H r1) r2, le_trans l1 l2, ?_, ?_⟩
   ·have := g1.trans g2 (fun b o hb => rfl)
    exact ⟨this.agree, this.mono, this.rho, fun k hk hn => this.dom k hk fun hc => hn (by rcases hc with hc | hc <;> omega)⟩
   ·intro k hk
    rw [aw8] at hk
    cases h1 : look a2 k with
    | some x => have := u1 k (by simp [h1]); omega
    | none => rw [h1] at hk; have := u2 k hk; omega
   ·intro G hG hd
    rw [← hov]
    exact f2 G (f1 G hG fun b hb hb' => hd b hb (by simp [hb'])) fun b hb hb' => hd b hb (by simp [hb'])
theorem a43 (id : Nat) (p : PV) : id ≤ (ax6 id p).2.2 := by
 cases p <;> first | exact aE0 id _ | exact aT0 aE0 id _
theorem bq0 [Mode] {p : PV} (ho : aq9 p = true) : bY9 w0 I0 w I ax6 p := by
 cases p with
 | agg cs =>
  intro row ρ v F id hm hr hF hn hfree
  cases hr with
  | agg hr =>
   have hall : ∀ q ∈ cs, q.imp = true := by simpa [aq9] using ho
   obtain ⟨ρ', m, g, r, l, u, f⟩ := aN0 aE0 id hm hr (fun q hq => aX4 (hall q hq)) hF hn hfree
   exact ⟨ρ', m, g, RepHs.mkAgg r, l, u, f⟩
 | tup cs => simp [aq9, PV.imp, PV.one] at ho
 | fn f cs => exact aX4 (p := .fn f cs) (by simpa only [aq9] using ho)
 | _ => exact aX4 rfl
theorem cb0 [Mode] {p : PV} (ho : au5 p = true) : bY9 w0 I0 w I ah7 p := by
 cases p with
 | tup cs =>
  intro row ρ v F id hm hr hF hn hfree
  cases hr with
  | tup hr =>
   have hall : ∀ q ∈ cs, aq9 q = true := by simpa [au5] using ho
   obtain ⟨ρ', m, g, r, l, u, f⟩ := aN0 a43 id hm hr (fun q hq => bq0 (hall q hq)) hF hn hfree
   exact ⟨ρ', m, g, .tup r, l, u, f⟩
 | _ =>
  intro row ρ v F id hm hr hF hn hfree
  exact bq0 (by simpa [au5] using ho) id hm hr hF hn hfree
theorem a03 {imp : Nat → PV → HV × Upd × Nat} {I : Prot} {ρ : Nat → Option Loc} (hle : ∀ id p, id ≤ (imp id p).2.2) (hone : ∀ p id v, (imp id p).2 = ([], id) → RepP w I p v [] → RepH w I ρ (imp id p).1 v) : ∀ {ps : List PV} {vs : List Value} {id : Nat}, (ag5 imp id ps).2 = ([], id) → RepPs w I ps vs [] → RepHs w I ρ (ag5 imp id ps).1 vs := by
 intro ps
 induction ps with
 | nil => intro vs id _ h; cases h; exact .nil
 | cons p ps ih =>
  intro vs id h1 h2
  generalize hF : ([] : List Nat) = F at h2
  cases h2 with
  | cons q1 q2 =>
   obtain ⟨rfl, rfl⟩ := List.append_eq_nil_iff.1 hF.symm
   have e0 : ag5 imp id (p :: ps) = ((imp id p).1 :: (ag5 imp (imp id p).2.2 ps).1, (imp id p).2.1 ++ (ag5 imp (imp id p).2.2 ps).2.1, (ag5 imp (imp id p).2.2 ps).2.2) := rfl
   rw [e0] at h1 ⊢
   simp only [pJ, List.append_eq_nil_iff] at h1
   obtain ⟨⟨h3, h4⟩, h5⟩ := h1
   have h6 := hle id p
   have h7 := aT0 hle (imp id p).2.2 ps
   have h8 : (imp id p).2.2 = id := by omega
   refine .cons (hone p id _ (ext h3 h8) q1) ?_
   rw [h8] at h4 h5 ⊢
   exact ih (ext h4 h5) q2
theorem bv2 {I : Prot} {ρ : Nat → Option Loc} {r : PV} {v : Value} {id : Nat} (ho : au5 r = true) (hone : (ah7 id r).2 = ([], id)) (h : RepP w I r v []) : RepH w I ρ (ah7 id r).1 v := by
 have c1 : ∀ p id v, (al4 id p).2 = ([], id) → RepP w I p v [] → RepH w I ρ (al4 id p).1 v := by
  intro p id v h1 h2
  cases p <;> first | exact .pv h2 | (simp [al4] at h1)
 have c2 : ∀ p id v, (ax6 id p).2 = ([], id) → RepP w I p v [] → RepH w I ρ (ax6 id p).1 v := by
  intro p id v h1 h2
  cases p with
  | agg cs =>
   generalize hF : ([] : List Nat) = F at h2
   cases h2 with
   | agg h2 =>
    subst hF
    exact RepHs.mkAgg (a03 aE0 c1 h1 h2)
  | _ => exact c1 _ id v h1 h2
 cases r with
 | tup cs =>
  generalize hF : ([] : List Nat) = F at h
  cases h with
  | tup h =>
   subst hF
   exact .tup (a03 a43 c2 hone h)
 | _ => exact c2 _ id v hone h
theorem bl9 [Mode] {row : ad1} {ρ : Nat → Option Loc} (hm : Mem w0 I0 row w I ρ) {id off len : Nat} {sh : Shape} {es : List PV} {v : Value} (hr : RepH w I ρ (.osl id off len) v) {tk : List (Nat × Option Nat)} (hrow : row id = some (.p sh es tk)) (hle : off + len ≤ es.length) {J : Prot} (hJ : ∀ b o, I b o → J b o) (hJg : ∀ g n sh, ρ id = some (.blk g n sh) → ∀ o, J g o) :
  RepP w J (.sl sh ((es.drop off).take len)) v [] := by
 obtain ⟨l, hl, hrr⟩ := hm.rows id _ hrow
 have hlen : ((es.drop off).take len).length = len := by simp; omega
 rcases hr.osl_inv with ⟨g, n, sh', cap, o, hρ, hv, hcap, ho⟩ | ⟨hρ, rfl, rfl, hv⟩
 ·rw [hρ] at hl
  simp only [oI] at hl; subst hl
  obtain ⟨hsh, hf, cur, ty, vs, hg, hn, hvs, hp, _⟩ := hrr
  obtain rfl : sh = sh' := hsh
  have hfp : ∀ e ∈ es, e.fits sh = true := fun e he => by rw [← HV.fits_pv]; exact hf (.pv e) (by simp [Row.es, he])
  have hfe : ∀ e ∈ (es.drop off).take len, e.fits sh = true := fun e he => hfp e (List.mem_of_mem_drop (List.mem_of_mem_take he))
  have hflat : Row.flat (.p sh es tk) = (es.flatMap PV.cells).map .pv := by simp [Row.flat, Row.es, flatMap_map, HV.cells_pv, map_flatMap]
  rw [hflat] at hvs
  have h0 : ∀ e ∈ es, e.cells.length = sh.size := fun e he => (PV.fits_cells (hfp e he)).1
  rcases ho with ⟨rfl, hn'⟩ | ⟨rfl, rfl, _⟩
  ·have h1 := ((hvs.drop (off * sh.size)).take (len * sh.size))
   rw [← List.map_drop, ← map_take, aG0 h0, as8 (fun e he => h0 e (List.mem_of_mem_drop he))] at h1
   have h2 := h1.toP.mono (w' := w) (I' := J) (fun _ _ _ => rfl) hJ (by simp)
   have h3 := RepP.sl (o := off * sh.size) (b := g) (cap := cap) (fun _ _ => hJg _ _ _ hρ _) hfe (by rw [hlen]; exact hcap) h2 (fun i x hx => ao3 hp hg _ _ (drop_take_get hx))
   rw [hlen] at h3
   rw [hv]; exact h3
  ·have : (es.drop off).take 0 = [] := by simp
   rw [this, hv]
   have h3 := RepP.sl (w := w) (I := J) (sh := sh) (es := []) (vs := []) (b := g) (o := o) (cap := 0) (by simp) (by simp) (by simp) .nil (by simp)
   simpa using h3
 ·rw [hv]
  simp only [List.take_zero]
  exact .slNil sh
theorem a44 [Mode] {row : ad1} {ρ : Nat → Option Loc} {id len : Nat} {sh : Shape} {es : List PV} {tk : List (Nat × Option Nat)} {upd : Upd} {v : Value} (hm : Mem w0 I0 (ae8 row ((id, some (.p sh es tk)) :: upd)) w I ρ) (hr : RepH w I ρ (.osl id 0 len) v) (hle : len ≤ es.length)
  (hu : look upd id = none) (hrow : row id = none) : ∃ I2, Mem w0 I0 (ae8 row upd) w I2 ρ ∧ RepH w I2 ρ (.pv (.sl sh (es.take len))) v ∧ ∀ b o, I b o → I2 b o := by
 have hthis : ae8 row ((id, some (.p sh es tk)) :: upd) id = some (.p sh es tk) := by simp [ae8, look]
 have hsub : ∀ k r, ae8 row upd k = some r → ae8 (ae8 row ((id, some (.p sh es tk)) :: upd)) [(id, none)] k = some r := by
  intro k r hk
  have hki : id ≠ k := by rintro rfl; unfold ae8 at hk; rw [hu] at hk; rw [hrow] at hk; cases hk
  unfold ae8 at hk ⊢
  simpa [look, hki] using hk
 obtain ⟨l, hl, hrr⟩ := hm.rows id _ hthis
 cases l with
 | nil =>
  have he : es = [] := by simpa [Row.es] using (show (Row.p sh es tk).es = [] from hrr)
  subst he
  obtain rfl : len = 0 := by simpa using hle
  rcases hr.osl_inv with ⟨g, n, sh', cap, o, hρ, _⟩ | ⟨hρ, _, _, hv⟩
  ·rw [hl] at hρ; cases hρ
  ·refine ⟨I, hm.sub fun k r hk => ?_, by rw [hv]; exact .pv (.slNil sh), fun _ _ h => h⟩
   have := hsub k r hk
   unfold ae8 at this
   split at this
   ·rename_i x hx
    simp only [look] at hx
    split at hx <;> cases hx
    cases this
   ·exact this
 | blk g n sh' =>
  have hrr' := hrr
  obtain ⟨_, _, cur, ty, vs, hg, _, _, _, _⟩ := hrr'
  obtain ⟨m, gr⟩ := hm.freezeAt hthis hl hg (Kept.refl _ _) hg (fun _ _ => rfl) (fun _ => True) none
  have := bl9 hm hr hthis (by simpa using hle) (J := ⟨fun b o => I b o ∨ (b = g ∧ True), fun b => if b = g then none else I.n b⟩) (fun b o hb => Or.inl hb) (fun g' n' s' h o => by rw [hl] at h; cases h; exact Or.inr ⟨rfl, trivial⟩)
  exact ⟨_, m.sub hsub, .pv (by simpa using this), fun b o hb => Or.inl hb⟩
mutual
inductive Frz : PV → PV → Prop
 | refl (p : PV) : Frz p p
 | usl (sh : Shape) (es : List PV) : Frz (.usl sh es) (.sl sh es)
 | dsl (sh : Shape) (es : List PV) (cs : List Nat) : Frz (.dsl sh es cs) (.sl sh es)
 | dslU (sh : Shape) (es : List PV) (cs : List Nat) : Frz (.dsl sh es cs) (.usl sh es)
 | agg {a b : List PV} (h : Frzs a b) : Frz (.agg a) (.agg b)
 | tup {a b : List PV} (h : Frzs a b) : Frz (.tup a) (.tup b)
inductive Frzs : List PV → List PV → Prop
 | nil : Frzs [] []
 | cons {p q : PV} {ps qs : List PV} (h : Frz p q) (r : Frzs ps qs) : Frzs (p :: ps) (q :: qs)
end
def ct0 (I : Prot) (F F' : List Nat) : Prot := ⟨fun b o => I b o ∨ (b ∈ F ∧ b ∉ F'), I.n⟩
theorem NK.frz {w : World} {I : Prot} {F F' : List Nat} (hN : ∀ t g, I.n t = some g → t ∉ F) (g : Nat) : NK w w I (ct0 I F F') g := fun t ht => ⟨ht, rfl, fun o ho => by
 rcases ho with ho | ⟨ho, _⟩
 ·exact ho
 ·exact (hN t g ht ho).elim⟩
mutual
theorem RepP.frz {w : World} {I : Prot} : ∀ {p q : PV} {v : Value} {F : List Nat}, RepP w I p v F → F.Nodup → (∀ t g, I.n t = some g → t ∉ F) → Frz p q → ∃ F', (∀ b ∈ F', b ∈ F) ∧ F'.Nodup ∧ RepP w (ct0 I F F') q v F'
 | _, _, _, F, h, hn, hN, .refl _ => ⟨F, fun _ h => h, hn, h.mono (fun _ _ _ => rfl) (fun b o hb => Or.inl hb) fun b _ => ⟨rfl, NK.frz hN b⟩⟩
 | .usl sh es, .sl _ _, _, _, h, _, _, .usl _ _ => by
  cases h with
  | uslNil _ => exact ⟨[], by simp, by simp, .slNil sh⟩
  | @usl _ _ vs g cap cur e hfit h hg hcap hcur hpre =>
   exact ⟨[], by simp, by simp, .sl (o := 0) (b := g) (cap := cap) (fun _ _ => Or.inr (by simp)) hfit hcap (h.mono (fun _ _ _ => rfl) (fun b o hb => Or.inl hb) (by simp)) fun i x hx => by rw [zero_add]; exact ao3 hpre hg i x hx⟩
 | .dsl sh es cs, .sl _ _, _, _, h, _, _, .dsl _ _ _ => by
  cases h with
  | dslNil _ => exact ⟨[], by simp, by simp, .slNil sh⟩
  | @dsl _ _ _ vs g cap cur e hfit h hg hcap hcur hpre ht =>
   exact ⟨[], by simp, by simp, .sl (o := 0) (b := g) (cap := cap) (fun _ _ => Or.inr (by simp)) hfit hcap (h.mono (fun _ _ _ => rfl) (fun b o hb => Or.inl hb) (by simp)) fun i x hx => by rw [zero_add]; exact ao3 hpre hg i x hx⟩
 | .dsl sh es cs, .usl _ _, _, _, h, _, hN, .dslU _ _ _ => by
  cases h with
  | dslNil _ => exact ⟨[], by simp, by simp, .uslNil sh⟩
  | @dsl _ _ _ vs g cap cur e hfit h hg hcap hcur hpre ht =>
   exact ⟨[g], by simp, by simp, .usl hfit (h.mono (fun _ _ _ => rfl) (fun b o hb => Or.inl hb) (by simp)) hg hcap hcur hpre⟩
 | _, _, _, _, .agg h, hn, hN, .agg hl => by
  obtain ⟨F', h1, h2, h3⟩ := RepPs.frz h hn hN hl
  exact ⟨F', h1, h2, .agg h3⟩
 | _, _, _, _, .tup h, hn, hN, .tup hl => by
  obtain ⟨F', h1, h2, h3⟩ := RepPs.frz h hn hN hl
  exact ⟨F', h1, h2, .tup h3⟩
theorem RepPs.frz {w : World} {I : Prot} : ∀ {ps qs : List PV} {vs : List Value} {F : List Nat}, RepPs w I ps vs F → F.Nodup → (∀ t g, I.n t = some g → t ∉ F) → Frzs ps qs → ∃ F', (∀ b ∈ F', b ∈ F) ∧ F'.Nodup ∧ RepPs w (ct0 I F F') qs vs F'
 | _, _, _, _, .nil, _, _, .nil => ⟨[], by simp, by simp, .nil⟩
 | _, _, _, _, @RepPs.cons _ _ _ _ F1 _ _ F2 h r, hn, hN, .cons h1 r1 => by
  obtain ⟨n1, n2, n3⟩ := nodup_append.1 hn
  obtain ⟨G1, a1, a2, a3⟩ := RepP.frz h n1 (fun t g ht hm => hN t g ht (mem_append.2 (.inl hm))) h1
  obtain ⟨G2, b1, b2, b3⟩ := RepPs.frz r n2 (fun t g ht hm => hN t g ht (mem_append.2 (.inr hm))) r1
  have nk : ∀ (F0 F0' : List Nat) (g : Nat), NK w w (ct0 I F0 F0') (ct0 I (F1 ++ F2) (G1 ++ G2)) g := fun F0 F0' g t ht => ⟨ht, rfl, fun o ho => by
   rcases ho with ho | ⟨ho, _⟩
   ·exact Or.inl ho
   ·exact (hN t g ht ho).elim⟩
  refine ⟨G1 ++ G2, fun b hb => ?_, nodup_append.2 ⟨a2, b2, fun x hx y hy => n3 x (a1 x hx) y (b1 y hy)⟩, .cons ?_ ?_⟩
  ·rcases mem_append.1 hb with hb | hb
   ·exact mem_append.2 (.inl (a1 b hb))
   ·exact mem_append.2 (.inr (b1 b hb))
  ·refine a3.mono (fun _ _ _ => rfl) (fun b o hb => ?_) fun b _ => ⟨rfl, nk _ _ b⟩
   rcases hb with hb | ⟨hb, hb'⟩
   ·exact Or.inl hb
   ·exact Or.inr ⟨mem_append.2 (.inl hb), fun hc => by
     rcases mem_append.1 hc with hc | hc
     ·exact hb' hc
     ·exact n3 b hb b (b1 b hc) rfl⟩
  ·refine b3.mono (fun _ _ _ => rfl) (fun b o hb => ?_) fun b _ => ⟨rfl, nk _ _ b⟩
   rcases hb with hb | ⟨hb, hb'⟩
   ·exact Or.inl hb
   ·exact Or.inr ⟨mem_append.2 (.inr hb), fun hc => by
     rcases mem_append.1 hc with hc | hc
     ·exact n3 b (a1 b hc) b hb rfl
     ·exact hb' hc⟩
end
theorem CallOK.frz {P : Program} {f : FuncId} {ds : List PV} {r r' : PV} {fl : Bool} (h : CallOK P f ds r fl) (hl : Frz r r') : CallOK P f ds r' fl :=
 ⟨h.enter, fun w I vs Fa hG hI hr hn hFa hNa => (h.calls w I vs Fa hG hI hr hn hFa hNa).mono (by
  rintro e w' ⟨v, I', F, rfl, h1, h1a, h1b, h2, h3, h4, h5, h6, h7⟩
  obtain ⟨F', f1, f2, f3⟩ := h4.frz h5 (fun t g ht => (h7 t g ht).2.2.2.1) hl
  refine ⟨v, ct0 I' F F', F', rfl, h1, h1a, h1b, ?_, ?_, f3, f2, ?_, ?_⟩
  ·rintro b o (hb | ⟨hb, _⟩)
   ·exact h2 b o hb
   ·exact ⟨(h6 b hb).2.1, .inr (h6 b hb).1, fun _ => (h6 b hb).2.2.2⟩
  ·rintro hfl b o (hb | ⟨hb, _⟩)
   ·exact h3 hfl b o hb
   ·exact (h6 b hb).1
  ·intro b hb
   obtain ⟨a, b', c, d⟩ := h6 b (f1 b hb)
   refine ⟨a, b', fun o => ⟨?_, (c o).2⟩, d⟩
   rintro (hh | ⟨_, hh⟩)
   ·exact (c o).1 hh
   ·exact hh hb
  ·intro b g hb
   obtain ⟨a1, a2, a3, a4, a5⟩ := h7 b g hb
   exact ⟨a1, a2, a3, fun hm => a4 (f1 b hm), fun o ho => Or.inl (a5 o ho)⟩)⟩
theorem bZ0 [Mode] {row : ad1} {ρ : Nat → Option Loc} (hm : Mem w0 I0 row w I ρ) {id idx off : Nat} {sh : Shape} {es : List PV} {e : PV} {v : Value} (hr : RepH w I ρ (.optr id idx off) v) {tk : List (Nat × Option Nat)} (hrow : row id = some (.p sh es tk)) (he : es[idx]? = some e)
  {J : Prot} (hJ : ∀ b o, I b o → J b o) (hJg : ∀ g n sh, ρ id = some (.blk g n sh) → ∀ o, J g o) : RepP w J (.rptr sh e off) v [] := by
 obtain ⟨g, n, sh', hρ, hv⟩ := hr.optr_inv
 obtain ⟨l, hl, hrr⟩ := hm.rows id _ hrow
 rw [hρ] at hl
 simp only [oI] at hl; subst hl
 obtain ⟨hfit, us, hus, hc⟩ := bJ0 hrr (idx := idx) (e := .pv e) (by simp [Row.es, he])
 obtain rfl : sh = sh' := hrr.1
 rw [HV.cells_pv] at hus
 rw [hv]
 exact .rptr (fun _ _ => hJg _ _ _ hρ _) (by rw [← HV.fits_pv]; exact hfit) (hus.toP.mono (fun _ _ _ => rfl) hJ (by simp)) hc
def ad2 (ρ : Nat → Option Loc) : List Nat → List Nat
 | [] => []
 | id :: r => match ρ id with
  | some (.blk g _ _) => g :: ad2 ρ r
  | _ => ad2 ρ r
theorem ao5 (ρ : Nat → Option Loc) : ∀ a b : List Nat, ad2 ρ (a ++ b) = ad2 ρ a ++ ad2 ρ b
 | [], b => rfl
 | id :: a, b => by
  simp only [List.cons_append, ad2]
  split
  ·simp [ao5 ρ a b]
  ·exact ao5 ρ a b
theorem ap8 {ρ : Nat → Option Loc} {b : Nat} : ∀ {l : List Nat}, b ∈ ad2 ρ l → ∃ id n sh, id ∈ l ∧ ρ id = some (.blk b n sh)
 | id :: r, h => by
  simp only [ad2] at h
  split at h
  ·rename_i g n sh hg
   rcases List.mem_cons.1 h with rfl | h
   ·exact ⟨id, n, sh, by simp, hg⟩
   ·obtain ⟨k, n', sh', h1, h2⟩ := ap8 h
    exact ⟨k, n', sh', by simp [h1], h2⟩
  ·obtain ⟨k, n', sh', h1, h2⟩ := ap8 h
   exact ⟨k, n', sh', by simp [h1], h2⟩
theorem aK0 [Mode] {row : ad1} {ρ : Nat → Option Loc} (hm : Mem w0 I0 row w I ρ) : ∀ {ids : List Nat}, ids.Nodup → (∀ id ∈ ids, (row id).isSome = true) → (ad2 ρ ids).Nodup
 | [], _, _ => by simp [ad2]
 | id :: r, hn, ho => by
  obtain ⟨h1, h2⟩ := List.nodup_cons.1 hn
  have ih := aK0 hm h2 fun k hk => ho k (by simp [hk])
  simp only [ad2]
  split
  ·rename_i g n sh hg
   refine List.nodup_cons.2 ⟨fun hmem => ?_, ih⟩
   obtain ⟨k, n', sh', hk, hg'⟩ := ap8 hmem
   obtain ⟨x, hx⟩ := isSome_iff_exists.1 (ho id (by simp))
   obtain ⟨y, hy⟩ := isSome_iff_exists.1 (ho k (by simp [hk]))
   have := hm.inj id k x y g n n' sh sh' hx hy hg hg'
   subst this
   exact h1 hk
  ·exact ih
theorem bJ3 [Mode] {row : ad1} {ρ : Nat → Option Loc} (hm : Mem w0 I0 row w I ρ) {id len : Nat} {sh : Shape} {es : List PV} {tk : List (Nat × Option Nat)} {p : PV} {v : Value} (hr : RepH w I ρ (.osl id 0 len) v) (hrow : row id = some (.p sh es tk)) (hle : len ≤ es.length)
  (hp : bB9 sh es tk len = some p) {J : Prot} (hJ : ∀ b o, I b o → J b o) (hJn : ∀ g ∈ ad2 ρ [id], NK w w I J g) : RepP w J p v (ad2 ρ [id]) := by
 obtain ⟨l, hl, hrr⟩ := hm.rows id _ hrow
 have hlen : (es.take len).length = len := by simp; omega
 rcases hr.osl_inv with ⟨g, n, sh', cap, o, hρ, hv, hcap, ho⟩ | ⟨hρ, _, rfl, hv⟩
 ·rw [hρ] at hl
  simp only [oI] at hl; subst hl
  obtain ⟨hsh, hf, cur, ty, vs, hg, hn, hvs, hp', hT⟩ := hrr
  obtain rfl : sh = sh' := hsh
  have hfp : ∀ e ∈ es, e.fits sh = true := fun e he => by rw [← HV.fits_pv]; exact hf (.pv e) (by simp [Row.es, he])
  have hflat : Row.flat (.p sh es tk) = (es.flatMap PV.cells).map .pv := by simp [Row.flat, Row.es, flatMap_map, HV.cells_pv, map_flatMap]
  rw [hflat] at hvs
  have h0 : ∀ e ∈ es, e.cells.length = sh.size := fun e he => (PV.fits_cells (hfp e he)).1
  rcases ho with ⟨rfl, hn'⟩ | ⟨_, _, hne⟩
  case inr => exact absurd rfl hne
  simp only [Nat.zero_mul, zero_add] at hv hn'
  have hb : ad2 ρ [id] = [g] := by simp [ad2, hρ]
  rw [hb] at hJn
  rw [hv, hb]
  unfold bB9 at hp
  split at hp
  ·cases hp
   have h1 := hvs.take (len * sh.size)
   rw [← map_take, as8 h0] at h1
   have := RepP.usl (cap := cap) (fun e he => hfp e (List.mem_of_mem_take he)) (h1.toP.mono (I' := J) (fun _ _ _ => rfl) hJ (by simp)) hg (by rw [hlen]; exact hcap) (by rw [hn, ← hn']) (by
    have hvl : (vs.take (len * sh.size)).length ≤ vs.length := by simp; omega
    rw [← hp', List.take_take, ← hp']
    simp
    try omega)
   rw [hlen] at this; exact this
  ·split at hp
   ·rename_i hc
    cases hp
    obtain ⟨hc1, hc2⟩ := hc
    subst hc1
    refine RepP.dsl (cap := cap) hfp (hvs.toP.mono (I' := J) (fun _ _ _ => rfl) hJ (by simp)) hg hcap (by rw [hn, ← hn']) hp' ?_
    have hT' := hT.mono (I' := J) (w' := w) fun _ => hJn g (by simp)
    intro c m hcm
    simp only [List.map_map, mem_map, Function.comp_apply, pJ] at hcm
    obtain ⟨⟨c', m'⟩, hq, rfl, rfl⟩ := hcm
    have hn0 := List.all_eq_true.1 hc2 _ hq
    simp only [Option.isNone_iff_eq_none] at hn0
    subst hn0
    exact hT' c' none hq
   ·cases hp
 ·have hb : ad2 ρ [id] = [] := by simp [ad2, hρ]
  rw [hv, hb]
  rw [hρ] at hl
  simp only [oI] at hl; subst hl
  have he : es = [] := by simpa [Row.es] using (show (Row.p sh es tk).es = [] from hrr)
  subst he
  unfold bB9 at hp
  split at hp
  ·cases hp; exact .uslNil sh
  ·split at hp
   ·cases hp; exact .dslNil sh _
   ·cases hp
mutual
theorem bZ1 [Mode] {row : ad1} {ρ : Nat → Option Loc} (hm : Mem w0 I0 row w I ρ) {gs : List Nat} {J : Prot} (hJ : ∀ b o, I b o → J b o) : ∀ (n : Nat) {h : HV} {v : Value} {p : PV}, RepH w I ρ h v → aj8 gs row n h = some p →
  (∀ id ∈ a36 gs n h, ∀ g k sh, ρ id = some (.blk g k sh) → ∀ o, J g o) → (∀ g ∈ ad2 ρ (ai9 gs n h), NK w w I J g) → RepP w J p v (ad2 ρ (ai9 gs n h)) ∧ ∀ id ∈ ai9 gs n h, (row id).isSome = true
 | n, .pv q, v, p, hr, hp, _, _ => by
  have h1 : p = q := by
   cases n <;> simp [aj8] at hp <;> exact hp.symm
  subst h1
  have h2 : ai9 gs n (.pv p) = [] := by cases n <;> rfl
  rw [h2]
  cases hr with
  | pv h => exact ⟨h.mono (fun _ _ _ => rfl) hJ (by simp), by simp⟩
 | 0, .any, v, p, hr, hp, _, _ => by simp [aj8] at hp
 | 0, .omap _, v, p, hr, hp, _, _ => by simp [aj8] at hp
 | n + 1, .omap _, v, p, hr, hp, _, _ => by simp [aj8] at hp
 | n + 1, .any, v, p, hr, hp, _, _ => by simp [aj8] at hp
 | 0, .undef, v, p, hr, hp, _, _ => by simp [aj8] at hp
 | 0, .agg _, v, p, hr, hp, _, _ => by simp [aj8] at hp
 | 0, .tup _, v, p, hr, hp, _, _ => by simp [aj8] at hp
 | 0, .osl _ _ _, v, p, hr, hp, _, _ => by simp [aj8] at hp
 | 0, .optr _ _ _, v, p, hr, hp, _, _ => by simp [aj8] at hp
 | 0, .fn _ _, v, p, hr, hp, _, _ => by simp [aj8] at hp
 | n + 1, .undef, v, p, hr, hp, _, _ => by simp [aj8] at hp
 | n + 1, .tup _, v, p, hr, hp, _, _ => by simp [aj8] at hp
 | n + 1, .osl id off len, v, p, hr, hp, hl, hN => by
  simp only [aj8] at hp
  split at hp
  ·rename_i sh es tk hrow
   by_cases hg : gs.contains id = true
   ·rw [iP hg] at hp
    simp only [ai9, iP hg] at hN ⊢
    split at hp
    ·rename_i hc
     obtain ⟨rfl, hle⟩ := hc
     exact ⟨bJ3 hm hr hrow hle hp hJ hN, by simp [hrow]⟩
    ·cases hp
   ·rw [iN hg] at hp
    simp only [ai9, iN hg] at hN ⊢
    split at hp
    ·rename_i hle
     simp only [oI] at hp; subst hp
     exact ⟨bl9 hm hr hrow hle hJ fun g k sh' hρ => hl id (by simp only [a36, iN hg]; simp) g k sh' hρ, by simp⟩
    ·cases hp
  ·cases hp
 | n + 1, .optr id idx off, v, p, hr, hp, hl, hN => by
  simp only [aj8] at hp
  split at hp
  ·cases hp
  ·split at hp
   ·rename_i sh es _ hrow
    simp only [oM] at hp
    obtain ⟨e, he, rfl⟩ := hp
    exact ⟨bZ0 hm hr hrow he hJ fun g k sh' hρ => hl id (by simp [a36]) g k sh' hρ, by simp [ai9]⟩
   ·cases hp
 | n + 1, .agg cs, v, p, hr, hp, hl, hN => by
  simp only [aj8, oM] at hp
  obtain ⟨ps, hps, rfl⟩ := hp
  cases hr with
  | agg hr =>
   obtain ⟨a1, a2⟩ := aL0 hm hJ n hr hps (by simpa [a36] using hl) (by simpa [ai9] using hN)
   exact ⟨.agg a1, by simpa [ai9] using a2⟩
 | n + 1, .fn f cs, v, p, hr, hp, hl, hN => by
  simp only [aj8, oM] at hp
  obtain ⟨ps, hps, rfl⟩ := hp
  cases hr with
  | fn _ hr =>
   obtain ⟨a1, a2⟩ := aL0 hm hJ n hr hps (by simpa [a36] using hl) (by simpa [ai9] using hN)
   exact ⟨.fn f a1, by simpa [ai9] using a2⟩
theorem aL0 [Mode] {row : ad1} {ρ : Nat → Option Loc} (hm : Mem w0 I0 row w I ρ) {gs : List Nat} {J : Prot} (hJ : ∀ b o, I b o → J b o) (n : Nat) : ∀ {hs : List HV} {vs : List Value} {ps : List PV}, RepHs w I ρ hs vs → hs.mapM (aj8 gs row n) = some ps →
  (∀ id ∈ hs.flatMap (a36 gs n), ∀ g k sh, ρ id = some (.blk g k sh) → ∀ o, J g o) → (∀ g ∈ ad2 ρ (hs.flatMap (ai9 gs n)), NK w w I J g) → RepPs w J ps vs (ad2 ρ (hs.flatMap (ai9 gs n))) ∧ ∀ id ∈ hs.flatMap (ai9 gs n), (row id).isSome = true
 | [], vs, ps, hr, hp, _, _ => by
  cases hr
  simp at hp; subst hp; exact ⟨.nil, by simp⟩
 | h :: hs, vs, ps, hr, hp, hl, hN => by
  simp only [mapM_cons, bind_eq_bind, pure_def, oE] at hp
  obtain ⟨q, hq, qs, hqs, hp⟩ := hp
  simp only [oI] at hp; subst hp
  cases hr with
  | cons h1 r1 =>
   obtain ⟨a1, a2⟩ := bZ1 hm hJ n h1 hq (fun id hid => hl id (by simp only [flatMap_cons, mem_append]; exact .inl hid)) (fun g hg => hN g (by simp only [flatMap_cons]; rw [ao5]; exact mem_append.2 (.inl hg)))
   obtain ⟨b1, b2⟩ := aL0 hm hJ n r1 hqs (fun id hid => hl id (by simp only [flatMap_cons, mem_append]; exact .inr hid)) (fun g hg => hN g (by simp only [flatMap_cons]; rw [ao5]; exact mem_append.2 (.inr hg)))
   simp only [flatMap_cons]
   rw [ao5]
   exact ⟨.cons a1 b1, fun id hid => by
    rcases mem_append.1 hid with h | h
    ·exact a2 id h
    ·exact b2 id h⟩
end
mutual
theorem bZ2 {gs : List Nat} : ∀ (n : Nat) {h : HV} {id : Nat}, id ∈ ai9 gs n h → gs.contains id = true
 | n, .pv _, id, h => by cases n <;> simp [ai9] at h
 | n, .any, id, h => by cases n <;> simp [ai9] at h
 | n, .omap _, id, h => by cases n <;> simp [ai9] at h
 | n, .undef, id, h => by cases n <;> simp [ai9] at h
 | n, .tup _, id, h => by cases n <;> simp [ai9] at h
 | n, .optr _ _ _, id, h => by cases n <;> simp [ai9] at h
 | 0, .osl _ _ _, id, h => by simp [ai9] at h
 | 0, .agg _, id, h => by simp [ai9] at h
 | 0, .fn _ _, id, h => by simp [ai9] at h
 | n + 1, .osl id' _ _, id, h => by
  simp only [ai9] at h
  split at h
  ·simp only [mem_singleton] at h; subst h; assumption
  ·cases h
 | n + 1, .agg cs, id, h => aT1 n (by simpa [ai9] using h)
 | n + 1, .fn _ cs, id, h => aT1 n (by simpa [ai9] using h)
theorem aT1 {gs : List Nat} (n : Nat) : ∀ {hs : List HV} {id : Nat}, id ∈ hs.flatMap (ai9 gs n) → gs.contains id = true
 | h :: hs, id, hm => by
  simp only [flatMap_cons, mem_append] at hm
  rcases hm with hm | hm
  ·exact bZ2 n hm
  ·exact aT1 n hm
end
mutual
theorem bZ3 {row : ad1} {gs : List Nat} : ∀ (n : Nat) {h : HV} {p : PV} {id : Nat}, aj8 gs row n h = some p → id ∈ ai9 gs n h → ∃ x, row id = some x ∧ x.prot = 0
 | n, .pv _, p, id, _, h => by cases n <;> simp [ai9] at h
 | n, .any, p, id, _, h => by cases n <;> simp [ai9] at h
 | n, .omap _, p, id, _, h => by cases n <;> simp [ai9] at h
 | n, .undef, p, id, _, h => by cases n <;> simp [ai9] at h
 | n, .tup _, p, id, _, h => by cases n <;> simp [ai9] at h
 | n, .optr _ _ _, p, id, _, h => by cases n <;> simp [ai9] at h
 | 0, .osl _ _ _, p, id, _, h => by simp [ai9] at h
 | 0, .agg _, p, id, _, h => by simp [ai9] at h
 | 0, .fn _ _, p, id, _, h => by simp [ai9] at h
 | n + 1, .osl id' off len, p, id, hp, h => by
  simp only [ai9] at h
  split at h
  ·simp only [mem_singleton] at h; subst h
   simp only [aj8] at hp
   split at hp
   ·rename_i hrow
    exact ⟨_, hrow, rfl⟩
   ·cases hp
  ·cases h
 | n + 1, .agg cs, p, id, hp, h => by
  simp only [aj8, oM] at hp
  obtain ⟨ps, hps, _⟩ := hp
  exact aL1 n hps (by simpa [ai9] using h)
 | n + 1, .fn _ cs, p, id, hp, h => by
  simp only [aj8, oM] at hp
  obtain ⟨ps, hps, _⟩ := hp
  exact aL1 n hps (by simpa [ai9] using h)
theorem aL1 {row : ad1} {gs : List Nat} (n : Nat) : ∀ {hs : List HV} {ps : List PV} {id : Nat}, hs.mapM (aj8 gs row n) = some ps → id ∈ hs.flatMap (ai9 gs n) → ∃ x, row id = some x ∧ x.prot = 0
 | h :: hs, ps, id, hp, hm => by
  simp only [mapM_cons, bind_eq_bind, pure_def, oE] at hp
  obtain ⟨q, hq, qs, hqs, _⟩ := hp
  simp only [flatMap_cons, mem_append] at hm
  rcases hm with hm | hm
  ·exact bZ3 n hq hm
  ·exact aL1 n hqs hm
end
mutual
theorem cb1 {row : ad1} {gs : List Nat} : ∀ (n : Nat) {h : HV} {p : PV} {id : Nat}, aj8 gs row n h = some p → id ∈ a36 gs n h → (row id).isSome = true ∧ gs.contains id = false
 | n, .pv _, p, id, _, h => by cases n <;> simp [a36] at h
 | n, .any, p, id, _, h => by cases n <;> simp [a36] at h
 | n, .omap _, p, id, _, h => by cases n <;> simp [a36] at h
 | n, .undef, p, id, _, h => by cases n <;> simp [a36] at h
 | n, .tup _, p, id, _, h => by cases n <;> simp [a36] at h
 | 0, .optr _ _ _, p, id, _, h => by simp [a36] at h
 | 0, .osl _ _ _, p, id, _, h => by simp [a36] at h
 | 0, .agg _, p, id, _, h => by simp [a36] at h
 | 0, .fn _ _, p, id, _, h => by simp [a36] at h
 | n + 1, .osl id' off len, p, id, hp, h => by
  simp only [a36] at h
  split at h
  ·cases h
  ·rename_i hc
   simp only [mem_singleton] at h; subst h
   simp only [aj8] at hp
   split at hp
   ·rename_i hrow
    exact ⟨by rw [hrow]; rfl, by simpa using hc⟩
   ·cases hp
 | n + 1, .optr id' idx off, p, id, hp, h => by
  simp only [a36, mem_singleton] at h; subst h
  simp only [aj8] at hp
  split at hp
  ·cases hp
  ·rename_i hc
   split at hp
   ·rename_i hrow
    exact ⟨by rw [hrow]; rfl, by simpa using hc⟩
   ·cases hp
 | n + 1, .agg cs, p, id, hp, h => by
  simp only [aj8, oM] at hp
  obtain ⟨ps, hps, _⟩ := hp
  exact a04 n hps (by simpa [a36] using h)
 | n + 1, .fn _ cs, p, id, hp, h => by
  simp only [aj8, oM] at hp
  obtain ⟨ps, hps, _⟩ := hp
  exact a04 n hps (by simpa [a36] using h)
theorem a04 {row : ad1} {gs : List Nat} (n : Nat) : ∀ {hs : List HV} {ps : List PV} {id : Nat}, hs.mapM (aj8 gs row n) = some ps → id ∈ hs.flatMap (a36 gs n) → (row id).isSome = true ∧ gs.contains id = false
 | h :: hs, ps, id, hp, hm => by
  simp only [mapM_cons, bind_eq_bind, pure_def, oE] at hp
  obtain ⟨q, hq, qs, hqs, _⟩ := hp
  simp only [flatMap_cons, mem_append] at hm
  rcases hm with hm | hm
  ·exact cb1 n hq hm
  ·exact a04 n hqs hm
end
end
section
variable {P : Program} {w0 : Base} {I0 : Prot} {row : ad1} {w : World} {I : Prot} {ρ : Nat → Option Loc} {id0 : Nat}
def aG3 (I : Prot) (B : List Nat) (b : Nat) : Option Nat := match I.n b with
 | some g => if g ∈ B then some g else none
 | none => none
theorem a45 {I : Prot} {B : List Nat} {b g : Nat} (h : aG3 I B b = some g) : I.n b = some g ∧ g ∈ B := by
 unfold aG3 at h
 split at h
 ·rename_i g' hg
  split at h
  ·cases h; exact ⟨hg, by assumption⟩
  ·cases h
 ·cases h
theorem at0 : ∀ (gl : List Nat) (k : Nat), look (af2 gl) k = if k ∈ gl then some none else none
 | [], k => by simp [af2, look]
 | a :: gl, k => by
  have ih := at0 gl k
  unfold af2 at ih ⊢
  simp only [List.map_cons, look]
  by_cases h : a = k
  ·subst h; simp
  ·rw [iN h, ih]
   simp [Ne.symm h]
theorem bP8 [Mode] {f : FuncId} {hs : List HV} {vs : Array Value} {ds : List PV} {r : PV} {fl : Bool} {gs : List Nat} (hP : w0.P = P) (hm : Mem w0 I0 row w I ρ) (hr : RepHs w I ρ hs vs.toList) (hds : hs.mapM (aj8 gs row 4) = some ds) (hc : CallOK P f ds r fl)
  (hfl : fl = true ∨ (hs.flatMap (a36 gs 4)) = []) (hgn : (hs.flatMap (ai9 gs 4)).Nodup) (hgy : gs = [] ∨ Mode.y = false) (hok : au5 r = true) (hid : (ah7 id0 r).2.2 ≤ id0 + 4) (hfree : ∀ k, id0 ≤ k → k < id0 + 4 → ρ k = none) :
  Calls P f vs w fun e w' => ∃ v I' ρ', e = .returned v ∧ Mem w0 I0 (ae8 row ((ah7 id0 r).2.1 ++ af2 (hs.flatMap (ai9 gs 4)))) w' I' ρ' ∧ RepH w' I' ρ' (ah7 id0 r).1 v ∧ Grow w I ρ w' I' ρ' (fun k => id0 ≤ k ∧ k < id0 + 4) := by
 generalize hgl : hs.flatMap (ai9 gs 4) = gl at *
 have hgs : ∀ id ∈ gl, gs.contains id = true := fun id hid => aT1 4 (by rw [hgl]; exact hid)
 have hrow' : ∀ id r', ae8 row (af2 gl) id = some r' → row id = some r' ∧ id ∉ gl := by
  intro id r' h
  unfold ae8 at h
  rw [at0] at h
  split at h
  ·rename_i x hx
   split at hx
   ·cases hx; cases h
   ·cases hx
  ·rename_i hx
   split at hx
   ·cases hx
   ·exact ⟨h, by assumption⟩
 have hgb : ∀ b ∈ ad2 ρ gl, ∃ id n sh x, id ∈ gl ∧ ρ id = some (.blk b n sh) ∧ ((∀ id ∈ gl, (row id).isSome = true) → row id = some x) := by
  intro b hb
  obtain ⟨id, n, sh, h1, h2⟩ := ap8 hb
  cases hx : row id with
  | some x => exact ⟨id, n, sh, x, h1, h2, fun _ => hx⟩
  | none => exact ⟨id, n, sh, default, h1, h2, fun h => by have := h id h1; rw [hx] at this; cases this⟩
 have key : ∀ (Jc : Nat → Nat → Prop), (∀ b o, I b o → Jc b o) → (∀ b o, Jc b o → b < w.heap.size) → (∀ b o, Jc b o → b ∉ ad2 ρ gl) →
   RepPs w ⟨Jc, aG3 I (ad2 ρ gl)⟩ ds vs.toList (ad2 ρ gl) → (∀ id ∈ gl, (row id).isSome = true) → (fl = true ∨ ∀ b o, Jc b o → I b o) →
   Calls P f vs w fun e w' => ∃ v I' ρ', e = .returned v ∧ Mem w0 I0 (ae8 row ((ah7 id0 r).2.1 ++ af2 gl)) w' I' ρ' ∧ RepH w' I' ρ' (ah7 id0 r).1 v ∧ Grow w I ρ w' I' ρ' (fun k => id0 ≤ k ∧ k < id0 + 4) := by
  intro Jc hJ hJl hJF hJr hgr hJf
  generalize hB : ad2 ρ gl = B at *
  have hgb : ∀ b ∈ B, ∃ id n sh x, id ∈ gl ∧ ρ id = some (.blk b n sh) ∧ row id = some x := fun b hb => by
   obtain ⟨id, n, sh, x, h1, h2, h3⟩ := hgb b hb
   exact ⟨id, n, sh, x, h1, h2, h3 hgr⟩
  have hBo : ∀ b ∈ B, w0.New b ∧ b < w.heap.size ∧ (∀ o, ¬ Jc b o) ∧ nb w0.P w b := by
   intro b hb
   obtain ⟨id, n, sh, x, h1, h2, hx⟩ := hgb b hb
   obtain ⟨o1, o2, o3⟩ := hm.own id x b n sh hx h2
   exact ⟨o1, o2, fun o ho => hJF b o ho hb, hm.tyR id x b n sh hx h2 (hgy.resolve_left fun e => by have := hgs id h1; rw [e] at this; simp at this)⟩
  have hT : ∀ b, aG3 I B b ≠ none → ∃ g, I.n b = some g ∧ g ∈ B := fun b h => by
   cases h' : aG3 I B b with
   | none => exact absurd h' h
   | some g => exact ⟨g, a45 h'⟩
  have hFS : ∀ b, FS ⟨Jc, aG3 I B⟩ B b → w0.New b ∧ b < w.heap.size ∧ nb w0.P w b := by
   rintro b (hb | hb)
   ·exact ⟨(hBo b hb).1, (hBo b hb).2.1, (hBo b hb).2.2.2⟩
   ·obtain ⟨g, h1, _⟩ := hT b hb
    obtain ⟨n1, n2, n3, _⟩ := hm.nn b g h1
    exact ⟨n1, n2, n3⟩
  have hrF : ∀ k x b n sh, ae8 row (af2 gl) k = some x → ρ k = some (.blk b n sh) → ¬ FS ⟨Jc, aG3 I B⟩ B b := by
   rintro k x b n sh hx hk (hb | hb)
   ·obtain ⟨q1, q2⟩ := hrow' k x hx
    obtain ⟨id', n', sh', y, h3, h4, hy⟩ := hgb b hb
    have := hm.inj k id' x y b n n' sh sh' q1 hy hk h4
    subst this
    exact q2 h3
   ·obtain ⟨g, h1, _⟩ := hT b hb
    exact (hm.nn b g h1).2.2.2 k x n sh (hrow' k x hx).1 hk
  have hG : GlobOK P w (FS ⟨Jc, aG3 I B⟩ B) := by
   refine ⟨fun k hk => ?_, fun k hk => ?_, fun k hk => ?_⟩
   ·rw [← hP] at hk
    obtain ⟨g1, m, g2⟩ := hm.glob.1 k hk
    have hlt := cell_lt g2
    refine ⟨fun hmem => ?_, m, ?_⟩
    ·rcases (hFS k hmem).1 with h | h
     ·omega
     ·exact g1 h
    ·rw [← g2]; exact World.cell?_of_block (a := ⟨k, 0, none⟩) (hm.bel.block k hlt g1)
   ·rw [← hP] at hk ⊢
    obtain ⟨g1, g2⟩ := hm.glob.2.1 k hk
    have hlt := tab_lt g2 hk
    refine ⟨fun hmem => ?_, tab_same g2 hk (hm.bel.block k hlt g1)⟩
    rcases (hFS k hmem).1 with h | h
    ·omega
    ·exact g1 h
   ·rw [← hP] at hk ⊢
    obtain ⟨g1, g2⟩ := hm.glob.2.2 k hk
    have hlt := tab_lt g2 hk
    refine ⟨fun hmem => ?_, tab_same g2 hk (hm.bel.block k hlt g1)⟩
    rcases (hFS k hmem).1 with h | h
    ·omega
    ·exact g1 h
  refine (hc.calls w ⟨Jc, aG3 I B⟩ vs _ hG hJl hJr (hB ▸ aK0 hm hgn hgr) (fun b hb => ⟨(hBo b hb).2.1, (hBo b hb).2.2.1, by rw [← hP]; exact (hBo b hb).2.2.2⟩) (fun b g hb => by
   obtain ⟨h1, _⟩ := a45 hb
   obtain ⟨n1, n2, n3, n4⟩ := hm.nn b g h1
   refine ⟨n2, by rw [← hP]; exact n3, fun hbB => ?_⟩
   obtain ⟨id', n', sh', y, h3, h4, hy⟩ := hgb b hbB
   exact n4 id' y n' sh' hy h4)).mono ?_
  rintro e w' ⟨v, I1, F, rfl, hbel, hag1, hnF, hI1, hfl1, hrep, hnd, hF, hN1⟩
  rw [← hP] at hnF hI1 hF hN1
  letI : ∀ b, Decidable (w.heap.size ≤ b ∨ FS ⟨Jc, aG3 I B⟩ B b) := fun _ => Classical.propDecidable _
  let I2 : Prot := ⟨fun b o => I b o ∨ I1 b o, fun b => if w.heap.size ≤ b ∨ FS ⟨Jc, aG3 I B⟩ B b then I1.n b else I.n b⟩
  have hag : Agree w w' I := fun b o hb => hag1 b o (hJ b o hb)
  have hI2 : ∀ b o, I2 b o → b < w'.heap.size ∧ (I b o ∨ w.heap.size ≤ b ∨ FS ⟨Jc, aG3 I B⟩ B b) ∧ (w.heap.size ≤ b ∨ FS ⟨Jc, aG3 I B⟩ B b → nb w0.P w' b) := by
   rintro b o (hb | hb)
   ·refine ⟨lt_of_lt_of_le (hm.lt b o hb) hbel.size, .inl hb, ?_⟩
    rintro (h | h)
    ·have := hm.lt b o hb; omega
    ·exact hnF b h
   ·refine ⟨(hI1 b o hb).1, ?_, (hI1 b o hb).2.2⟩
    rcases hJf with hft | hJI
    ·exact .inr (hfl1 hft b o hb)
    ·rcases (hI1 b o hb).2.1 with h | h
     ·exact .inl (hJI b o h)
     ·exact .inr h
  have hn2 : ∀ b g, I2.n b = some g → w0.New b ∧ b < w'.heap.size ∧ nb w0.P w' b ∧ ∀ id r n sh, ae8 row (af2 gl) id = some r → ρ id ≠ some (.blk b n sh) := by
   intro b g hb
   simp only [I2] at hb
   split at hb
   ·rename_i hc0
    obtain ⟨q1, q2, q3, _⟩ := hN1 b g hb
    refine ⟨?_, q2, q3, fun k x n sh hx hk => ?_⟩
    ·rcases q1 with h | h
     ·exact .inl (le_trans hm.bel.size h)
     ·exact (hFS b h).1
    ·rcases q1 with h | h
     ·have := (hm.own k x b n sh (hrow' k x hx).1 hk).2.1; omega
     ·exact hrF k x b n sh hx hk h
   ·rename_i hc0
    obtain ⟨n1, n2, n3, n4⟩ := hm.nn b g hb
    exact ⟨n1, lt_of_lt_of_le n2 hbel.size, n3.same (hbel.block b n2 fun h => hc0 (.inr h)), fun k x n sh hx => n4 k x n sh (hrow' k x hx).1⟩
  obtain ⟨m1, g1⟩ := hm.called (row' := ae8 row (af2 gl)) (I' := I2) (fun id r' h => (hrow' id r' h).1) (fun id' r' g n sh h1 h2 => hrF id' r' g n sh h1 h2) hFS hbel hag hnF hI2 (fun b o hb => Or.inl hb) hn2 (by
   rintro b g hb ⟨k, x, n, sh, hx, hk⟩
   obtain ⟨n1, n2, n3, n4⟩ := hm.nn b g hb
   have hnf : ¬ FS ⟨Jc, aG3 I B⟩ B b := by
    rintro (h | h)
    ·obtain ⟨id', n', sh', y, h3, h4, hy⟩ := hgb b h
     exact n4 id' y n' sh' hy h4
    ·obtain ⟨g', h1, h2⟩ := hT b h
     rw [hb] at h1; cases h1
     exact hrF k x g n sh hx hk (.inl h2)
   refine ⟨hnf, ?_⟩
   have hc0 : ¬ (w.heap.size ≤ b ∨ FS ⟨Jc, aG3 I B⟩ B b) := by
    rintro (h | h)
    ·omega
    ·exact hnf h
   simp only [I2]
   rw [iN hc0]; exact hb)
  have hrep2 : RepP w' I2 r v F := hrep.mono (fun _ _ _ => rfl) (fun b o hb => Or.inr hb) (fun b hb => ⟨rfl, fun t ht => by
   obtain ⟨q1, q2, q3, q4, q5⟩ := hN1 t b ht
   refine ⟨by simp only [I2]; rw [iP q1]; exact ht, rfl, ?_⟩
   rintro o (ho | ho)
   ·exact q5 o (hJ t o ho)
   ·exact ho⟩)
  have hFr : bd2 w0 (ae8 row (af2 gl)) w' I2 ρ F := by
   refine ⟨fun b hb => ?_, fun b hb => ⟨?_, ?_⟩, fun b hb k x n sh hx hk => ?_, fun b hb => (hF b hb).2.2.2⟩
   ·rcases (hF b hb).1 with h | h
    ·exact .inl (le_trans hm.bel.size h)
    ·exact (hFS b h).1
   ·rintro o (ho | ho)
    ·exact ((hF b hb).2.2.1 o).2 (hJ b o ho)
    ·exact ((hF b hb).2.2.1 o).1 ho
   ·simp only [I2]
    rw [iP (hF b hb).1]
    cases h' : I1.n b with
    | none => rfl
    | some g => exact ((hN1 b g h').2.2.2.1 hb).elim
   ·rcases (hF b hb).1 with h | h
    ·have := (hm.own k x b n sh (hrow' k x hx).1 hk).2.1; omega
    ·exact hrF k x b n sh hx hk h
  obtain ⟨ρ', m2, g2, r2, l2, u2, f2⟩ := cb0 hok id0 m1 hrep2 hFr hnd (fun k hk1 hk2 => hfree k hk1 (by omega))
  have hov : ae8 (ae8 row (af2 gl)) (ah7 id0 r).2.1 = ae8 row ((ah7 id0 r).2.1 ++ af2 gl) := by
   funext k
   unfold ae8
   rw [aw8]
   cases look (ah7 id0 r).2.1 k <;> rfl
  rw [hov] at m2
  refine ⟨v, _, ρ', rfl, m2, r2, ?_⟩
  have := (g1 (fun _ => False)).trans g2 (fun b o hb => rfl)
  exact ⟨this.agree, this.mono, this.rho, fun k hk hn => this.dom k hk fun hc => by
   rcases hc with hc | hc
   ·exact hc
   ·exact hn ⟨hc.1, by omega⟩⟩
 have hIF : ∀ b o, I b o → (∀ id ∈ gl, (row id).isSome = true) → (∀ id x, id ∈ gl → row id = some x → x.prot = 0) → b ∉ ad2 ρ gl := by
  intro b o hb hgr hp0 hmem
  obtain ⟨id, n, sh, h1, h2⟩ := ap8 hmem
  obtain ⟨x, hx⟩ := isSome_iff_exists.1 (hgr id h1)
  exact (hm.own id x b n sh hx h2).2.2 o (by rw [hp0 id x h1 hx]; exact Nat.zero_le _) hb
 have hgr : ∀ id ∈ gl, (row id).isSome = true := fun id hid => by
  obtain ⟨x, hx, _⟩ := aL1 4 hds (by rw [hgl]; exact hid)
  rw [hx]; rfl
 have hp0 : ∀ id x, id ∈ gl → row id = some x → x.prot = 0 := fun id x hid hx => by
  obtain ⟨y, hy, h0⟩ := aL1 4 hds (by rw [hgl]; exact hid)
  rw [hx] at hy; cases hy; exact h0
 have hNK : ∀ (Jc : Nat → Nat → Prop), (∀ b o, aG3 I (ad2 ρ gl) b ≠ none → Jc b o → I b o) → ∀ g ∈ ad2 ρ gl, NK w w I ⟨Jc, aG3 I (ad2 ρ gl)⟩ g := by
  intro Jc h g hg t ht
  have e : aG3 I (ad2 ρ gl) t = some g := by simp [aG3, ht, hg]
  exact ⟨e, rfl, fun o ho => h t o (by rw [e]; simp) ho⟩
 rcases hfl with hft | hp
 ·let Jc : Nat → Nat → Prop := fun b o => b < w.heap.size ∧ b ∉ ad2 ρ gl ∧ (aG3 I (ad2 ρ gl) b = none ∨ I b o)
  have hJ : ∀ b o, I b o → Jc b o := fun b o hb => ⟨hm.lt b o hb, hIF b o hb hgr hp0, .inr hb⟩
  refine key Jc hJ (fun _ _ h => h.1) (fun _ _ h => h.2.1) ?_ hgr (.inl hft)
  have := (aL0 hm (J := ⟨Jc, aG3 I (ad2 ρ gl)⟩) hJ 4 hr hds (fun id hid g k sh hρ o => by
   obtain ⟨q1, q2⟩ := a04 4 hds hid
   obtain ⟨x, hx⟩ := isSome_iff_exists.1 q1
   refine ⟨(hm.own id x g k sh hx hρ).2.1, fun hmem => ?_, .inl ?_⟩
   ·obtain ⟨id', n', sh', h3, h4⟩ := ap8 hmem
    obtain ⟨y, hy⟩ := isSome_iff_exists.1 (hgr id' h3)
    have := hm.inj id id' x y g k n' sh sh' hx hy hρ h4
    subst this
    rw [hgs id h3] at q2; cases q2
   ·cases h' : aG3 I (ad2 ρ gl) g with
    | none => rfl
    | some g' => exact ((hm.nn g g' (a45 h').1).2.2.2 id x k sh hx hρ).elim) (by
   rw [hgl]
   refine hNK Jc fun b o hb hj => ?_
   rcases hj.2.2 with h | h
   ·exact absurd h hb
   ·exact h)).1
  rw [hgl] at this; exact this
 ·refine key I (fun _ _ h => h) hm.lt (fun b o hb => hIF b o hb hgr hp0) ?_ hgr (.inr fun _ _ h => h)
  have := (aL0 hm (J := ⟨I, aG3 I (ad2 ρ gl)⟩) (fun _ _ h => h) 4 hr hds (fun id hid => by rw [hp] at hid; cases hid) (by
   rw [hgl]
   exact hNK I fun _ _ _ h => h)).1
  rw [hgl] at this; exact this
end
end Go.Vm
