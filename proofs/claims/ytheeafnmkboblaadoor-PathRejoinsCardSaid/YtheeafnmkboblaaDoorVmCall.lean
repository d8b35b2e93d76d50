/- Calls by contract: what a callee promises on plain data, and what its caller then holds. -/
import Derived.Test.YtheeafnmkboblaaDoorVmStep
namespace Go.Vm
set_option autoImplicit false
open Go.RowKit (Below)

/-- WHAT A FUNCTION PROMISES: called with data ds, in whatever memory, it returns r and leaves all that was there as it was.
  fl: r shares nothing with what was handed in. -/
structure CallOK (P : Program) (f : FuncId) (ds : List PV) (r : PV) (fl : Bool) : Prop where
  enter : ∀ (args : Array Value) (w : World), (callFunc f args).run P w = .ok (.enter f args) w
  calls : ∀ (w : World) (I : Nat → Prop) (vs : Array Value), (∀ b, I b → b < w.heap.size) → RepPs w I ds vs.toList [] →
    Calls P f vs w fun e w' => ∃ v I' F, e = .returned v ∧ Below w.heap.size w w' ∧ (∀ b, I' b → b < w'.heap.size ∧ (I b ∨ w.heap.size ≤ b)) ∧ (fl = true → ∀ b, I' b → w.heap.size ≤ b) ∧
      RepP w' I' r v F ∧ F.Nodup ∧ (∀ b ∈ F, w.heap.size ≤ b ∧ b < w'.heap.size ∧ ¬ I' b)

def VCall (P : Program) (f : FuncId) (ds : List PV) (K : PV → Bool → Prop) : Prop := ∃ r fl, CallOK P f ds r fl ∧ K r fl

def importOkV : PV → Bool
  | .agg cs => cs.all PV.one
  | p => p.one
def importOk : PV → Bool
  | .tup vs => vs.all importOkV
  | p => importOkV p

/-- behind a call: old memory as it was, more that never changes -/
theorem Mem.called {w0 : World} {I0 : Nat → Prop} {row : Rows'} {w : World} {I : Nat → Prop} {ρ : Nat → Option Loc} (h : Mem w0 I0 row w I ρ) {w' : World} {I' : Nat → Prop} (hb : Below w.heap.size w w')
    (hI : ∀ b, I' b → b < w'.heap.size ∧ (I b ∨ w.heap.size ≤ b)) (hi : ∀ b, I b → I' b) : Mem w0 I0 row w' I' ρ ∧ ∀ ids, Grow w I ρ w' I' ρ ids := by
  have hag : Agree w w' I := fun b hb' => hb.block b (h.lt b hb')
  refine ⟨{ bel := h.bel.trans (hb.mono h.bel.size), i0 := fun b hb' => hi b (h.i0 b hb'), lt := fun b hb' => (hI b hb').1, new := fun b hb' => ?_, rows := ?_, own := ?_, inj := h.inj },
    fun ids => ⟨hag, hi, fun _ _ h => h, fun _ h _ => h⟩⟩
  · rcases (hI b hb').2 with hh | hh
    · exact h.new b hh
    · exact .inr (Nat.le_trans h.bel.size hh)
  · intro id r hr
    obtain ⟨l, h1, h2⟩ := h.rows id r hr
    refine ⟨l, h1, h2.mono hag hi (fun _ _ h => h) fun g n sh hl => ?_⟩
    subst hl
    exact hb.block g (h.own id r g n sh hr h1).2.1
  · intro id r g n sh hr hρ
    obtain ⟨o1, o2, o3⟩ := h.own id r g n sh hr hρ
    refine ⟨o1, Nat.lt_of_lt_of_le o2 hb.size, fun hh => ?_⟩
    rcases (hI g hh).2 with hh | hh
    · exact o3 hh
    · omega

/-- a block that is already there becomes a row -/
theorem Mem.adopt {w0 : World} {I0 : Nat → Prop} {row : Rows'} {w : World} {I : Nat → Prop} {ρ : Nat → Option Loc} (h : Mem w0 I0 row w I ρ) {id g : Nat} (hid : ρ id = none)
    {r : Row} {cur : Array Value} {t : TypeId} {vs : List Value} (hg : w.heap[g]? = some (.cells cur t (0, 0))) (hf : ∀ e ∈ r.es, e.fits r.sh = true) (hr : RepHs w I ρ r.flat vs) (hp : cur.toList.take vs.length = vs)
    (h1 : w0.heap.size ≤ g) (h2 : ¬ I g) (h3 : ∀ k x n sh, row k = some x → ρ k = some (.blk g n sh) → False) :
    Mem w0 I0 (over row [(id, some r)]) w I (put ρ id (.blk g cur.size r.sh)) ∧ Grow w I ρ w I (put ρ id (.blk g cur.size r.sh)) (fun k => k = id) := by
  have hmono := put_mono (l := .blk g cur.size r.sh) hid
  have hlt : g < w.heap.size := (Array.getElem?_eq_some_iff.1 hg).1
  have hlive : ∀ k x, over row [(id, some r)] k = some x → (k = id ∧ x = r) ∨ (k ≠ id ∧ row k = some x) := by
    intro k x hx
    unfold over look at hx
    by_cases hk : id = k
    · simp [hk] at hx; exact .inl ⟨hk.symm, hx.symm⟩
    · simp [hk, look] at hx; exact .inr ⟨Ne.symm hk, hx⟩
  refine ⟨{ bel := h.bel, i0 := h.i0, lt := h.lt, new := h.new, rows := ?_, own := ?_, inj := ?_ },
    ⟨fun _ _ => rfl, fun _ h => h, hmono, fun k hk hne => by simp [put, hne, hk]⟩⟩
  · intro k x hx
    rcases hlive k x hx with ⟨rfl, rfl⟩ | ⟨hk, hx⟩
    · exact ⟨.blk g cur.size x.sh, by simp [put], rfl, hf, cur, t, vs, hg, rfl, hr.mono (fun _ _ => rfl) (fun _ h => h) hmono, hp⟩
    · obtain ⟨l, h1, h2⟩ := h.rows k x hx
      exact ⟨l, hmono k l h1, h2.mono (fun _ _ => rfl) (fun _ h => h) hmono fun _ _ _ _ => rfl⟩
  · intro k x g' n sh hx hk
    rcases hlive k x hx with ⟨rfl, rfl⟩ | ⟨hne, hx⟩
    · simp [put] at hk
      obtain ⟨rfl, _, _⟩ := hk
      exact ⟨h1, hlt, h2⟩
    · exact h.own k x g' n sh hx (by simpa [put, hne] using hk)
  · intro k k' x x' g' n n' sh sh' hx hx' hk hk'
    rcases hlive k x hx with ⟨rfl, rfl⟩ | ⟨hne, hx⟩ <;> rcases hlive k' x' hx' with ⟨rfl, rfl⟩ | ⟨hne', hx'⟩
    · rfl
    · simp [put] at hk
      obtain ⟨rfl, _, _⟩ := hk
      exact (h3 k' x' n' sh' hx' (by simpa [put, hne'] using hk')).elim
    · simp [put] at hk'
      obtain ⟨rfl, _, _⟩ := hk'
      exact (h3 k x n sh (by assumption) (by simpa [put, hne] using hk)).elim
    · exact h.inj k k' x x' g' n n' sh sh' hx hx' (by simpa [put, hne] using hk) (by simpa [put, hne'] using hk')

theorem RepP.oneF {w : World} {I : Nat → Prop} {p : PV} {v : Value} {F : List Nat} (h : RepP w I p v F) (ho : p.one = true) (hu : ∀ sh es, p ≠ .usl sh es) : F = [] := by
  cases h with
  | agg _ => simp [PV.one] at ho
  | tup _ => simp [PV.one] at ho
  | usl _ _ _ _ _ _ => exact absurd rfl (hu _ _)
  | _ => rfl

section
variable {w0 : World} {I0 : Nat → Prop} {w : World} {I : Nat → Prop}

/-- what is true of the blocks that a callee has handed over -/
structure Fresh (w0 : World) (row : Rows') (w : World) (I : Nat → Prop) (ρ : Nat → Option Loc) (F : List Nat) : Prop where
  lo : ∀ b ∈ F, w0.heap.size ≤ b
  notI : ∀ b ∈ F, ¬ I b
  free : ∀ b ∈ F, ∀ k x n sh, row k = some x → ρ k = some (.blk b n sh) → False

theorem look_append {α : Type} (u v : List (Nat × α)) (k : Nat) : look (u ++ v) k = (match look u k with | some x => some x | none => look v k) := by
  induction u with
  | nil => rfl
  | cons p u ih =>
    simp only [List.cons_append, look]
    split
    · rfl
    · exact ih
theorem importCell_le (id : Nat) (p : PV) : id ≤ (importCell id p).2.2 := by cases p <;> simp [importCell]
theorem importL_le {imp : Nat → PV → HV × Upd × Nat} (hi : ∀ id p, id ≤ (imp id p).2.2) : ∀ (id : Nat) (ps : List PV), id ≤ (importL imp id ps).2.2
  | _, [] => Nat.le_refl _
  | id, p :: ps => Nat.le_trans (hi id p) (importL_le hi _ ps)
theorem over_append (row : Rows') (u v : Upd) (hd : ∀ k, (look u k).isSome = true → look v k = none) : over (over row u) v = over row (u ++ v) := by
  funext k
  unfold over
  rw [look_append]
  cases hu : look u k with
  | none => rfl
  | some x => simp [hd k (by simp [hu])]

def UpdIn (u : Upd) (a b : Nat) : Prop := ∀ k, (look u k).isSome = true → a ≤ k ∧ k < b

/-- what an import has to show -/
def ImpOK (w0 : World) (I0 : Nat → Prop) (w : World) (I : Nat → Prop) (imp : Nat → PV → HV × Upd × Nat) (p : PV) : Prop :=
  ∀ {row : Rows'} {ρ : Nat → Option Loc} {v : Value} {F : List Nat} (id : Nat), Mem w0 I0 row w I ρ → RepP w I p v F → Fresh w0 row w I ρ F → F.Nodup → (∀ k, id ≤ k → k < (imp id p).2.2 → ρ k = none) →
    ∃ ρ', Mem w0 I0 (over row (imp id p).2.1) w I ρ' ∧ Grow w I ρ w I ρ' (fun k => id ≤ k ∧ k < (imp id p).2.2) ∧ RepH w I ρ' (imp id p).1 v ∧ id ≤ (imp id p).2.2 ∧
      UpdIn (imp id p).2.1 id (imp id p).2.2 ∧ (∀ G, Fresh w0 row w I ρ G → (∀ b ∈ G, b ∉ F) → Fresh w0 (over row (imp id p).2.1) w I ρ' G)

theorem import_cell {p : PV} (ho : p.one = true) : ImpOK w0 I0 w I importCell p := by
  intro row ρ v F id hm hr hF _ hfree
  by_cases hu : ∃ sh es, p = .usl sh es
  · obtain ⟨sh, es, rfl⟩ := hu
    simp only [importCell] at hfree ⊢
    have hupd : UpdIn [(id, some (Row.p sh es))] id (id + 1) := by
      intro k hk
      simp only [look] at hk
      split at hk
      · omega
      · cases hk
    cases hr with
    | uslNil =>
      obtain ⟨m1, m2⟩ := hm.allocNil (hfree id (Nat.le_refl _) (by omega)) (r := .p sh []) rfl
      refine ⟨_, m1, ⟨m2.agree, m2.mono, m2.rho, fun k hk hn => m2.dom k hk fun e => hn (by subst e; omega)⟩, .oslNil (by simp [put]), by omega, hupd, fun G hG hd => ⟨hG.lo, hG.notI, fun b hb k x n sh' hx hk => ?_⟩⟩
      by_cases hkid : k = id
      · subst hkid; simp [put] at hk
      · refine hG.free b hb k x n sh' ?_ (by simpa [put, hkid] using hk)
        unfold over at hx
        simpa [look, Ne.symm hkid] using hx
    | @usl _ _ vs g cap cur e hfit h hg hcap hcur hpre =>
      have hrep : RepHs w I ρ (Row.flat (.p sh es)) vs := by
        have := h.toH (ρ := ρ) rfl
        simpa [Row.flat, Row.es, List.flatMap_map, HV.cells_pv, List.map_flatMap] using this
      obtain ⟨m1, m2⟩ := hm.adopt (hfree id (Nat.le_refl _) (by omega)) (r := .p sh es) hg (by
          intro x hx
          simp only [Row.es, List.mem_map] at hx
          obtain ⟨q, hq, rfl⟩ := hx
          rw [HV.fits_pv]; exact hfit q hq) hrep hpre (hF.lo g (by simp)) (hF.notI g (by simp)) (hF.free g (by simp))
      refine ⟨_, m1, ⟨m2.agree, m2.mono, m2.rho, fun k hk hn => m2.dom k hk fun e => hn (by subst e; omega)⟩, ?_, by omega, hupd, fun G hG hd => ⟨hG.lo, hG.notI, fun b hb k x n sh' hx hk => ?_⟩⟩
      · have := RepH.osl (w := w) (I := I) (ρ := put ρ id (.blk g cur.size (Row.sh (.p sh es)))) (id := id) (off := 0) (len := es.length) (cap := cap) (g := g) (n := cur.size) (sh := sh) (by simp [put, Row.sh]) (by rw [hcur]; simp) hcap
        simpa using this
      · by_cases hkid : k = id
        · subst hkid
          simp [put] at hk
          exact hd b hb (by simp [hk.1])
        · refine hG.free b hb k x n sh' ?_ (by simpa [put, hkid] using hk)
          unfold over at hx
          simpa [look, Ne.symm hkid] using hx
  · have hu' : ∀ sh es, p ≠ .usl sh es := fun sh es e => hu ⟨sh, es, e⟩
    have hic : importCell id p = (.pv p, [], id) := by
      cases p <;> first | rfl | exact absurd rfl (hu' _ _)
    obtain rfl := hr.oneF ho hu'
    rw [hic]
    refine ⟨ρ, hm, .refl, .pv hr, Nat.le_refl _, fun k hk => by simp [look] at hk, fun G hG _ => hG⟩

theorem Grow.trans {w w1 w2 : World} {I I1 I2 : Nat → Prop} {ρ ρ1 ρ2 : Nat → Option Loc} {ids ids' : Nat → Prop} (h : Grow w I ρ w1 I1 ρ1 ids) (h' : Grow w1 I1 ρ1 w2 I2 ρ2 ids') (hs : ∀ b, I b → w2.heap[b]? = w1.heap[b]?) :
    Grow w I ρ w2 I2 ρ2 (fun k => ids k ∨ ids' k) :=
  ⟨fun b hb => (hs b hb).trans (h.agree b hb), fun b hb => h'.mono b (h.mono b hb), fun id l hl => h'.rho id l (h.rho id l hl), fun id hid hn => h'.dom id (h.dom id hid fun e => hn (.inl e)) fun e => hn (.inr e)⟩

theorem import_list {imp : Nat → PV → HV × Upd × Nat} (hle : ∀ id p, id ≤ (imp id p).2.2) : ∀ {ps : List PV} {row : Rows'} {ρ : Nat → Option Loc} {vs : List Value} {F : List Nat} (id : Nat), Mem w0 I0 row w I ρ → RepPs w I ps vs F →
    (∀ p ∈ ps, ImpOK w0 I0 w I imp p) → Fresh w0 row w I ρ F → F.Nodup → (∀ k, id ≤ k → k < (importL imp id ps).2.2 → ρ k = none) →
    ∃ ρ', Mem w0 I0 (over row (importL imp id ps).2.1) w I ρ' ∧ Grow w I ρ w I ρ' (fun k => id ≤ k ∧ k < (importL imp id ps).2.2) ∧ RepHs w I ρ' (importL imp id ps).1 vs ∧ id ≤ (importL imp id ps).2.2 ∧
      UpdIn (importL imp id ps).2.1 id (importL imp id ps).2.2 ∧ (∀ G, Fresh w0 row w I ρ G → (∀ b ∈ G, b ∉ F) → Fresh w0 (over row (importL imp id ps).2.1) w I ρ' G)
  | [], row, ρ, vs, F, id, hm, hr, ho, hF, hn, hfree => by
    cases hr
    exact ⟨ρ, hm, .refl, .nil, Nat.le_refl _, fun k hk => by simp [importL, look] at hk, fun G hG _ => hG⟩
  | p :: ps, row, ρ, vs, F, id, hm, hr, ho, hF, hn, hfree => by
    cases hr with
    | @cons _ v F1 _ vs G1 h r =>
      have hn1 := (List.nodup_append.1 hn)
      have hF1 : Fresh w0 row w I ρ F1 := ⟨fun b hb => hF.lo b (by simp [hb]), fun b hb => hF.notI b (by simp [hb]), fun b hb => hF.free b (by simp [hb])⟩
      have hG1 : Fresh w0 row w I ρ G1 := ⟨fun b hb => hF.lo b (by simp [hb]), fun b hb => hF.notI b (by simp [hb]), fun b hb => hF.free b (by simp [hb])⟩
      have c1 := fun hf => ho p (by simp) id hm h hF1 hn1.1 hf
      have c2 := fun (id' : Nat) (row' : Rows') (ρ' : Nat → Option Loc) (m' : Mem w0 I0 row' w I ρ') (hF' : Fresh w0 row' w I ρ' G1) => import_list hle id' m' r (fun q hq => ho q (by simp [hq])) hF' hn1.2.1
      have e0 : importL imp id (p :: ps) = ((imp id p).1 :: (importL imp (imp id p).2.2 ps).1, (imp id p).2.1 ++ (importL imp (imp id p).2.2 ps).2.1, (importL imp (imp id p).2.2 ps).2.2) := rfl
      have hle2 : (imp id p).2.2 ≤ (importL imp (imp id p).2.2 ps).2.2 := importL_le hle _ _
      have hle1 : id ≤ (imp id p).2.2 := hle _ _
      rw [e0] at hfree ⊢
      generalize hA : imp id p = A at *
      obtain ⟨a1, a2, a3⟩ := A
      have c2 := c2 a3
      simp only at *
      generalize hB : importL imp a3 ps = B at *
      obtain ⟨b1, b2, b3⟩ := B
      simp only at *
      obtain ⟨ρ1, m1, g1, r1, l1, u1, f1⟩ := c1 (fun k hk1 hk2 => hfree k hk1 (Nat.lt_of_lt_of_le hk2 hle2))
      obtain ⟨ρ2, m2, g2, r2, l2, u2, f2⟩ := c2 _ _ m1 (f1 G1 hG1 (fun b hb hb' => hn1.2.2 b hb' b hb rfl))
        (fun k hk1 hk2 => g1.dom k (hfree k (Nat.le_trans l1 hk1) hk2) (fun hc => by omega))
      have hov : over (over row a2) b2 = over row (a2 ++ b2) :=
        over_append row _ _ fun k hk => by
          cases hl : look b2 k with
          | none => rfl
          | some x => have := u1 k hk; have := u2 k (by simp [hl]); omega
      rw [hov] at m2
      refine ⟨ρ2, m2, ?_, .cons (g2.H r1) r2, Nat.le_trans l1 l2, ?_, ?_⟩
      · have := g1.trans g2 (fun b hb => rfl)
        exact ⟨this.agree, this.mono, this.rho, fun k hk hn => this.dom k hk fun hc => hn (by rcases hc with hc | hc <;> omega)⟩
      · intro k hk
        rw [look_append] at hk
        cases h1 : look a2 k with
        | some x => have := u1 k (by simp [h1]); omega
        | none => rw [h1] at hk; have := u2 k hk; omega
      · intro G hG hd
        rw [← hov]
        exact f2 G (f1 G hG fun b hb hb' => hd b hb (by simp [hb'])) fun b hb hb' => hd b hb (by simp [hb'])

theorem importV_le (id : Nat) (p : PV) : id ≤ (importV id p).2.2 := by
  cases p <;> first | exact importCell_le id _ | exact importL_le importCell_le id _
theorem importR_le (id : Nat) (p : PV) : id ≤ (importR id p).2.2 := by
  cases p <;> first | exact importV_le id _ | exact importL_le importV_le id _

theorem import_v {p : PV} (ho : importOkV p = true) : ImpOK w0 I0 w I importV p := by
  cases p with
  | agg cs =>
    intro row ρ v F id hm hr hF hn hfree
    cases hr with
    | agg hr =>
      have hall : ∀ q ∈ cs, q.one = true := by simpa [importOkV] using ho
      obtain ⟨ρ', m, g, r, l, u, f⟩ := import_list importCell_le id hm hr (fun q hq => import_cell (hall q hq)) hF hn hfree
      exact ⟨ρ', m, g, RepHs.mkAgg r, l, u, f⟩
  | tup cs => simp [importOkV, PV.one] at ho
  | _ => exact import_cell rfl
theorem import_r {p : PV} (ho : importOk p = true) : ImpOK w0 I0 w I importR p := by
  cases p with
  | tup cs =>
    intro row ρ v F id hm hr hF hn hfree
    cases hr with
    | tup hr =>
      have hall : ∀ q ∈ cs, importOkV q = true := by simpa [importOk] using ho
      obtain ⟨ρ', m, g, r, l, u, f⟩ := import_list importV_le id hm hr (fun q hq => import_v (hall q hq)) hF hn hfree
      exact ⟨ρ', m, g, .tup r, l, u, f⟩
  | _ =>
    intro row ρ v F id hm hr hF hn hfree
    exact import_v (by simpa [importOk] using ho) id hm hr hF hn hfree

/-! ### arguments -/
theorem reify_own {row : Rows'} {ρ : Nat → Option Loc} (hm : Mem w0 I0 row w I ρ) {id off len : Nat} {sh : Shape} {es : List PV} {v : Value} (hr : RepH w I ρ (.osl id off len) v) (hrow : row id = some (.p sh es)) (hle : off + len ≤ es.length) :
    RepP w (fun b => b < w.heap.size) (.sl sh ((es.drop off).take len)) v [] := by
  obtain ⟨l, hl, hrr⟩ := hm.rows id _ hrow
  have hlen : ((es.drop off).take len).length = len := by simp; omega
  rcases hr.osl_inv with ⟨g, n, sh', cap, o, hρ, hv, hcap, ho⟩ | ⟨hρ, rfl, rfl, hv⟩
  · rw [hρ] at hl
    simp only [Option.some.injEq] at hl; subst hl
    obtain ⟨hsh, hf, cur, ty, vs, hg, hn, hvs, hp⟩ := hrr
    obtain rfl : sh = sh' := hsh
    have hlt : g < w.heap.size := (Array.getElem?_eq_some_iff.1 hg).1
    have hfp : ∀ e ∈ es, e.fits sh = true := fun e he => by rw [← HV.fits_pv]; exact hf (.pv e) (by simp [Row.es, he])
    have hfe : ∀ e ∈ (es.drop off).take len, e.fits sh = true := fun e he => hfp e (List.mem_of_mem_drop (List.mem_of_mem_take he))
    have hflat : Row.flat (.p sh es) = (es.flatMap PV.cells).map .pv := by simp [Row.flat, Row.es, List.flatMap_map, HV.cells_pv, List.map_flatMap]
    rw [hflat] at hvs
    have h0 : ∀ e ∈ es, e.cells.length = sh.size := fun e he => (PV.fits_cells (hfp e he)).1
    rcases ho with ⟨rfl, hn'⟩ | ⟨rfl, rfl, _⟩
    · have h1 := ((hvs.drop (off * sh.size)).take (len * sh.size))
      rw [← List.map_drop, ← List.map_take, flat_drop h0, flat_take (fun e he => h0 e (List.mem_of_mem_drop he))] at h1
      have h2 := h1.toP.mono (w' := w) (I' := fun b => b < w.heap.size) (fun _ _ => rfl) hm.lt (by simp)
      have h3 := RepP.sl (o := off * sh.size) (b := g) (cap := cap) (fun _ => hlt) hfe (by rw [hlen]; exact hcap) h2 (fun i x hx => take_cells hp hg _ _ (drop_take_get hx))
      rw [hlen] at h3
      rw [hv]; exact h3
    · have : (es.drop off).take 0 = [] := by simp
      rw [this, hv]
      have h3 := RepP.sl (w := w) (I := fun b => b < w.heap.size) (sh := sh) (es := []) (vs := []) (b := g) (o := o) (cap := 0) (fun h => absurd rfl h) (by simp) (by simp) .nil (by simp)
      simpa using h3
  · rw [hv]
    simp only [List.take_zero]
    exact .slNil sh

theorem reify_own' {row : Rows'} {ρ : Nat → Option Loc} (hm : Mem w0 I0 row w I ρ) {id off len : Nat} {sh : Shape} {es : List PV} {v : Value} (hr : RepH w I ρ (.osl id off len) v) (hrow : row id = some (.p sh es)) (hle : off + len ≤ es.length) {J : Nat → Prop} (hJ : ∀ b, I b → J b) (hJg : ∀ g n sh, ρ id = some (.blk g n sh) → J g) :
    RepP w J (.sl sh ((es.drop off).take len)) v [] := by
  obtain ⟨l, hl, hrr⟩ := hm.rows id _ hrow
  have hlen : ((es.drop off).take len).length = len := by simp; omega
  rcases hr.osl_inv with ⟨g, n, sh', cap, o, hρ, hv, hcap, ho⟩ | ⟨hρ, rfl, rfl, hv⟩
  · rw [hρ] at hl
    simp only [Option.some.injEq] at hl; subst hl
    obtain ⟨hsh, hf, cur, ty, vs, hg, hn, hvs, hp⟩ := hrr
    obtain rfl : sh = sh' := hsh
    have hfp : ∀ e ∈ es, e.fits sh = true := fun e he => by rw [← HV.fits_pv]; exact hf (.pv e) (by simp [Row.es, he])
    have hfe : ∀ e ∈ (es.drop off).take len, e.fits sh = true := fun e he => hfp e (List.mem_of_mem_drop (List.mem_of_mem_take he))
    have hflat : Row.flat (.p sh es) = (es.flatMap PV.cells).map .pv := by simp [Row.flat, Row.es, List.flatMap_map, HV.cells_pv, List.map_flatMap]
    rw [hflat] at hvs
    have h0 : ∀ e ∈ es, e.cells.length = sh.size := fun e he => (PV.fits_cells (hfp e he)).1
    rcases ho with ⟨rfl, hn'⟩ | ⟨rfl, rfl, _⟩
    · have h1 := ((hvs.drop (off * sh.size)).take (len * sh.size))
      rw [← List.map_drop, ← List.map_take, flat_drop h0, flat_take (fun e he => h0 e (List.mem_of_mem_drop he))] at h1
      have h2 := h1.toP.mono (w' := w) (I' := J) (fun _ _ => rfl) hJ (by simp)
      have h3 := RepP.sl (o := off * sh.size) (b := g) (cap := cap) (fun _ => hJg _ _ _ hρ) hfe (by rw [hlen]; exact hcap) h2 (fun i x hx => take_cells hp hg _ _ (drop_take_get hx))
      rw [hlen] at h3
      rw [hv]; exact h3
    · have : (es.drop off).take 0 = [] := by simp
      rw [this, hv]
      have h3 := RepP.sl (w := w) (I := J) (sh := sh) (es := []) (vs := []) (b := g) (o := o) (cap := 0) (fun h => absurd rfl h) (by simp) (by simp) .nil (by simp)
      simpa using h3
  · rw [hv]
    simp only [List.take_zero]
    exact .slNil sh


/-- a row of the call's own to which one slot alone leads becomes plain data -/
theorem freeze_row {row : Rows'} {ρ : Nat → Option Loc} {id len : Nat} {sh : Shape} {es : List PV} {upd : Upd} {v : Value} (hm : Mem w0 I0 (over row ((id, some (.p sh es)) :: upd)) w I ρ) (hr : RepH w I ρ (.osl id 0 len) v) (hle : len ≤ es.length)
    (hu : look upd id = none) (hrow : row id = none) : ∃ I2, Mem w0 I0 (over row upd) w I2 ρ ∧ RepH w I2 ρ (.pv (.sl sh (es.take len))) v ∧ ∀ b, I b → I2 b := by
  have hthis : over row ((id, some (.p sh es)) :: upd) id = some (.p sh es) := by simp [over, look]
  have hother : ∀ k, k ≠ id → over row ((id, some (.p sh es)) :: upd) k = over row upd k := fun k hk => by simp [over, look, Ne.symm hk]
  have hnone : over row upd id = none := by simp [over, hu, hrow]
  refine ⟨fun b => I b ∨ ∃ n sh, ρ id = some (.blk b n sh), ?_, .pv ?_, fun b hb => .inl hb⟩
  · refine { bel := hm.bel, i0 := fun b hb => .inl (hm.i0 b hb), lt := ?_, new := ?_, rows := ?_, own := ?_, inj := ?_ }
    · rintro b (hb | ⟨n, sh', hb⟩)
      · exact hm.lt b hb
      · exact (hm.own id _ b n sh' hthis hb).2.1
    · rintro b (hb | ⟨n, sh', hb⟩)
      · exact hm.new b hb
      · exact .inr (hm.own id _ b n sh' hthis hb).1
    · intro k r hk
      have hki : k ≠ id := fun e => by subst e; rw [hnone] at hk; cases hk
      obtain ⟨l, h1, h2⟩ := hm.rows k r (by rw [hother k hki]; exact hk)
      exact ⟨l, h1, h2.mono (fun _ _ => rfl) (fun b hb => .inl hb) (fun _ _ h => h) fun _ _ _ _ => rfl⟩
    · intro k r g n sh' hk hρ
      have hki : k ≠ id := fun e => by subst e; rw [hnone] at hk; cases hk
      have hk' : over row ((id, some (.p sh es)) :: upd) k = some r := by rw [hother k hki]; exact hk
      obtain ⟨o1, o2, o3⟩ := hm.own k r g n sh' hk' hρ
      refine ⟨o1, o2, ?_⟩
      rintro (hb | ⟨n', sh'', hb⟩)
      · exact o3 hb
      · exact hki (hm.inj k id r _ g n n' sh' sh'' hk' hthis hρ hb)
    · intro k k' r r' g n n' sh1 sh2 hk hk' hρ hρ'
      have hki : k ≠ id := fun e => by subst e; rw [hnone] at hk; cases hk
      have hki' : k' ≠ id := fun e => by subst e; rw [hnone] at hk'; cases hk'
      exact hm.inj k k' r r' g n n' sh1 sh2 (by rw [hother k hki]; exact hk) (by rw [hother k' hki']; exact hk') hρ hρ'
  · have := reify_own' hm hr hthis (by simpa using hle) (J := fun b => I b ∨ ∃ n sh, ρ id = some (.blk b n sh)) (fun b hb => .inl hb) (fun g n sh h => .inr ⟨n, sh, h⟩)
    simpa using this

/- fresh slices that are given up to be data that never change -/
mutual
inductive Frz : PV → PV → Prop
  | refl (p : PV) : Frz p p
  | usl (sh : Shape) (es : List PV) : Frz (.usl sh es) (.sl sh es)
  | agg {a b : List PV} (h : Frzs a b) : Frz (.agg a) (.agg b)
  | tup {a b : List PV} (h : Frzs a b) : Frz (.tup a) (.tup b)
inductive Frzs : List PV → List PV → Prop
  | nil : Frzs [] []
  | cons {p q : PV} {ps qs : List PV} (h : Frz p q) (r : Frzs ps qs) : Frzs (p :: ps) (q :: qs)
end
mutual
theorem RepP.frz {w : World} {I : Nat → Prop} : ∀ {p q : PV} {v : Value} {F : List Nat}, RepP w I p v F → F.Nodup → Frz p q → ∃ F', (∀ b ∈ F', b ∈ F) ∧ F'.Nodup ∧ RepP w (fun b => I b ∨ (b ∈ F ∧ b ∉ F')) q v F'
  | _, _, _, F, h, hn, .refl _ => ⟨F, fun _ h => h, hn, h.mono (fun _ _ => rfl) (fun b hb => .inl hb) fun _ _ => rfl⟩
  | .usl sh es, .sl _ _, _, _, h, _, .usl _ _ => by
    cases h with
    | uslNil _ => exact ⟨[], by simp, by simp, .slNil sh⟩
    | @usl _ _ vs g cap cur e hfit h hg hcap hcur hpre =>
      exact ⟨[], by simp, by simp, .sl (o := 0) (b := g) (cap := cap) (fun _ => .inr (by simp)) hfit hcap (h.mono (fun _ _ => rfl) (fun b hb => .inl hb) (by simp)) fun i x hx => by rw [Nat.zero_add]; exact take_cells hpre hg i x hx⟩
  | _, _, _, _, .agg h, hn, .agg hl => by
    obtain ⟨F', h1, h2, h3⟩ := RepPs.frz h hn hl
    exact ⟨F', h1, h2, .agg h3⟩
  | _, _, _, _, .tup h, hn, .tup hl => by
    obtain ⟨F', h1, h2, h3⟩ := RepPs.frz h hn hl
    exact ⟨F', h1, h2, .tup h3⟩
theorem RepPs.frz {w : World} {I : Nat → Prop} : ∀ {ps qs : List PV} {vs : List Value} {F : List Nat}, RepPs w I ps vs F → F.Nodup → Frzs ps qs → ∃ F', (∀ b ∈ F', b ∈ F) ∧ F'.Nodup ∧ RepPs w (fun b => I b ∨ (b ∈ F ∧ b ∉ F')) qs vs F'
  | _, _, _, _, .nil, _, .nil => ⟨[], by simp, by simp, .nil⟩
  | _, _, _, _, @RepPs.cons _ _ _ _ F1 _ _ F2 h r, hn, .cons h1 r1 => by
    obtain ⟨n1, n2, n3⟩ := List.nodup_append.1 hn
    obtain ⟨G1, a1, a2, a3⟩ := RepP.frz h n1 h1
    obtain ⟨G2, b1, b2, b3⟩ := RepPs.frz r n2 r1
    refine ⟨G1 ++ G2, fun b hb => ?_, List.nodup_append.2 ⟨a2, b2, fun x hx y hy => n3 x (a1 x hx) y (b1 y hy)⟩, .cons ?_ ?_⟩
    · rcases List.mem_append.1 hb with hb | hb
      · exact List.mem_append.2 (.inl (a1 b hb))
      · exact List.mem_append.2 (.inr (b1 b hb))
    · refine a3.mono (fun _ _ => rfl) (fun b hb => ?_) fun _ _ => rfl
      rcases hb with hb | ⟨hb, hb'⟩
      · exact .inl hb
      · exact .inr ⟨List.mem_append.2 (.inl hb), fun hc => by
          rcases List.mem_append.1 hc with hc | hc
          · exact hb' hc
          · exact n3 b hb b (b1 b hc) rfl⟩
    · refine b3.mono (fun _ _ => rfl) (fun b hb => ?_) fun _ _ => rfl
      rcases hb with hb | ⟨hb, hb'⟩
      · exact .inl hb
      · exact .inr ⟨List.mem_append.2 (.inr hb), fun hc => by
          rcases List.mem_append.1 hc with hc | hc
          · exact n3 b (a1 b hc) b hb rfl
          · exact hb' hc⟩
end
theorem CallOK.frz {P : Program} {f : FuncId} {ds : List PV} {r r' : PV} {fl : Bool} (h : CallOK P f ds r fl) (hl : Frz r r') : CallOK P f ds r' fl :=
  ⟨h.enter, fun w I vs hI hr => (h.calls w I vs hI hr).mono (by
    rintro e w' ⟨v, I', F, rfl, h1, h2, h3, h4, h5, h6⟩
    obtain ⟨F', f1, f2, f3⟩ := h4.frz h5 hl
    refine ⟨v, fun b => I' b ∨ (b ∈ F ∧ b ∉ F'), F', rfl, h1, ?_, ?_, f3, f2, ?_⟩
    · rintro b (hb | ⟨hb, _⟩)
      · exact h2 b hb
      · exact ⟨(h6 b hb).2.1, .inr (h6 b hb).1⟩
    · rintro hfl b (hb | ⟨hb, _⟩)
      · exact h3 hfl b hb
      · exact (h6 b hb).1
    · intro b hb
      obtain ⟨a, b', c⟩ := h6 b (f1 b hb)
      refine ⟨a, b', ?_⟩
      rintro (hh | ⟨_, hh⟩)
      · exact c hh
      · exact hh hb)⟩

theorem reify_ptr {row : Rows'} {ρ : Nat → Option Loc} (hm : Mem w0 I0 row w I ρ) {id idx off : Nat} {sh : Shape} {es : List PV} {e : PV} {v : Value} (hr : RepH w I ρ (.optr id idx off) v) (hrow : row id = some (.p sh es)) (he : es[idx]? = some e) :
    RepP w (fun b => b < w.heap.size) (.rptr sh e off) v [] := by
  obtain ⟨g, n, sh', hρ, hv⟩ := hr.optr_inv
  obtain ⟨l, hl, hrr⟩ := hm.rows id _ hrow
  rw [hρ] at hl
  simp only [Option.some.injEq] at hl; subst hl
  obtain ⟨hfit, us, hus, hc⟩ := row_elem hrr (idx := idx) (e := .pv e) (by simp [Row.es, he])
  obtain rfl : sh = sh' := hrr.1
  have hlt : g < w.heap.size := by
    obtain ⟨_, _, cur, ty, vs, hg, _⟩ := hrr
    exact (Array.getElem?_eq_some_iff.1 hg).1
  rw [HV.cells_pv] at hus
  rw [hv]
  exact .rptr hlt (by rw [← HV.fits_pv]; exact hfit) (hus.toP.mono (fun _ _ => rfl) hm.lt (by simp)) hc

mutual
theorem reify_rep {row : Rows'} {ρ : Nat → Option Loc} (hm : Mem w0 I0 row w I ρ) : ∀ (n : Nat) {h : HV} {v : Value} {p : PV}, RepH w I ρ h v → reify row n h = some p → RepP w (fun b => b < w.heap.size) p v []
  | n, .pv q, v, p, hr, hp => by
    have : p = q := by
      cases n <;> simp [reify] at hp <;> exact hp.symm
    subst this
    cases hr with
    | pv h => exact h.mono (fun _ _ => rfl) hm.lt (by simp)
  | 0, .undef, v, p, hr, hp => by simp [reify] at hp
  | 0, .agg _, v, p, hr, hp => by simp [reify] at hp
  | 0, .tup _, v, p, hr, hp => by simp [reify] at hp
  | 0, .osl _ _ _, v, p, hr, hp => by simp [reify] at hp
  | 0, .optr _ _ _, v, p, hr, hp => by simp [reify] at hp
  | 0, .fn _ _, v, p, hr, hp => by simp [reify] at hp
  | n + 1, .undef, v, p, hr, hp => by simp [reify] at hp
  | n + 1, .tup _, v, p, hr, hp => by simp [reify] at hp
  | n + 1, .osl id off len, v, p, hr, hp => by
    simp only [reify] at hp
    split at hp
    · rename_i sh es hrow
      split at hp
      · rename_i hle
        simp only [Option.some.injEq] at hp; subst hp
        exact reify_own hm hr hrow hle
      · cases hp
    · cases hp
  | n + 1, .optr id idx off, v, p, hr, hp => by
    simp only [reify] at hp
    split at hp
    · rename_i sh es hrow
      simp only [Option.map_eq_some_iff] at hp
      obtain ⟨e, he, rfl⟩ := hp
      exact reify_ptr hm hr hrow he
    · cases hp
  | n + 1, .agg cs, v, p, hr, hp => by
    simp only [reify, Option.map_eq_some_iff] at hp
    obtain ⟨ps, hps, rfl⟩ := hp
    cases hr with
    | agg hr => exact .agg (reify_reps hm n hr hps)
  | n + 1, .fn f cs, v, p, hr, hp => by
    simp only [reify, Option.map_eq_some_iff] at hp
    obtain ⟨ps, hps, rfl⟩ := hp
    cases hr with
    | fn _ hr => exact .fn f (reify_reps hm n hr hps)
theorem reify_reps {row : Rows'} {ρ : Nat → Option Loc} (hm : Mem w0 I0 row w I ρ) (n : Nat) : ∀ {hs : List HV} {vs : List Value} {ps : List PV}, RepHs w I ρ hs vs → hs.mapM (reify row n) = some ps → RepPs w (fun b => b < w.heap.size) ps vs []
  | [], vs, ps, hr, hp => by
    cases hr
    simp at hp; subst hp; exact .nil
  | h :: hs, vs, ps, hr, hp => by
    simp only [List.mapM_cons, Option.bind_eq_bind, Option.pure_def, Option.bind_eq_some_iff] at hp
    obtain ⟨q, hq, qs, hqs, hp⟩ := hp
    simp only [Option.some.injEq] at hp; subst hp
    cases hr with
    | cons h1 r1 => exact .cons (F := []) (G := []) (reify_rep hm n h1 hq) (reify_reps hm n r1 hqs)
end
theorem reify_pure {row : Rows'} {ρ : Nat → Option Loc} (n : Nat) : ∀ {hs : List HV} {vs : List Value} {ps : List PV}, RepHs w I ρ hs vs → hs.mapM (reify row n) = some ps → hs.all HV.isPv = true → RepPs w I ps vs []
  | [], vs, ps, hr, hp, _ => by
    cases hr
    simp at hp; subst hp; exact .nil
  | h :: hs, vs, ps, hr, hp, ha => by
    simp only [List.mapM_cons, Option.bind_eq_bind, Option.pure_def, Option.bind_eq_some_iff] at hp
    obtain ⟨q, hq, qs, hqs, hp⟩ := hp
    simp only [Option.some.injEq] at hp; subst hp
    simp only [List.all_cons, Bool.and_eq_true] at ha
    obtain ⟨ha, ha2⟩ := ha
    cases hr with
    | cons h1 r1 =>
      cases h <;> simp [HV.isPv] at ha
      rename_i p
      have : q = p := by cases n <;> simp [reify] at hq <;> exact hq.symm
      subst this
      cases h1 with
      | pv h1 => exact .cons (F := []) (G := []) h1 (reify_pure n r1 hqs ha2)

end

/-! ### the call itself -/
section
variable {P : Program} {w0 : World} {I0 : Nat → Prop} {row : Rows'} {w : World} {I : Nat → Prop} {ρ : Nat → Option Loc} {id0 : Nat}

theorem call_sound {f : FuncId} {hs : List HV} {vs : Array Value} {ds : List PV} {r : PV} {fl : Bool} (hm : Mem w0 I0 row w I ρ) (hr : RepHs w I ρ hs vs.toList) (hds : hs.mapM (reify row 4) = some ds) (hc : CallOK P f ds r fl)
    (hfl : fl = true ∨ hs.all HV.isPv = true) (hok : importOk r = true) (hid : (importR id0 r).2.2 ≤ id0 + 4) (hfree : ∀ k, id0 ≤ k → k < id0 + 4 → ρ k = none) :
    Calls P f vs w fun e w' => ∃ v I' ρ', e = .returned v ∧ Mem w0 I0 (over row (importR id0 r).2.1) w' I' ρ' ∧ RepH w' I' ρ' (importR id0 r).1 v ∧ Grow w I ρ w' I' ρ' (fun k => id0 ≤ k ∧ k < id0 + 4) := by
  have key : ∀ (J : Nat → Prop), (∀ b, I b → J b) → (∀ b, J b → b < w.heap.size) → RepPs w J ds vs.toList [] → (fl = true ∨ J = I) → Calls P f vs w fun e w' => ∃ v I' ρ', e = .returned v ∧ Mem w0 I0 (over row (importR id0 r).2.1) w' I' ρ' ∧ RepH w' I' ρ' (importR id0 r).1 v ∧ Grow w I ρ w' I' ρ' (fun k => id0 ≤ k ∧ k < id0 + 4) := by
    intro J hJ hJl hJr hJf
    refine (hc.calls w J vs hJl hJr).mono ?_
    rintro e w' ⟨v, I1, F, rfl, hbel, hI1, hfl1, hrep, hnd, hF⟩
    have hI2 : ∀ b, (I b ∨ I1 b) → b < w'.heap.size ∧ (I b ∨ w.heap.size ≤ b) := by
      intro b hb
      rcases hb with hb | hb
      · exact ⟨Nat.lt_of_lt_of_le (hm.lt b hb) hbel.size, .inl hb⟩
      · refine ⟨(hI1 b hb).1, ?_⟩
        rcases hJf with hft | rfl
        · exact .inr (hfl1 hft b hb)
        · exact (hI1 b hb).2
    obtain ⟨m1, g1⟩ := hm.called hbel hI2 (fun b hb => .inl hb)
    have hrep2 : RepP w' (fun b => I b ∨ I1 b) r v F := hrep.mono (fun _ _ => rfl) (fun b hb => .inr hb) (fun _ _ => rfl)
    have hFr : Fresh w0 row w' (fun b => I b ∨ I1 b) ρ F := by
      refine ⟨fun b hb => Nat.le_trans hm.bel.size (hF b hb).1, fun b hb hI => ?_, fun b hb k x n sh hx hk => ?_⟩
      · rcases hI with hI | hI
        · have := hm.lt b hI; have := (hF b hb).1; omega
        · exact (hF b hb).2.2 hI
      · have := (hm.own k x b n sh hx hk).2.1
        have := (hF b hb).1; omega
    obtain ⟨ρ', m2, g2, r2, l2, u2, f2⟩ := import_r hok id0 m1 hrep2 hFr hnd (fun k hk1 hk2 => hfree k hk1 (by omega))
    refine ⟨v, _, ρ', rfl, m2, r2, ?_⟩
    have := (g1 (fun _ => False)).trans g2 (fun b hb => rfl)
    exact ⟨this.agree, this.mono, this.rho, fun k hk hn => this.dom k hk fun hc => by
      rcases hc with hc | hc
      · exact hc
      · exact hn ⟨hc.1, by omega⟩⟩
  rcases hfl with hft | hp
  · exact key (fun b => b < w.heap.size) hm.lt (fun _ h => h) (reify_reps hm 4 hr hds) (.inl hft)
  · exact key I (fun _ h => h) hm.lt (reify_pure 4 hr hds hp) (.inr rfl)

end
end Go.Vm
