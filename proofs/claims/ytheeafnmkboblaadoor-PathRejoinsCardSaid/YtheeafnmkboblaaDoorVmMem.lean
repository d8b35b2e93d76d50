/- Memory of a running call: its rows, and what each kind of step does to them. -/
import Derived.Test.YtheeafnmkboblaaDoorVmRep
namespace Go.Vm
set_option autoImplicit false
open Go.RowKit (Below)

/-! ### flat lists -/
section flat
variable {α β : Type} {c : α → List β} {s : Nat}
theorem flat_length {es : List α} (h : ∀ e ∈ es, (c e).length = s) : (es.flatMap c).length = es.length * s := by
  induction es with
  | nil => simp
  | cons e es ih =>
    simp only [List.flatMap_cons, List.length_append, List.length_cons, ih (fun x hx => h x (by simp [hx])), h e (by simp), Nat.add_mul]
    omega
theorem flat_drop {es : List α} (h : ∀ e ∈ es, (c e).length = s) (k : Nat) : (es.flatMap c).drop (k * s) = (es.drop k).flatMap c := by
  induction es generalizing k with
  | nil => simp
  | cons e es ih =>
    cases k with
    | zero => simp
    | succ k =>
      have he := h e (by simp)
      simp only [List.flatMap_cons, List.drop_succ_cons, Nat.add_mul, Nat.one_mul]
      rw [List.drop_append, List.drop_of_length_le (by omega), he, Nat.add_sub_cancel, List.nil_append]
      exact ih (fun x hx => h x (by simp [hx])) k
theorem flat_take {es : List α} (h : ∀ e ∈ es, (c e).length = s) (k : Nat) : (es.flatMap c).take (k * s) = (es.take k).flatMap c := by
  induction es generalizing k with
  | nil => simp
  | cons e es ih =>
    cases k with
    | zero => simp
    | succ k =>
      have he := h e (by simp)
      simp only [List.flatMap_cons, List.take_succ_cons, Nat.add_mul, Nat.one_mul]
      rw [List.take_append, List.take_of_length_le (by omega), he, Nat.add_sub_cancel]
      rw [ih (fun x hx => h x (by simp [hx])) k]
theorem flat_at {es : List α} (h : ∀ e ∈ es, (c e).length = s) {k : Nat} {e : α} (he : es[k]? = some e) : ((es.flatMap c).drop (k * s)).take s = c e := by
  rw [flat_drop h]
  obtain ⟨hk, rfl⟩ := List.getElem?_eq_some_iff.1 he
  rw [List.drop_eq_getElem_cons hk, List.flatMap_cons, List.take_append, List.take_of_length_le (by rw [h _ (by simp)]; exact Nat.le_refl _), h _ (by simp)]
  simp
theorem flat_set {es : List α} (h : ∀ e ∈ es, (c e).length = s) {k : Nat} (hk : k < es.length) {e : α} (he : (c e).length = s) :
    (es.set k e).flatMap c = splice (es.flatMap c) (k * s) (c e) := by
  unfold splice
  rw [flat_take h, he, show k * s + s = (k + 1) * s by rw [Nat.add_mul]; omega, flat_drop h, List.set_eq_take_append_cons_drop, if_pos hk]
  simp
theorem splice_length {cs xs : List α} {off : Nat} (h : off + xs.length ≤ cs.length) : (splice cs off xs).length = cs.length := by
  simp [splice]; omega
theorem splice_nil (cs : List α) (off : Nat) : splice cs off [] = cs := by simp [splice]
end flat

theorem RepHs.splice {w : World} {I : Nat → Prop} {ρ : Nat → Option Loc} {ps : List HV} {vs : List Value} (h : RepHs w I ρ ps vs) {qs : List HV} {us : List Value} (h' : RepHs w I ρ qs us) (off : Nat) :
    RepHs w I ρ (splice ps off qs) (splice vs off us) := by
  unfold Vm.splice
  rw [h'.length]
  exact (h.take off).append h' |>.append (h.drop _)
theorem one_splice {ps qs : List HV} {off : Nat} (h : ∀ p ∈ ps, p.one = true) (h' : ∀ p ∈ qs, p.one = true) : ∀ p ∈ Vm.splice ps off qs, p.one = true := by
  intro p hp
  simp only [Vm.splice, List.mem_append] at hp
  rcases hp with (hp | hp) | hp
  · exact h p (List.mem_of_mem_take hp)
  · exact h' p hp
  · exact h p (List.mem_of_mem_drop hp)

/-- the value of a variable of a shape that has some cells -/
def valOf : Shape → List Value → Value
  | none, vs => vs.headD undef
  | some _, vs => .agg vs.toArray

theorem RepHs.val {w : World} {I : Nat → Prop} {ρ : Nat → Option Loc} {sh : Shape} {e : HV} {us : List Value} (hf : e.fits sh = true) (h : RepHs w I ρ e.cells us) : RepH w I ρ e (valOf sh us) := by
  cases sh with
  | none =>
    have hone : e.one = true := hf
    have hc : e.cells = [e] := by
      cases e with
      | pv p => cases p <;> first | rfl | simp [HV.one, PV.one] at hone
      | agg cs => simp [HV.one] at hone
      | _ => rfl
    rw [hc] at h
    cases h with
    | cons h r => exact h
  | some n =>
    cases e with
    | agg cs => exact .agg (by simpa [valOf, HV.cells] using h)
    | pv p =>
      cases p with
      | agg cs => exact .pv (.agg (RepHs.toP (by simpa [valOf, HV.cells] using h)))
      | _ => simp [HV.fits, PV.fits] at hf
    | _ => simp [HV.fits] at hf

theorem RepHs.part {w : World} {I : Nat → Prop} {ρ : Nat → Option Loc} {sh : Shape} {cs : List HV} {vs : List Value} {off : Nat} {q : HV} (h : RepHs w I ρ cs vs) (hp : partH sh cs off = some q) :
    RepH w I ρ q (valOf sh ((vs.drop off).take sh.size)) ∧ off + sh.size ≤ vs.length := by
  have hl := h.length
  cases sh with
  | none =>
    simp only [partH] at hp
    split at hp
    · rename_i x hx
      split at hp
      · rename_i hone
        simp only [Option.some.injEq] at hp
        subst hp
        obtain ⟨v, hv, hr⟩ := h.get off x hx
        obtain ⟨hlt, rfl⟩ := List.getElem?_eq_some_iff.1 hv
        refine ⟨?_, by simp [Shape.size]; omega⟩
        simp only [valOf, Shape.size]
        rw [List.drop_eq_getElem_cons hlt, List.take_succ_cons, List.headD_cons]
        exact hr
      · cases hp
    · cases hp
  | some n =>
    simp only [partH] at hp
    split at hp
    · rename_i hle
      simp only [Option.some.injEq] at hp
      subst hp
      refine ⟨RepHs.mkAgg (by simpa [Shape.size] using (h.drop off).take n), by simp [Shape.size]; omega⟩
    · cases hp
theorem partP_H {sh : Shape} {cs : List PV} {off : Nat} {q : PV} (h : partP sh cs off = some q) : partH sh (cs.map .pv) off = some (.pv q) := by
  cases sh with
  | none =>
    simp only [partP] at h
    simp only [partH, List.getElem?_map]
    split at h
    · rename_i p hp
      split at h
      · rename_i h1
        simp only [Option.some.injEq] at h
        subst h
        simp [hp, HV.one, h1]
      · cases h
    · cases h
  | some n =>
    simp only [partP] at h
    split at h
    · rename_i hle
      simp only [Option.some.injEq] at h
      subst h
      simp only [partH, List.length_map, hle, if_true, Option.some.injEq, mkAgg]
      have : ((cs.map HV.pv).drop off).take n = (((cs.drop off).take n)).map HV.pv := by simp [List.map_take, List.map_drop]
      rw [this]
      have hm : ∀ l : List PV, (l.map HV.pv).mapM HV.toPv? = some l := by
        intro l
        induction l with
        | nil => rfl
        | cons a r ih => simp [List.mapM_cons, HV.toPv?, ih]
      rw [hm]
    · cases h

theorem RepHs.load {w : World} {I : Nat → Prop} {ρ : Nat → Option Loc} {sh esh : Shape} {e : HV} {us : List Value} {off : Nat} {q : HV} (hf : e.fits esh = true) (h : RepHs w I ρ e.cells us) (hq : loadH sh esh e off = some q) :
    RepH w I ρ q (valOf sh ((us.drop off).take sh.size)) ∧ off + sh.size ≤ us.length := by
  unfold loadH at hq
  split at hq
  · rename_i hc
    obtain ⟨rfl, rfl⟩ := hc
    simp only [Option.some.injEq] at hq
    subst hq
    have hl : us.length = sh.size := by rw [← h.length]; exact (HV.fits_cells hf).1
    refine ⟨?_, by omega⟩
    rw [List.drop_zero, List.take_of_length_le (by omega)]
    exact RepHs.val hf h
  · exact RepHs.part h hq
theorem loadP_H {sh esh : Shape} {e : PV} {off : Nat} {q : PV} (h : loadP sh esh e off = some q) : loadH sh esh (.pv e) off = some (.pv q) := by
  unfold loadP at h
  unfold loadH
  split at h
  · rename_i hc
    simp only [Option.some.injEq] at h
    subst h
    rw [if_pos hc]
  · rename_i hc
    rw [if_neg hc, HV.cells_pv]
    exact partP_H h

/-! ### rows -/
def Row.flat (r : Row) : List HV := r.es.flatMap HV.cells
def RowRep (w : World) (I : Nat → Prop) (ρ : Nat → Option Loc) : Loc → Row → Prop
  | .nil, r => r.es = []
  | .blk g n sh, r => r.sh = sh ∧ (∀ e ∈ r.es, e.fits sh = true) ∧ ∃ cur t vs, w.heap[g]? = some (.cells cur t (0, 0)) ∧ cur.size = n ∧ RepHs w I ρ r.flat vs ∧ cur.toList.take vs.length = vs

theorem RowRep.mono {w w' : World} {I I' : Nat → Prop} {ρ ρ' : Nat → Option Loc} (ha : Agree w w' I) (hi : ∀ b, I b → I' b) (hρ : ∀ id l, ρ id = some l → ρ' id = some l)
    {l : Loc} {r : Row} (hg : ∀ g n sh, l = .blk g n sh → w'.heap[g]? = w.heap[g]?) (h : RowRep w I ρ l r) : RowRep w' I' ρ' l r := by
  cases l with
  | nil => exact h
  | blk g n sh =>
    obtain ⟨h1, h2, cur, t, vs, h3, h4, h5, h6⟩ := h
    exact ⟨h1, h2, cur, t, vs, by rw [hg g n sh rfl]; exact h3, h4, h5.mono ha hi hρ, h6⟩

abbrev Rows' := Nat → Option Row
def over (row : Rows') (upd : Upd) : Rows' := fun id => match look upd id with
  | some x => x
  | none => row id
theorem over_nil (row : Rows') : over row [] = row := rfl

structure Mem (w0 : World) (I0 : Nat → Prop) (row : Rows') (w : World) (I : Nat → Prop) (ρ : Nat → Option Loc) : Prop where
  bel : Below w0.heap.size w0 w
  i0 : ∀ b, I0 b → I b
  lt : ∀ b, I b → b < w.heap.size
  new : ∀ b, I b → I0 b ∨ w0.heap.size ≤ b
  rows : ∀ id r, row id = some r → ∃ l, ρ id = some l ∧ RowRep w I ρ l r
  own : ∀ id r g n sh, row id = some r → ρ id = some (.blk g n sh) → w0.heap.size ≤ g ∧ g < w.heap.size ∧ ¬ I g
  inj : ∀ id id' r r' g n n' sh sh', row id = some r → row id' = some r' → ρ id = some (.blk g n sh) → ρ id' = some (.blk g n' sh') → id = id'

/-- what a step leaves: memory, and all that was read before -/
structure Grow (w : World) (I : Nat → Prop) (ρ : Nat → Option Loc) (w' : World) (I' : Nat → Prop) (ρ' : Nat → Option Loc) (ids : Nat → Prop) : Prop where
  agree : Agree w w' I
  mono : ∀ b, I b → I' b
  rho : ∀ id l, ρ id = some l → ρ' id = some l
  dom : ∀ id, ρ id = none → ¬ ids id → ρ' id = none
theorem Grow.refl {w : World} {I : Nat → Prop} {ρ : Nat → Option Loc} {ids : Nat → Prop} : Grow w I ρ w I ρ ids := ⟨fun _ _ => rfl, fun _ h => h, fun _ _ h => h, fun _ h _ => h⟩
theorem Grow.H {w w' : World} {I I' : Nat → Prop} {ρ ρ' : Nat → Option Loc} {ids : Nat → Prop} (h : Grow w I ρ w' I' ρ' ids) {x : HV} {v : Value} (r : RepH w I ρ x v) : RepH w' I' ρ' x v :=
  r.mono h.agree h.mono h.rho

/-- nothing but the count of draws has turned -/
theorem Mem.drew {w0 : World} {I0 : Nat → Prop} {row : Rows'} {w : World} {I : Nat → Prop} {ρ : Nat → Option Loc} (h : Mem w0 I0 row w I ρ) : Mem w0 I0 row w.drew I ρ :=
  { bel := h.bel.drew, i0 := h.i0, lt := h.lt, new := h.new
    rows := fun id r hr => let ⟨l, h1, h2⟩ := h.rows id r hr; ⟨l, h1, RowRep.mono (w := w) (w' := w.drew) (fun _ _ => rfl) (fun _ h => h) (fun _ _ h => h) (fun _ _ _ _ => rfl) h2⟩
    own := h.own, inj := h.inj }

/-- rows are dropped -/
theorem Mem.sub {w0 : World} {I0 : Nat → Prop} {row row' : Rows'} {w : World} {I : Nat → Prop} {ρ : Nat → Option Loc} (h : Mem w0 I0 row w I ρ) (hs : ∀ id r, row' id = some r → row id = some r) : Mem w0 I0 row' w I ρ :=
  { bel := h.bel, i0 := h.i0, lt := h.lt, new := h.new
    rows := fun id r hr => h.rows id r (hs id r hr)
    own := fun id r g n sh hr => h.own id r g n sh (hs id r hr)
    inj := fun id id' r r' g n n' sh sh' hr hr' => h.inj id id' r r' g n n' sh sh' (hs id r hr) (hs id' r' hr') }

def put (ρ : Nat → Option Loc) (id : Nat) (l : Loc) : Nat → Option Loc := fun k => if k = id then some l else ρ k

theorem put_mono {ρ : Nat → Option Loc} {id : Nat} {l : Loc} (hn : ρ id = none) : ∀ k x, ρ k = some x → put ρ id l k = some x := by
  intro k x h
  unfold put
  split
  · rename_i e; subst e; rw [hn] at h; cases h
  · exact h

theorem agree_alloc {w : World} {I : Nat → Prop} (hl : ∀ b, I b → b < w.heap.size) (o : Obj) : Agree w (w.alloc o) I := fun b hb => Below.heap_alloc w o b (hl b hb)

/-- a new row in a new block -/
theorem Mem.alloc {w0 : World} {I0 : Nat → Prop} {row : Rows'} {w : World} {I : Nat → Prop} {ρ : Nat → Option Loc} (h : Mem w0 I0 row w I ρ) {id : Nat} (hid : ρ id = none)
    {r : Row} {cur : Array Value} {t : TypeId} {vs : List Value} (hf : ∀ e ∈ r.es, e.fits r.sh = true) (hr : RepHs w I ρ r.flat vs) (hp : cur.toList.take vs.length = vs) :
    Mem w0 I0 (over row [(id, some r)]) (w.alloc (.cells cur t)) I (put ρ id (.blk w.heap.size cur.size r.sh)) ∧
      Grow w I ρ (w.alloc (.cells cur t)) I (put ρ id (.blk w.heap.size cur.size r.sh)) (fun k => k = id) := by
  have hag := agree_alloc h.lt (.cells cur t)
  have hmono := put_mono (l := .blk w.heap.size cur.size r.sh) hid
  have hold : ∀ k x, k ≠ id → row k = some x → over row [(id, some r)] k = some x := fun k x hk hx => by simp [over, look, Ne.symm hk, hx]
  have hlive : ∀ k x, over row [(id, some r)] k = some x → (k = id ∧ x = r) ∨ (k ≠ id ∧ row k = some x) := by
    intro k x hx
    unfold over look at hx
    by_cases hk : id = k
    · simp [hk] at hx; exact .inl ⟨hk.symm, hx.symm⟩
    · simp [hk, look] at hx; exact .inr ⟨Ne.symm hk, hx⟩
  refine ⟨{ bel := h.bel.alloc h.bel.size _, i0 := h.i0, lt := fun b hb => by have := h.lt b hb; simp; omega, new := h.new, rows := ?_, own := ?_, inj := ?_ },
    ⟨hag, fun _ h => h, hmono, fun k hk hne => by simp [put, hne, hk]⟩⟩
  · intro k x hx
    rcases hlive k x hx with ⟨rfl, rfl⟩ | ⟨hk, hx⟩
    · refine ⟨.blk w.heap.size cur.size x.sh, by simp [put], rfl, hf, cur, t, vs, heap_alloc_new w _, rfl, hr.mono hag (fun _ h => h) hmono, hp⟩
    · obtain ⟨l, h1, h2⟩ := h.rows k x hx
      refine ⟨l, hmono k l h1, h2.mono hag (fun _ h => h) hmono fun g n sh hl => ?_⟩
      subst hl
      exact Below.heap_alloc w _ g (h.own k x g n sh hx h1).2.1
  · intro k x g n sh hx hk
    rcases hlive k x hx with ⟨rfl, rfl⟩ | ⟨hne, hx⟩
    · simp [put] at hk
      obtain ⟨rfl, _, _⟩ := hk
      exact ⟨h.bel.size, by simp, fun hb => absurd (h.lt _ hb) (by omega)⟩
    · have := h.own k x g n sh hx (by simpa [put, hne] using hk)
      exact ⟨this.1, by simp; omega, this.2.2⟩
  · intro k k' x x' g n n' sh sh' hx hx' hk hk'
    rcases hlive k x hx with ⟨rfl, rfl⟩ | ⟨hne, hx⟩ <;> rcases hlive k' x' hx' with ⟨rfl, rfl⟩ | ⟨hne', hx'⟩
    · rfl
    · simp [put] at hk
      have := (h.own k' x' g n' sh' hx' (by simpa [put, hne'] using hk')).2.1
      omega
    · simp [put] at hk'
      rename_i hxx
      have := (h.own k x g n sh hxx (by simpa [put, hne] using hk)).2.1
      omega
    · exact h.inj k k' x x' g n n' sh sh' hx hx' (by simpa [put, hne] using hk) (by simpa [put, hne'] using hk')

/-- a nil slice as a row -/
theorem Mem.allocNil {w0 : World} {I0 : Nat → Prop} {row : Rows'} {w : World} {I : Nat → Prop} {ρ : Nat → Option Loc} (h : Mem w0 I0 row w I ρ) {id : Nat} (hid : ρ id = none)
    {r : Row} (hr : r.es = []) : Mem w0 I0 (over row [(id, some r)]) w I (put ρ id .nil) ∧ Grow w I ρ w I (put ρ id .nil) (fun k => k = id) := by
  have hmono := put_mono (l := .nil) hid
  have hlive : ∀ k x, over row [(id, some r)] k = some x → (k = id ∧ x = r) ∨ (k ≠ id ∧ row k = some x) := by
    intro k x hx
    unfold over look at hx
    by_cases hk : id = k
    · simp [hk] at hx; exact .inl ⟨hk.symm, hx.symm⟩
    · simp [hk, look] at hx; exact .inr ⟨Ne.symm hk, hx⟩
  refine ⟨{ bel := h.bel, i0 := h.i0, lt := h.lt, new := h.new, rows := ?_, own := ?_, inj := ?_ },
    ⟨fun _ _ => rfl, fun _ h => h, hmono, fun k hk hne => by simp [put, hne, hk]⟩⟩
  · intro k x hx
    rcases hlive k x hx with ⟨rfl, rfl⟩ | ⟨hk, hx⟩
    · exact ⟨.nil, by simp [put], hr⟩
    · obtain ⟨l, h1, h2⟩ := h.rows k x hx
      exact ⟨l, hmono k l h1, h2.mono (fun _ _ => rfl) (fun _ h => h) hmono fun _ _ _ _ => rfl⟩
  · intro k x g n sh hx hk
    rcases hlive k x hx with ⟨rfl, rfl⟩ | ⟨hne, hx⟩
    · simp [put] at hk
    · exact h.own k x g n sh hx (by simpa [put, hne] using hk)
  · intro k k' x x' g n n' sh sh' hx hx' hk hk'
    rcases hlive k x hx with ⟨rfl, rfl⟩ | ⟨hne, hx⟩ <;> rcases hlive k' x' hx' with ⟨rfl, rfl⟩ | ⟨hne', hx'⟩
    · rfl
    · simp [put] at hk
    · simp [put] at hk'
    · exact h.inj k k' x x' g n n' sh sh' hx hx' (by simpa [put, hne] using hk) (by simpa [put, hne'] using hk')

/-- a row's block is written -/
theorem Mem.setRow {w0 : World} {I0 : Nat → Prop} {row : Rows'} {w : World} {I : Nat → Prop} {ρ : Nat → Option Loc} (h : Mem w0 I0 row w I ρ) {id g n : Nat} {sh : Shape} {r0 r : Row} (h0 : row id = some r0)
    (hρ : ρ id = some (.blk g n sh)) {cur cur' : Array Value} {t : TypeId} {vs : List Value} (hg : w.heap[g]? = some (.cells cur t (0, 0))) (hn : cur'.size = n) (hsh : r.sh = sh)
    (hf : ∀ e ∈ r.es, e.fits sh = true) (hr : RepHs w I ρ r.flat vs) (hp : cur'.toList.take vs.length = vs) :
    Mem w0 I0 (over row [(id, some r)]) (w.setRow g cur') I ρ ∧ Grow w I ρ (w.setRow g cur') I ρ (fun _ => False) := by
  obtain ⟨o1, o2, o3⟩ := h.own id r0 g n sh h0 hρ
  have hag : Agree w (w.setRow g cur') I := fun b hb => setRow_other w g b cur' (fun e => o3 (e ▸ hb))
  have hlive : ∀ k x, over row [(id, some r)] k = some x → (k = id ∧ x = r) ∨ (k ≠ id ∧ row k = some x) := by
    intro k x hx
    unfold over look at hx
    by_cases hk : id = k
    · simp [hk] at hx; exact .inl ⟨hk.symm, hx.symm⟩
    · simp [hk, look] at hx; exact .inr ⟨Ne.symm hk, hx⟩
  refine ⟨{ bel := below_setRow h.bel o1 cur', i0 := h.i0, lt := fun b hb => by simpa using h.lt b hb, new := h.new, rows := ?_, own := ?_, inj := ?_ },
    ⟨hag, fun _ h => h, fun _ _ h => h, fun k hk _ => hk⟩⟩
  · intro k x hx
    rcases hlive k x hx with ⟨rfl, rfl⟩ | ⟨hk, hx⟩
    · exact ⟨_, hρ, hsh, hf, cur', t, vs, setRow_heap w g cur cur' t (0, 0) hg, hn, hr.mono hag (fun _ h => h) (fun _ _ h => h), hp⟩
    · obtain ⟨l, h1, h2⟩ := h.rows k x hx
      refine ⟨l, h1, h2.mono hag (fun _ h => h) (fun _ _ h => h) fun g' n' sh' hl => ?_⟩
      subst hl
      exact setRow_other w g g' cur' fun e => hk (h.inj k id x r0 g' n' n sh' sh hx h0 h1 (by rw [hρ, e]))
  · intro k x g' n' sh' hx hk
    have : ∃ y, row k = some y := by
      rcases hlive k x hx with ⟨rfl, rfl⟩ | ⟨hne, hx⟩
      · exact ⟨r0, h0⟩
      · exact ⟨x, hx⟩
    obtain ⟨y, hy⟩ := this
    have := h.own k y g' n' sh' hy hk
    exact ⟨this.1, by simpa using this.2.1, this.2.2⟩
  · intro k k' x x' g' n1 n2 sh1 sh2 hx hx' hk hk'
    have : ∀ k x, over row [(id, some r)] k = some x → ∃ y, row k = some y := by
      intro k x hx
      rcases hlive k x hx with ⟨rfl, rfl⟩ | ⟨hne, hx⟩
      · exact ⟨r0, h0⟩
      · exact ⟨x, hx⟩
    obtain ⟨y, hy⟩ := this k x hx
    obtain ⟨y', hy'⟩ := this k' x' hx'
    exact h.inj k k' y y' g' n1 n2 sh1 sh2 hy hy' hk hk'

end Go.Vm
