import Derived.Lib.LaidTab
import Derived.Lib.ItoaNum
import Derived.Test.YtchaaedlfibdoaaGreatDoorVmRep
open List (flatMap_cons map_take)
open Nat (add_mul le_refl lt_of_lt_of_le lt_or_ge)
namespace Go.Vm
open Go.RowKit (Below)
section flat
variable {α β : Type} {c : α → List β} {s : Nat}
theorem flat_length {es : List α} (h : ∀ e ∈ es, (c e).length = s) : (es.flatMap c).length = es.length * s := by
 induction es with
 | nil => simp
 | cons e es ih =>
  simp only [flatMap_cons, List.length_append, List.length_cons, ih (fun x hx => h x (by simp [hx])), h e (by simp), add_mul]
  omega
theorem aG0 {es : List α} (h : ∀ e ∈ es, (c e).length = s) (k : Nat) : (es.flatMap c).drop (k * s) = (es.drop k).flatMap c := by
 induction es generalizing k with
 | nil => simp
 | cons e es ih =>
  cases k with
  | zero => simp
  | succ k =>
   have he := h e (by simp)
   simp only [flatMap_cons, List.drop_succ_cons, add_mul, Nat.one_mul]
   rw [List.drop_append, List.drop_of_length_le (by omega), he, Nat.add_sub_cancel, List.nil_append]
   exact ih (fun x hx => h x (by simp [hx])) k
theorem as8 {es : List α} (h : ∀ e ∈ es, (c e).length = s) (k : Nat) : (es.flatMap c).take (k * s) = (es.take k).flatMap c := by
 induction es generalizing k with
 | nil => simp
 | cons e es ih =>
  cases k with
  | zero => simp
  | succ k =>
   have he := h e (by simp)
   simp only [flatMap_cons, List.take_succ_cons, add_mul, Nat.one_mul]
   rw [List.take_append, List.take_of_length_le (by omega), he, Nat.add_sub_cancel]
   rw [ih (fun x hx => h x (by simp [hx])) k]
theorem bb4 {es : List α} (h : ∀ e ∈ es, (c e).length = s) {k : Nat} {e : α} (he : es[k]? = some e) : ((es.flatMap c).drop (k * s)).take s = c e := by
 rw [aG0 h]
 obtain ⟨hk, rfl⟩ := gS.1 he
 rw [List.drop_eq_getElem_cons hk, flatMap_cons, List.take_append, List.take_of_length_le (by rw [h _ (by simp)]; exact le_refl _), h _ (by simp)]
 simp
theorem bI5 {es : List α} (h : ∀ e ∈ es, (c e).length = s) {k : Nat} (hk : k < es.length) {e : α} (he : (c e).length = s) :
  (es.set k e).flatMap c = splice (es.flatMap c) (k * s) (c e) := by
 unfold splice
 rw [as8 h, he, show k * s + s = (k + 1) * s by rw [add_mul]; omega, aG0 h, List.set_eq_take_append_cons_drop, iP hk]
 simp
theorem ac4 {cs xs : List α} {off : Nat} (h : off + xs.length ≤ cs.length) : (splice cs off xs).length = cs.length := by
 simp [splice]; omega
end flat
theorem RepHs.splice {w : World} {I : Prot} {ρ : Nat → Option Loc} {ps : List HV} {vs : List Value} (h : RepHs w I ρ ps vs) {qs : List HV} {us : List Value} (h' : RepHs w I ρ qs us) (off : Nat) :
  RepHs w I ρ (splice ps off qs) (splice vs off us) := by
 unfold Vm.splice
 rw [h'.length]
 exact (h.take off).append h' |>.append (h.drop _)
theorem bN9 {ps qs : List HV} {off : Nat} (h : ∀ p ∈ ps, p.one = true) (h' : ∀ p ∈ qs, p.one = true) : ∀ p ∈ Vm.splice ps off qs, p.one = true := by
 intro p hp
 simp only [Vm.splice, List.mem_append] at hp
 rcases hp with (hp | hp) | hp
 ·exact h p (List.mem_of_mem_take hp)
 ·exact h' p hp
 ·exact h p (List.mem_of_mem_drop hp)
def aw7 : Shape → List Value → Value
 | none, vs => vs.headD undef
 | some _, vs => .agg vs.toArray
theorem RepHs.val {w : World} {I : Prot} {ρ : Nat → Option Loc} {sh : Shape} {e : HV} {us : List Value} (hf : e.fits sh = true) (h : RepHs w I ρ e.cells us) : RepH w I ρ e (aw7 sh us) := by
 cases sh with
 | none =>
  have hone : e.one = true := hf
  have hc : e.cells = [e] := by
   cases e with
   | pv p => cases p <;> first | rfl | simp [HV.one, PV.one] at hone
   | agg cs => simp [HV.one] at hone
   | _ => rfl
  rw [hc] at h
  cases h with
  | cons h r => exact h
 | some n =>
  cases e with
  | agg cs => exact .agg (by simpa [aw7, HV.cells] using h)
  | pv p =>
   cases p with
   | agg cs => exact .pv (.agg (RepHs.toP (by simpa [aw7, HV.cells] using h)))
   | _ => simp [HV.fits, PV.fits] at hf
  | _ => simp [HV.fits] at hf
theorem RepHs.part {w : World} {I : Prot} {ρ : Nat → Option Loc} {sh : Shape} {cs : List HV} {vs : List Value} {off : Nat} {q : HV} (h : RepHs w I ρ cs vs) (hp : bt9 sh cs off = some q) :
  RepH w I ρ q (aw7 sh ((vs.drop off).take sh.size)) ∧ off + sh.size ≤ vs.length := by
 have hl := h.length
 cases sh with
 | none =>
  simp only [bt9] at hp
  split at hp
  ·rename_i x hx
   split at hp
   ·rename_i hone
    simp only [oI] at hp
    subst hp
    obtain ⟨v, hv, hr⟩ := h.get off x hx
    obtain ⟨hlt, rfl⟩ := gS.1 hv
    refine ⟨?_, by simp [Shape.size]; omega⟩
    simp only [aw7, Shape.size]
    rw [List.drop_eq_getElem_cons hlt, List.take_succ_cons, List.headD_cons]
    exact hr
   ·cases hp
  ·cases hp
 | some n =>
  simp only [bt9] at hp
  split at hp
  ·rename_i hle
   simp only [oI] at hp
   subst hp
   refine ⟨RepHs.mkAgg (by simpa [Shape.size] using (h.drop off).take n), by simp [Shape.size]; omega⟩
  ·cases hp
theorem bC1 {sh : Shape} {cs : List PV} {off : Nat} {q : PV} (h : ba9 sh cs off = some q) : bt9 sh (cs.map .pv) off = some (.pv q) := by
 cases sh with
 | none =>
  simp only [ba9] at h
  simp only [bt9, List.getElem?_map]
  split at h
  ·rename_i p hp
   split at h
   ·rename_i h1
    simp only [oI] at h
    subst h
    simp [hp, HV.one, h1]
   ·cases h
  ·cases h
 | some n =>
  simp only [ba9] at h
  split at h
  ·rename_i hle
   simp only [oI] at h
   subst h
   simp only [bt9, List.length_map, hle, if_true, oI, mkAgg]
   have : ((cs.map HV.pv).drop off).take n = (((cs.drop off).take n)).map HV.pv := by simp [map_take, List.map_drop]
   rw [this]
   have hm : ∀ l : List PV, (l.map HV.pv).mapM HV.toPv? = some l := by
    intro l
    induction l with
    | nil => rfl
    | cons a r ih => simp [List.mapM_cons, HV.toPv?, ih]
   rw [hm]
  ·cases h
theorem RepHs.load {w : World} {I : Prot} {ρ : Nat → Option Loc} {sh esh : Shape} {e : HV} {us : List Value} {off : Nat} {q : HV} (hf : e.fits esh = true) (h : RepHs w I ρ e.cells us) (hq : bW9 sh esh e off = some q) :
  RepH w I ρ q (aw7 sh ((us.drop off).take sh.size)) ∧ off + sh.size ≤ us.length := by
 unfold bW9 at hq
 split at hq
 ·rename_i hc
  obtain ⟨rfl, rfl⟩ := hc
  simp only [oI] at hq
  subst hq
  have hl : us.length = sh.size := by rw [← h.length]; exact (HV.fits_cells hf).1
  refine ⟨?_, by omega⟩
  rw [List.drop_zero, List.take_of_length_le (by omega)]
  exact RepHs.val hf h
 ·exact RepHs.part h hq
theorem bX2 {sh esh : Shape} {e : PV} {off : Nat} {q : PV} (h : bo9 sh esh e off = some q) : bW9 sh esh (.pv e) off = some (.pv q) := by
 unfold bo9 at h
 unfold bW9
 split at h
 ·rename_i hc
  simp only [oI] at h
  subst h
  rw [iP hc]
 ·rename_i hc
  rw [iN hc, HV.cells_pv]
  exact bC1 h
structure Kept (F0 : Nat → Prop) (w w' : World) : Prop where
 os : w'.os = w.os
 tape : w'.tape = w.tape
 output : w'.output = w.output
 size : w.heap.size ≤ w'.heap.size
 block : ∀ k, k < w.heap.size → ¬ F0 k → w'.heap[k]? = w.heap[k]?
theorem Kept.refl (F0 : Nat → Prop) (w : World) : Kept F0 w w := ⟨rfl, rfl, rfl, le_refl _, fun _ _ _ => rfl⟩
theorem Kept.below {w w' : World} (h : Kept (fun _ => False) w w') : Below w.heap.size w w' := ⟨h.os, h.tape, h.output, h.size, fun k hk => h.block k hk (by simp)⟩
theorem Kept.of {F0 : Nat → Prop} {w w' : World} (h : Below w.heap.size w w') : Kept F0 w w' := ⟨h.os, h.tape, h.output, h.size, fun k hk _ => h.block k hk⟩
structure Base where
 P : Program
 w : World
 F : Nat → Prop
 gh : Nat → Option Value
 gl : Nat → Option Loc
def ap7 (P : Program) (t : TypeId) : Bool := match P.underlying t with
 | some (.int .u8) => true
 | _ => false
def nb (P : Program) (w : World) (b : Nat) : Prop := ∀ c t fz, w.heap[b]? = some (.cells c t fz) → ap7 P t = false
def ci4 [Mode] (P : Program) (t : TypeId) : Bool := ap7 P t && !Mode.y
theorem aK7 [Mode] {P : Program} {t : TypeId} (h : ci4 P t = false) : Mode.y = false → ap7 P t = false := by
 intro hy
 unfold ci4 at h
 rw [hy] at h
 simpa using h
def Nb [Mode] (P : Program) (w : World) (b : Nat) : Prop := Mode.y = false → nb P w b
theorem nb.same {P : Program} {w w' : World} {b : Nat} (h : nb P w b) (e : w'.heap[b]? = w.heap[b]?) : nb P w' b := fun c t fz hc => h c t fz (e ▸ hc)
theorem Nb.same [Mode] {P : Program} {w w' : World} {b : Nat} (h : Nb P w b) (e : w'.heap[b]? = w.heap[b]?) : Nb P w' b := fun hy => (h hy).same e
def isMaxLen (P : Program) (k : Nat) : Bool := match P.globals[k]? with
 | some g => g.name == "internal/bytealg.MaxLen"
 | none => false
def cn1 (P : Program) (w : World) (F : Nat → Prop) : Prop := ∀ g, P.globalNamed "internal/strconv.uint64pow10" = some g → ¬ F g ∧ Go.Lib.TabIs P w "internal/strconv.uint64pow10" .u64 Go.Lib.pow10Tab
def ao1 : List Int := [1116352408, 1899447441, 3049323471, 3921009573, 961987163, 1508970993, 2453635748, 2870763221, 3624381080, 310598401, 607225278, 1426881987, 1925078388, 2162078206, 2614888103, 3248222580, 3835390401, 4022224774, 264347078, 604807628, 770255983, 1249150122, 1555081692, 1996064986, 2554220882, 2821834349, 2952996808, 3210313671, 3336571891, 3584528711, 113926993, 338241895, 666307205, 773529912, 1294757372, 1396182291, 1695183700, 1986661051, 2177026350, 2456956037, 2730485921, 2820302411, 3259730800, 3345764771, 3516065817, 3600352804, 4094571909, 275423344, 430227734, 506948616, 659060556, 883997877, 958139571, 1322822218, 1537002063, 1747873779, 1955562222, 2024104815, 2227730452, 2361852424, 2428436474, 2756734187, 3204031479, 3329325298]
def bC2 : PV := .rptr (some 64) (.agg (List.map (PV.int .u32) ao1)) 0
def cn2 (P : Program) (w : World) (F : Nat → Prop) : Prop := ∀ g, P.globalNamed "filespace/hash.rounds" = some g → ¬ F g ∧ Go.Lib.TabIs P w "filespace/hash.rounds" .u32 ao1
def GlobOK (P : Program) (w : World) (F : Nat → Prop) : Prop := (∀ k, isMaxLen P k = true → ¬ F k ∧ ∃ m, w.cell? ⟨k, 0, none⟩ = some (.int .i64 m)) ∧ cn1 P w F ∧ cn2 P w F
theorem tab_lt {P : Program} {w : World} {n : String} {k : IntKind} {zs : List Int} {g : Nat} (h : Go.Lib.TabIs P w n k zs) (hg : P.globalNamed n = some g) : g < w.heap.size := by
 unfold Go.Lib.TabIs World.var? at h
 rw [hg] at h
 rcases lt_or_ge g w.heap.size with h' | h'
 ·exact h'
 ·simp [Array.getElem?_eq_none h'] at h
theorem tab_same {P : Program} {w w' : World} {n : String} {k : IntKind} {zs : List Int} {g : Nat} (h : Go.Lib.TabIs P w n k zs) (hg : P.globalNamed n = some g) (e : w'.heap[g]? = w.heap[g]?) : Go.Lib.TabIs P w' n k zs := by
 unfold Go.Lib.TabIs World.var? at h ⊢
 rw [hg] at h ⊢
 simpa [e] using h
theorem GlobOK.sub {P : Program} {w : World} {F G : Nat → Prop} (h : GlobOK P w F) (hG : ∀ k, G k → F k) : GlobOK P w G := ⟨fun k hk => ⟨fun hm => (h.1 k hk).1 (hG k hm), (h.1 k hk).2⟩, fun g hg => ⟨fun hm => (h.2.1 g hg).1 (hG g hm), (h.2.1 g hg).2⟩, fun g hg => ⟨fun hm => (h.2.2 g hg).1 (hG g hm), (h.2.2 g hg).2⟩⟩
theorem GlobOK.any {P : Program} {w : World} {F G : Nat → Prop} (h : GlobOK P w F) (hG : ∀ k, ¬ G k) : GlobOK P w G := ⟨fun k hk => ⟨hG k, (h.1 k hk).2⟩, fun g hg => ⟨hG g, (h.2.1 g hg).2⟩, fun g hg => ⟨hG g, (h.2.2 g hg).2⟩⟩
theorem cell_lt {w : World} {k o : Nat} {v : Value} (h : w.cell? ⟨k, o, none⟩ = some v) : k < w.heap.size := by
 rcases lt_or_ge k w.heap.size with h' | h'
 ·exact h'
 ·simp [World.cell?, Array.getElem?_eq_none h'] at h
theorem aI6 {T e : TypeId} {B b : Nat} {bs : List Value} {w w' : World} (h : Go.Lib.IsBuilderF T e B b bs w) (hb : w'.heap[b]? = w.heap[b]?)
  (hg : ∀ g c fz, B ≤ g → w.heap[g]? = some (.cells c e fz) → w'.heap[g]? = w.heap[g]?) : Go.Lib.IsBuilderF T e B b bs w' := by
 have key : ∀ p, Go.Lib.BuilderAtF T e B b p bs w → Go.Lib.BuilderAtF T e B b p bs w' := by
  rintro p ⟨h1, v, h2, h3, h4⟩
  refine ⟨h1, v, hb.trans h2, ⟨h3.1, ?_⟩, h4⟩
  rcases h3.2 with hn | ⟨g, cap, cur, fz, hv, hbg, hh, rest⟩
  ·exact .inl hn
  ·exact .inr ⟨g, cap, cur, fz, hv, hbg, (hg g cur fz hbg hh).trans hh, rest⟩
 exact h.elim (fun x => .inl (key _ x)) fun x => .inr (key _ x)
def Base.New (b : Base) (g : Nat) : Prop := b.w.heap.size ≤ g ∨ b.F g
theorem Kept.trans {F0 F1 : Nat → Prop} {a b c : World} (h : Kept F0 a b) (k : Kept F1 b c) (hF : ∀ g, F1 g → a.heap.size ≤ g ∨ F0 g) : Kept F0 a c :=
 ⟨k.os.trans h.os, k.tape.trans h.tape, k.output.trans h.output, Nat.le_trans h.size k.size, fun i hi hn => (k.block i (lt_of_lt_of_le hi h.size) fun hm => by
  rcases hF i hm with h' | h'
  ·omega
  ·exact hn h').trans (h.block i hi hn)⟩
theorem Kept.drew {F0 : Nat → Prop} {a w : World} (h : Kept F0 a w) : Kept F0 a w.drew := ⟨h.os, h.tape, h.output, h.size, h.block⟩
theorem Kept.alloc {F0 : Nat → Prop} {a w : World} (h : Kept F0 a w) (o : Obj) : Kept F0 a (w.alloc o) :=
 h.trans (F1 := fun _ => False) (Kept.of ((Below.refl _ _).alloc (le_refl _) o)) (by simp)
theorem Kept.setRow {b0 : Base} {w : World} (h : Kept b0.F b0.w w) {g : Nat} (hg : b0.New g) (cs : Array Value) : Kept b0.F b0.w (w.setRow g cs) :=
 h.trans (F1 := fun k => k = g) ⟨rfl, rfl, rfl, by simp [World.setRow], fun k _ hk => setRow_other w g k cs hk⟩ (by
  rintro x rfl
  exact hg)
def Row.flat (r : Row) : List HV := r.es.flatMap HV.cells
inductive EntsRep (w : World) (I : Prot) : aQ3 → List MapEntry → Prop
 | nil : EntsRep w I [] []
 | cons {k v : PV} {b : Nat} {r : aQ3} {e : MapEntry} {es : List MapEntry} (hk : RepP w I k e.key []) (hv : RepP w I v e.val []) (hb : e.born = b) (t : EntsRep w I r es) : EntsRep w I ((k, v, b) :: r) (e :: es)
theorem EntsRep.mono {w w' : World} {I I' : Prot} (ha : Agree w w' I) (hi : ∀ b o, I b o → I' b o) : ∀ {a : aQ3} {b : List MapEntry}, EntsRep w I a b → EntsRep w' I' a b
 | _, _, .nil => .nil
 | _, _, .cons hk hv hb t => .cons (RepP.mono ha hi hk (by simp)) (RepP.mono ha hi hv (by simp)) hb (EntsRep.mono ha hi t)
def ca0 (w : World) (I : Prot) (g : Nat) (es : aQ3) (ck : Nat) : Prop := ∃ es' : Array MapEntry, w.heap[g]? = some (.map es' ck) ∧ EntsRep w I es es'.toList
theorem bC3 {r : Row} (h : r.noM = true) : r.asM = none := by cases r <;> first | rfl | cases h
def bX3 (w : World) (I : Prot) (ρ : Nat → Option Loc) (g n : Nat) (sh : Shape) (r : Row) : Option (aQ3 × Nat) → Prop
 | some q => ca0 w I g q.1 q.2
 | none => r.sh = sh ∧ (∀ e ∈ r.es, e.fits sh = true) ∧ ∃ cur t vs, w.heap[g]? = some (.cells cur t (0, 0)) ∧ cur.size = n ∧ RepHs w I ρ r.flat vs ∧ cur.toList.take vs.length = vs ∧ Tails w I g r.tk r.sh r.pes vs
def RowRep (w : World) (I : Prot) (ρ : Nat → Option Loc) : Loc → Row → Prop
 | .nil, r => r.es = []
 | .blk g n sh, r => bX3 w I ρ g n sh r r.asM
theorem RowRep.cells {w : World} {I : Prot} {ρ : Nat → Option Loc} {g n : Nat} {sh : Shape} {r : Row} (h : RowRep w I ρ (.blk g n sh) r) (hm : r.asM = none) :
  r.sh = sh ∧ (∀ e ∈ r.es, e.fits sh = true) ∧ ∃ cur t vs, w.heap[g]? = some (.cells cur t (0, 0)) ∧ cur.size = n ∧ RepHs w I ρ r.flat vs ∧ cur.toList.take vs.length = vs ∧ Tails w I g r.tk r.sh r.pes vs := by
 have h : bX3 w I ρ g n sh r r.asM := h
 rw [hm] at h
 exact h
theorem RowRep.of_cells {w : World} {I : Prot} {ρ : Nat → Option Loc} {g n : Nat} {sh : Shape} {r : Row} (hm : r.asM = none)
  (h : r.sh = sh ∧ (∀ e ∈ r.es, e.fits sh = true) ∧ ∃ cur t vs, w.heap[g]? = some (.cells cur t (0, 0)) ∧ cur.size = n ∧ RepHs w I ρ r.flat vs ∧ cur.toList.take vs.length = vs ∧ Tails w I g r.tk r.sh r.pes vs) : RowRep w I ρ (.blk g n sh) r := by
 show bX3 w I ρ g n sh r r.asM
 rw [hm]
 exact h
theorem aZ1 (sh : Shape) (h : HV) : (bu0 sh h).asM = none := by unfold bu0; split <;> rfl
theorem aK8 (es : List HV) (sh : Shape) : (ax1 es sh).asM = none := by unfold ax1; split <;> rfl
theorem aZ2 (sh : Shape) (a b : Sum (List PV) (List HV)) : (aJ7 sh a b).asM = none := by cases a <;> cases b <;> rfl
theorem bu3 {r : Row} (h : r.es ≠ []) : r.asM = none := by cases r <;> first | rfl | exact absurd rfl h
theorem bI6 {r : Row} {i : Nat} {e : HV} (h : r.es[i]? = some e) : r.asM = none := bu3 fun hn => by rw [hn] at h; cases h
theorem a94 {r : Row} {q : aQ3 × Nat} (h : r.asM = some q) : r = .m q.1 q.2 := by
 cases r <;> first | (simp only [Row.asM, oI] at h; subst h; rfl) | cases h
theorem RowRep.mono {w w' : World} {I I' : Prot} {ρ ρ' : Nat → Option Loc} (ha : Agree w w' I) (hi : ∀ b o, I b o → I' b o) (hρ : ∀ id l, ρ id = some l → ρ' id = some l)
  {l : Loc} {r : Row} (hg : ∀ g n sh, l = .blk g n sh → w'.heap[g]? = w.heap[g]? ∧ (r.tk ≠ [] → NK w w' I I' g)) (h : RowRep w I ρ l r) : RowRep w' I' ρ' l r := by
 cases l with
 | nil => exact h
 | blk g n sh =>
  cases hm : r.asM with
  | some q =>
   obtain rfl := a94 hm
   obtain ⟨es', h1, h2⟩ := h
   exact ⟨es', by rw [(hg g n sh rfl).1]; exact h1, h2.mono ha hi⟩
  | none =>
   obtain ⟨h1, h2, cur, t, vs, h3, h4, h5, h6, h7⟩ := h.cells hm
   exact .of_cells hm ⟨h1, h2, cur, t, vs, by rw [(hg g n sh rfl).1]; exact h3, h4, h5.mono ha hi hρ, h6, h7.mono (hg g n sh rfl).2⟩
abbrev ad1 := Nat → Option Row
def ae8 (row : ad1) (upd : Upd) : ad1 := fun id => match look upd id with
 | some x => x
 | none => row id
theorem a95 (row : ad1) : ae8 row [] = row := rfl
structure Mem [Mode] (w0 : Base) (I0 : Prot) (row : ad1) (w : World) (I : Prot) (ρ : Nat → Option Loc) : Prop where
 bel : Kept w0.F w0.w w
 agr : Agree w0.w w I0
 i0 : ∀ b o, I0 b o → I b o
 lt : ∀ b o, I b o → b < w.heap.size
 new : ∀ b o, I b o → I0 b o ∨ w0.New b
 nn : ∀ b g, I.n b = some g → w0.New b ∧ b < w.heap.size ∧ nb w0.P w b ∧ ∀ id r n sh, row id = some r → ρ id ≠ some (.blk b n sh)
 tyF : ∀ b, w0.F b → b < w0.w.heap.size ∧ nb w0.P w b
 rows : ∀ id r, row id = some r → ∃ l, ρ id = some l ∧ RowRep w I ρ l r
 own : ∀ id r g n sh, row id = some r → ρ id = some (.blk g n sh) → w0.New g ∧ g < w.heap.size ∧ ∀ o, r.prot ≤ o → ¬ I g o
 inj : ∀ id id' r r' g n n' sh sh', row id = some r → row id' = some r' → ρ id = some (.blk g n sh) → ρ id' = some (.blk g n' sh') → id = id'
 tyI : ∀ b o, I b o → w0.New b → Nb w0.P w b
 tyR : ∀ id r g n sh, row id = some r → ρ id = some (.blk g n sh) → Nb w0.P w g
 bld : ∀ id T e bs, row id = some (.b T e bs) → ∃ g n sh, ρ id = some (.blk g n sh) ∧ Go.Lib.IsBuilderF T e w0.w.heap.size g (Go.Lib.byteCells bs) w ∧ ap7 w0.P e = true ∧ Mode.y = false
 one : ∀ id id' T e bs T' e' bs', row id = some (.b T e bs) → row id' = some (.b T' e' bs') → id = id'
 glob : GlobOK w0.P w0.w w0.F
 tab : Mode.y = true → ∀ g, Mode.g = some g → RepP w0.w I0 bC2 (.pointer (some ⟨g, 0, none⟩)) []
structure Grow (w : World) (I : Prot) (ρ : Nat → Option Loc) (w' : World) (I' : Prot) (ρ' : Nat → Option Loc) (ids : Nat → Prop) : Prop where
 agree : Agree w w' I
 mono : ∀ b o, I b o → I' b o
 rho : ∀ id l, ρ id = some l → ρ' id = some l
 dom : ∀ id, ρ id = none → ¬ ids id → ρ' id = none
theorem Grow.refl {w : World} {I : Prot} {ρ : Nat → Option Loc} {ids : Nat → Prop} : Grow w I ρ w I ρ ids := ⟨fun _ _ _ => rfl, fun _ _ h => h, fun _ _ h => h, fun _ h _ => h⟩
theorem Grow.H {w w' : World} {I I' : Prot} {ρ ρ' : Nat → Option Loc} {ids : Nat → Prop} (h : Grow w I ρ w' I' ρ' ids) {x : HV} {v : Value} (r : RepH w I ρ x v) : RepH w' I' ρ' x v :=
 r.mono h.agree h.mono h.rho
theorem Mem.drew [Mode] {w0 : Base} {I0 : Prot} {row : ad1} {w : World} {I : Prot} {ρ : Nat → Option Loc} (h : Mem w0 I0 row w I ρ) : Mem w0 I0 row w.drew I ρ :=
  { bel := h.bel.drew, agr := h.agr, i0 := h.i0, lt := h.lt, new := h.new, nn := h.nn, tyF := h.tyF
    rows := fun id r hr => let ⟨l, h1, h2⟩ := h.rows id r hr; ⟨l, h1, RowRep.mono (w := w) (w' := w.drew) (fun _ _ _ => rfl) (fun _ _ h => h) (fun _ _ h => h) (fun _ _ _ _ => ⟨rfl, fun _ _ hb => ⟨hb, rfl, fun _ h => h⟩⟩) h2⟩
    own := h.own, inj := h.inj, tyI := h.tyI, tyR := h.tyR, one := h.one, glob := h.glob, tab := h.tab
    bld := fun id T e bs hr => let ⟨g, n, sh, h1, h2, h3⟩ := h.bld id T e bs hr; ⟨g, n, sh, h1, aI6 h2 rfl (fun _ _ _ _ _ => rfl), h3⟩ }
theorem Mem.sub [Mode] {w0 : Base} {I0 : Prot} {row row' : ad1} {w : World} {I : Prot} {ρ : Nat → Option Loc} (h : Mem w0 I0 row w I ρ) (hs : ∀ id r, row' id = some r → row id = some r) : Mem w0 I0 row' w I ρ :=
  { bel := h.bel, agr := h.agr, i0 := h.i0, lt := h.lt, new := h.new, tyF := h.tyF
    nn := fun b g hb => let ⟨n1, n2, n3, n4⟩ := h.nn b g hb; ⟨n1, n2, n3, fun id r n sh hr => n4 id r n sh (hs id r hr)⟩
    rows := fun id r hr => h.rows id r (hs id r hr)
    own := fun id r g n sh hr => h.own id r g n sh (hs id r hr)
    inj := fun id id' r r' g n n' sh sh' hr hr' => h.inj id id' r r' g n n' sh sh' (hs id r hr) (hs id' r' hr')
    tyI := h.tyI, tyR := fun id r g n sh hr => h.tyR id r g n sh (hs id r hr), bld := fun id T e bs hr => h.bld id T e bs (hs id _ hr), one := fun id id' T e bs T' e' bs' h1 h2 => h.one id id' T e bs T' e' bs' (hs _ _ h1) (hs _ _ h2), glob := h.glob, tab := h.tab }
def put (ρ : Nat → Option Loc) (id : Nat) (l : Loc) : Nat → Option Loc := fun k => if k = id then some l else ρ k
theorem aS8 {ρ : Nat → Option Loc} {id : Nat} {l : Loc} (hn : ρ id = none) : ∀ k x, ρ k = some x → put ρ id l k = some x := by
 intro k x h
 unfold put
 split
 ·rename_i e; subst e; rw [hn] at h; cases h
 ·exact h
theorem bb5 {w : World} {I : Prot} (hl : ∀ b o, I b o → b < w.heap.size) (o : Obj) : Agree w (w.alloc o) I := fun b k hb => az7 (Below.heap_alloc w o b (hl b k hb))
theorem Agree.trans {w w1 w2 : World} {I0 I : Prot} (h : Agree w w1 I0) (h' : Agree w1 w2 I) (hi : ∀ b o, I0 b o → I b o) : Agree w w2 I0 := fun b o hb => (h' b o (hi b o hb)).trans (h b o hb)
theorem Mem.alloc [Mode] {w0 : Base} {I0 : Prot} {row : ad1} {w : World} {I : Prot} {ρ : Nat → Option Loc} (h : Mem w0 I0 row w I ρ) {id : Nat} (hid : ρ id = none)
  {r : Row} {cur : Array Value} {t : TypeId} {vs : List Value} (hf : ∀ e ∈ r.es, e.fits r.sh = true) (hr : RepHs w I ρ r.flat vs) (hp : cur.toList.take vs.length = vs) (hty : Mode.y = false → ap7 w0.P t = false) (hT : Tails (w.alloc (.cells cur t)) I w.heap.size r.tk r.sh r.pes vs)
  (hB : ∀ T e bs, r = .b T e bs → Go.Lib.IsBuilderF T e w0.w.heap.size w.heap.size (Go.Lib.byteCells bs) (w.alloc (.cells cur t)) ∧ (ap7 w0.P e = true ∧ Mode.y = false) ∧ (∀ k T' e' bs', row k ≠ some (.b T' e' bs')) := by intro T e bs h; cases h) (hM : r.asM = none := by first | rfl | assumption | exact aZ1 _ _ | exact aK8 _ _ | exact aZ2 _ _ _) :
  Mem w0 I0 (ae8 row [(id, some r)]) (w.alloc (.cells cur t)) I (put ρ id (.blk w.heap.size cur.size r.sh)) ∧
   Grow w I ρ (w.alloc (.cells cur t)) I (put ρ id (.blk w.heap.size cur.size r.sh)) (fun k => k = id) := by
 have hag := bb5 h.lt (.cells cur t)
 have hmono := aS8 (l := .blk w.heap.size cur.size r.sh) hid
 have hold : ∀ k x, k ≠ id → row k = some x → ae8 row [(id, some r)] k = some x := fun k x hk hx => by simp [ae8, look, Ne.symm hk, hx]
 have hlive : ∀ k x, ae8 row [(id, some r)] k = some x → (k = id ∧ x = r) ∨ (k ≠ id ∧ row k = some x) := by
  intro k x hx
  unfold ae8 look at hx
  by_cases hk : id = k
  ·simp [hk] at hx; exact .inl ⟨hk.symm, hx.symm⟩
  ·simp [hk, look] at hx; exact .inr ⟨Ne.symm hk, hx⟩
 have hnk : ∀ g, NK w (w.alloc (.cells cur t)) I I g := fun g b hb => ⟨hb, Below.heap_alloc w _ b (h.nn b g hb).2.1, fun _ h => h⟩
 refine ⟨{ bel := h.bel.alloc _, agr := h.agr.trans hag h.i0, i0 := h.i0, lt := fun b o hb => by have := h.lt b o hb; simp; omega, new := h.new, nn := ?_, tyF := fun b hb => ⟨(h.tyF b hb).1, (h.tyF b hb).2.same (Below.heap_alloc w _ b (lt_of_lt_of_le (h.tyF b hb).1 h.bel.size))⟩, rows := ?_, own := ?_, inj := ?_, tyI := fun b o hb hn => (h.tyI b o hb hn).same (Below.heap_alloc w _ b (h.lt b o hb)), tyR := ?_, bld := ?_, one := ?_, glob := h.glob, tab := h.tab },
  ⟨hag, fun _ _ h => h, hmono, fun k hk hne => by simp [put, hne, hk]⟩⟩
 ·intro b g hb
  obtain ⟨n1, n2, n3, n4⟩ := h.nn b g hb
  refine ⟨n1, by simp; omega, n3.same (Below.heap_alloc w _ b n2), fun k x n sh hx hk => ?_⟩
  rcases hlive k x hx with ⟨rfl, rfl⟩ | ⟨hne, hx⟩
  ·simp [put] at hk; omega
  ·exact n4 k x n sh hx (by simpa [put, hne] using hk)
 ·intro k x hx
  rcases hlive k x hx with ⟨rfl, rfl⟩ | ⟨hk, hx⟩
  ·exact ⟨.blk w.heap.size cur.size x.sh, by simp [put], .of_cells hM ⟨rfl, hf, cur, t, vs, heap_alloc_new w _, rfl, hr.mono hag (fun _ _ h => h) hmono, hp, hT⟩⟩
  ·obtain ⟨l, h1, h2⟩ := h.rows k x hx
   refine ⟨l, hmono k l h1, h2.mono hag (fun _ _ h => h) hmono fun g n sh hl => ?_⟩
   subst hl
   exact ⟨Below.heap_alloc w _ g (h.own k x g n sh hx h1).2.1, fun _ => hnk g⟩
 ·intro k x g n sh hx hk
  rcases hlive k x hx with ⟨rfl, rfl⟩ | ⟨hne, hx⟩
  ·simp [put] at hk
   obtain ⟨rfl, _, _⟩ := hk
   exact ⟨.inl h.bel.size, by simp, fun o _ hb => absurd (h.lt _ o hb) (by omega)⟩
  ·have := h.own k x g n sh hx (by simpa [put, hne] using hk)
   exact ⟨this.1, by simp; omega, this.2.2⟩
 ·intro k k' x x' g n n' sh sh' hx hx' hk hk'
  rcases hlive k x hx with ⟨rfl, rfl⟩ | ⟨hne, hx⟩ <;> rcases hlive k' x' hx' with ⟨rfl, rfl⟩ | ⟨hne', hx'⟩
  ·rfl
  ·simp [put] at hk
   have := (h.own k' x' g n' sh' hx' (by simpa [put, hne'] using hk')).2.1
   omega
  ·simp [put] at hk'
   rename_i hxx
   have := (h.own k x g n sh hxx (by simpa [put, hne] using hk)).2.1
   omega
  ·exact h.inj k k' x x' g n n' sh sh' hx hx' (by simpa [put, hne] using hk) (by simpa [put, hne'] using hk')
 ·intro k x g n sh hx hk
  rcases hlive k x hx with ⟨rfl, rfl⟩ | ⟨hne, hx⟩
  ·simp [put] at hk
   obtain ⟨rfl, _, _⟩ := hk
   intro hy c t' fz hc
   rw [heap_alloc_new w _] at hc
   cases hc; exact hty hy
  ·have hk' : ρ k = some (.blk g n sh) := by simpa [put, hne] using hk
   exact (h.tyR k x g n sh hx hk').same (Below.heap_alloc w _ g (h.own k x g n sh hx hk').2.1)
 ·intro k T e bs hx
  rcases hlive k _ hx with ⟨rfl, e1⟩ | ⟨hne, hx⟩
  ·obtain ⟨b1, b2, _⟩ := hB T e bs e1.symm
   exact ⟨w.heap.size, cur.size, r.sh, by simp [put], b1, b2⟩
  ·obtain ⟨g, n, sh, q1, q2, q3⟩ := h.bld k T e bs hx
   exact ⟨g, n, sh, hmono _ _ q1, aI6 q2 (Below.heap_alloc w _ g (h.own k _ g n sh hx q1).2.1) (fun g' c fz _ hg' => Below.heap_alloc w _ g' (gA.1 hg').1), q3⟩
 ·intro k k' T e bs T' e' bs' hx hx'
  rcases hlive k _ hx with ⟨rfl, e1⟩ | ⟨hne, hx⟩ <;> rcases hlive k' _ hx' with ⟨rfl, e2⟩ | ⟨hne', hx'⟩
  ·rfl
  ·exact ((hB T e bs e1.symm).2.2 k' _ _ _ hx').elim
  ·rename_i hxx
   exact ((hB T' e' bs' e2.symm).2.2 k _ _ _ hxx).elim
  ·exact h.one k k' T e bs T' e' bs' hx hx'
theorem Mem.allocNil [Mode] {w0 : Base} {I0 : Prot} {row : ad1} {w : World} {I : Prot} {ρ : Nat → Option Loc} (h : Mem w0 I0 row w I ρ) {id : Nat} (hid : ρ id = none)
  {r : Row} (hr : r.es = []) (hB : ∀ T e bs, r ≠ .b T e bs := by intro T e bs h; cases h) : Mem w0 I0 (ae8 row [(id, some r)]) w I (put ρ id .nil) ∧ Grow w I ρ w I (put ρ id .nil) (fun k => k = id) := by
 have hmono := aS8 (l := .nil) hid
 have hlive : ∀ k x, ae8 row [(id, some r)] k = some x → (k = id ∧ x = r) ∨ (k ≠ id ∧ row k = some x) := by
  intro k x hx
  unfold ae8 look at hx
  by_cases hk : id = k
  ·simp [hk] at hx; exact .inl ⟨hk.symm, hx.symm⟩
  ·simp [hk, look] at hx; exact .inr ⟨Ne.symm hk, hx⟩
 refine ⟨{ bel := h.bel, agr := h.agr, i0 := h.i0, lt := h.lt, new := h.new, nn := ?_, tyF := h.tyF, rows := ?_, own := ?_, inj := ?_, tyI := h.tyI, tyR := ?_, bld := ?_, one := ?_, glob := h.glob, tab := h.tab },
  ⟨fun _ _ _ => rfl, fun _ _ h => h, hmono, fun k hk hne => by simp [put, hne, hk]⟩⟩
 ·intro b g hb
  obtain ⟨n1, n2, n3, n4⟩ := h.nn b g hb
  refine ⟨n1, n2, n3, fun k x n sh hx hk => ?_⟩
  rcases hlive k x hx with ⟨rfl, rfl⟩ | ⟨hne, hx⟩
  ·simp [put] at hk
  ·exact n4 k x n sh hx (by simpa [put, hne] using hk)
 ·intro k x hx
  rcases hlive k x hx with ⟨rfl, rfl⟩ | ⟨hk, hx⟩
  ·exact ⟨.nil, by simp [put], hr⟩
  ·obtain ⟨l, h1, h2⟩ := h.rows k x hx
   exact ⟨l, hmono k l h1, h2.mono (fun _ _ _ => rfl) (fun _ _ h => h) hmono fun _ _ _ _ => ⟨rfl, fun _ => NK.refl _ _ _⟩⟩
 ·intro k x g n sh hx hk
  rcases hlive k x hx with ⟨rfl, rfl⟩ | ⟨hne, hx⟩
  ·simp [put] at hk
  ·exact h.own k x g n sh hx (by simpa [put, hne] using hk)
 ·intro k k' x x' g n n' sh sh' hx hx' hk hk'
  rcases hlive k x hx with ⟨rfl, rfl⟩ | ⟨hne, hx⟩ <;> rcases hlive k' x' hx' with ⟨rfl, rfl⟩ | ⟨hne', hx'⟩
  ·rfl
  ·simp [put] at hk
  ·simp [put] at hk'
  ·exact h.inj k k' x x' g n n' sh sh' hx hx' (by simpa [put, hne] using hk) (by simpa [put, hne'] using hk')
 ·intro k x g n sh hx hk
  rcases hlive k x hx with ⟨rfl, rfl⟩ | ⟨hne, hx⟩
  ·simp [put] at hk
  ·exact h.tyR k x g n sh hx (by simpa [put, hne] using hk)
 ·intro k T e bs hx
  rcases hlive k _ hx with ⟨rfl, e1⟩ | ⟨hne, hx⟩
  ·exact (hB T e bs e1.symm).elim
  ·obtain ⟨g, n, sh, q1, q2, q3⟩ := h.bld k T e bs hx
   exact ⟨g, n, sh, hmono _ _ q1, q2, q3⟩
 ·intro k k' T e bs T' e' bs' hx hx'
  rcases hlive k _ hx with ⟨_, e1⟩ | ⟨_, hx⟩
  ·exact (hB T e bs e1.symm).elim
  ·rcases hlive k' _ hx' with ⟨_, e1⟩ | ⟨_, hx'⟩
   ·exact (hB T' e' bs' e1.symm).elim
   ·exact h.one k k' T e bs T' e' bs' hx hx'
theorem bX4 {P : Program} {w : World} {g b : Nat} {cur : Array Value} {t : TypeId} (hg : w.heap[g]? = some (.cells cur t (0, 0))) (h : nb P w b) (cur' : Array Value) : nb P (w.setRow g cur') b := by
 by_cases e : b = g
 ·subst e
  intro c t' fz hc
  rw [setRow_heap w b cur cur' t (0, 0) hg] at hc
  cases hc
  exact h cur t (0, 0) hg
 ·exact h.same (setRow_other w g b cur' e)
theorem Mem.setRow [Mode] {w0 : Base} {I0 : Prot} {row : ad1} {w : World} {I : Prot} {ρ : Nat → Option Loc} (h : Mem w0 I0 row w I ρ) {id g n : Nat} {sh : Shape} {r0 r : Row} (h0 : row id = some r0)
  (hρ : ρ id = some (.blk g n sh)) {cur cur' : Array Value} {t : TypeId} {vs : List Value} (hg : w.heap[g]? = some (.cells cur t (0, 0))) (hn : cur'.size = n) (hsh : r.sh = sh)
  (hf : ∀ e ∈ r.es, e.fits sh = true) (hr : RepHs w I ρ r.flat vs) (hp : cur'.toList.take vs.length = vs) (hB : ∀ T e bs, r ≠ .b T e bs) (h00 : r0.prot = 0) (hT : Tails w I g r.tk r.sh r.pes vs) (hM : r.asM = none := by first | rfl | assumption | exact aZ1 _ _ | exact aK8 _ _ | exact aZ2 _ _ _) :
  Mem w0 I0 (ae8 row [(id, some r)]) (w.setRow g cur') I ρ ∧ Grow w I ρ (w.setRow g cur') I ρ (fun _ => False) := by
 obtain ⟨o1, o2, o3⟩ := h.own id r0 g n sh h0 hρ
 have o3 : ∀ o, ¬ I g o := fun o => o3 o (by omega)
 have hne : ∀ b o, I b o → b ≠ g := fun b o hb e => o3 o (e ▸ hb)
 have hag : Agree w (w.setRow g cur') I := fun b o hb => az7 (setRow_other w g b cur' (hne b o hb))
 have hnk : ∀ k, NK w (w.setRow g cur') I I k := fun k b hb => ⟨hb, setRow_other w g b cur' (fun e => (h.nn b k hb).2.2.2 id r0 n sh h0 (e ▸ hρ)), fun _ h => h⟩
 have hlive : ∀ k x, ae8 row [(id, some r)] k = some x → (k = id ∧ x = r) ∨ (k ≠ id ∧ row k = some x) := by
  intro k x hx
  unfold ae8 look at hx
  by_cases hk : id = k
  ·simp [hk] at hx; exact .inl ⟨hk.symm, hx.symm⟩
  ·simp [hk, look] at hx; exact .inr ⟨Ne.symm hk, hx⟩
 refine ⟨{ bel := h.bel.setRow o1 cur', agr := h.agr.trans hag h.i0, i0 := h.i0, lt := fun b o hb => by simpa using h.lt b o hb, new := h.new, nn := ?_, tyF := fun b hb => ⟨(h.tyF b hb).1, bX4 hg (h.tyF b hb).2 cur'⟩, rows := ?_, own := ?_, inj := ?_, tyI := fun b o hb hn => (h.tyI b o hb hn).same (setRow_other w g b cur' (hne b o hb)), tyR := ?_, bld := ?_, one := ?_, glob := h.glob, tab := h.tab },
  ⟨hag, fun _ _ h => h, fun _ _ h => h, fun k hk _ => hk⟩⟩
 ·intro b k hb
  obtain ⟨n1, n2, n3, n4⟩ := h.nn b k hb
  refine ⟨n1, by simpa using n2, n3.same (hnk k b hb).2.1, fun k x n' sh' hx hk => ?_⟩
  rcases hlive k x hx with ⟨rfl, rfl⟩ | ⟨hne, hx⟩
  ·exact n4 k r0 n' sh' h0 hk
  ·exact n4 k x n' sh' hx hk
 ·intro k x hx
  rcases hlive k x hx with ⟨rfl, rfl⟩ | ⟨hk, hx⟩
  ·exact ⟨_, hρ, .of_cells hM ⟨hsh, hf, cur', t, vs, setRow_heap w g cur cur' t (0, 0) hg, hn, hr.mono hag (fun _ _ h => h) (fun _ _ h => h), hp, hT.mono fun _ => hnk g⟩⟩
  ·obtain ⟨l, h1, h2⟩ := h.rows k x hx
   refine ⟨l, h1, h2.mono hag (fun _ _ h => h) (fun _ _ h => h) fun g' n' sh' hl => ?_⟩
   subst hl
   exact ⟨setRow_other w g g' cur' fun e => hk (h.inj k id x r0 g' n' n sh' sh hx h0 h1 (by rw [hρ, e])), fun _ => hnk g'⟩
 ·intro k x g' n' sh' hx hk
  rcases hlive k x hx with ⟨rfl, rfl⟩ | ⟨hne, hx⟩
  ·have := h.own k r0 g' n' sh' h0 hk
   exact ⟨this.1, by simpa using this.2.1, fun o _ => this.2.2 o (by omega)⟩
  ·have := h.own k x g' n' sh' hx hk
   exact ⟨this.1, by simpa using this.2.1, this.2.2⟩
 ·intro k k' x x' g' n1 n2 sh1 sh2 hx hx' hk hk'
  have : ∀ k x, ae8 row [(id, some r)] k = some x → ∃ y, row k = some y := by
   intro k x hx
   rcases hlive k x hx with ⟨rfl, rfl⟩ | ⟨hne, hx⟩
   ·exact ⟨r0, h0⟩
   ·exact ⟨x, hx⟩
  obtain ⟨y, hy⟩ := this k x hx
  obtain ⟨y', hy'⟩ := this k' x' hx'
  exact h.inj k k' y y' g' n1 n2 sh1 sh2 hy hy' hk hk'
 ·intro k x g' n' sh' hx hk
  rcases hlive k x hx with ⟨rfl, rfl⟩ | ⟨hne, hx⟩
  ·have e1 : g = g' := by rw [hρ] at hk; cases hk; rfl
   subst e1
   intro hy c t' fz hc
   rw [setRow_heap w g cur cur' t (0, 0) hg] at hc
   cases hc
   exact h.tyR k r0 g n sh h0 hρ hy cur t (0, 0) hg
  ·refine (h.tyR k x g' n' sh' hx hk).same (setRow_other w g g' cur' fun e => hne (h.inj k id x r0 g' n' n sh' sh hx h0 hk (by rw [hρ, e])))
 ·intro k T e bs hx
  rcases hlive k _ hx with ⟨rfl, e1⟩ | ⟨hne, hx⟩
  ·exact (hB T e bs e1.symm).elim
  ·obtain ⟨g', n', sh', q1, q2, q3⟩ := h.bld k T e bs hx
   refine ⟨g', n', sh', q1, aI6 q2 (setRow_other w g g' cur' fun e => hne (h.inj k id _ r0 g' n' n sh' sh hx h0 q1 (by rw [hρ, e]))) (fun g2 c fz _ hg2 => setRow_other w g g2 cur' fun e2 => ?_), q3⟩
   subst e2
   have := h.tyR id r0 g2 n sh h0 hρ q3.2 c e fz hg2
   rw [q3.1] at this; cases this
 ·intro k k' T e bs T' e' bs' hx hx'
  rcases hlive k _ hx with ⟨_, e1⟩ | ⟨_, hx⟩
  ·exact (hB T e bs e1.symm).elim
  ·rcases hlive k' _ hx' with ⟨_, e1⟩ | ⟨_, hx'⟩
   ·exact (hB T' e' bs' e1.symm).elim
   ·exact h.one k k' T e bs T' e' bs' hx hx'
theorem Mem.shorter [Mode] {w0 : Base} {I0 : Prot} {row : ad1} {w : World} {I : Prot} {ρ : Nat → Option Loc} (h : Mem w0 I0 row w I ρ) {id : Nat} {sh : Shape} {es : List PV} {tk : List (Nat × Option Nat)} (h0 : row id = some (.p sh es tk))
  (m : Nat) {upd : Upd} (hu : upd = [(id, some (.p sh (es.take m)))]) : Mem w0 I0 (ae8 row upd) w I ρ := by
 subst hu
 have hlive : ∀ k x, ae8 row [(id, some (.p sh (es.take m)))] k = some x → (k = id ∧ x = .p sh (es.take m)) ∨ (k ≠ id ∧ row k = some x) := by
  intro k x hx
  unfold ae8 look at hx
  by_cases hk : id = k
  ·simp [hk] at hx; exact .inl ⟨hk.symm, hx.symm⟩
  ·simp [hk, look] at hx; exact .inr ⟨Ne.symm hk, hx⟩
 have hold : ∀ k x, ae8 row [(id, some (.p sh (es.take m)))] k = some x → ∃ y, row k = some y := by
  intro k x hx
  rcases hlive k x hx with ⟨rfl, _⟩ | ⟨_, hx⟩
  ·exact ⟨_, h0⟩
  ·exact ⟨_, hx⟩
 refine { bel := h.bel, agr := h.agr, i0 := h.i0, lt := h.lt, new := h.new, tyF := h.tyF, nn := ?_, rows := ?_, own := ?_, inj := ?_, tyI := h.tyI, tyR := ?_, bld := ?_, one := ?_, glob := h.glob, tab := h.tab }
 ·intro b g hb
  obtain ⟨n1, n2, n3, n4⟩ := h.nn b g hb
  refine ⟨n1, n2, n3, fun k x n sh hx hk => ?_⟩
  obtain ⟨y, hy⟩ := hold k x hx
  exact n4 k y n sh hy hk
 ·intro k x hx
  rcases hlive k x hx with ⟨rfl, rfl⟩ | ⟨_, hx⟩
  ·obtain ⟨l, h1, h2⟩ := h.rows k _ h0
   refine ⟨l, h1, ?_⟩
   cases l with
   | nil =>
    have h2' : (Row.p sh es tk).es = [] := h2
    simp only [Row.es, List.map_eq_nil_iff] at h2'
    subst h2'
    show (Row.p sh (([] : List PV).take m)).es = []
    simp [Row.es]
   | blk g n sh' =>
    obtain ⟨q1, q2, cur, t, vs, q3, q4, q5, q6, _⟩ := h2
    have hfl : ∀ e ∈ (Row.p sh es tk).es, e.cells.length = sh'.size := fun e he => (HV.fits_cells (q2 e he)).1
    have e1 : (Row.p sh (es.take m)).es = (Row.p sh es tk).es.take m := by simp [Row.es, map_take]
    refine ⟨q1, fun e he => q2 e (by rw [e1] at he; exact List.mem_of_mem_take he), cur, t, vs.take (m * sh'.size), q3, q4, ?_, ?_, Tails.nil _ _ _ _ _ _⟩
    ·have h3 := q5.take (m * sh'.size)
     rw [Row.flat, as8 hfl] at h3
     rw [Row.flat, e1]; exact h3
    ·have e2 : vs.take (m * sh'.size) = cur.toList.take (min (m * sh'.size) vs.length) := by
      conv => lhs; rw [← q6]
      rw [List.take_take]
     rw [List.length_take, e2]
  ·exact h.rows k x hx
 ·intro k x g n sh' hx hk
  rcases hlive k x hx with ⟨rfl, e⟩ | ⟨_, hx⟩
  ·subst e; exact h.own k (.p sh es tk) g n sh' h0 hk
  ·exact h.own k x g n sh' hx hk
 ·intro k k' x x' g n n' sh1 sh2 hx hx' hk hk'
  obtain ⟨y, hy⟩ := hold k x hx
  obtain ⟨y', hy'⟩ := hold k' x' hx'
  exact h.inj k k' y y' g n n' sh1 sh2 hy hy' hk hk'
 ·intro k x g n sh' hx hk
  obtain ⟨y, hy⟩ := hold k x hx
  exact h.tyR k y g n sh' hy hk
 ·intro k T e bs hx
  rcases hlive k _ hx with ⟨_, e1⟩ | ⟨_, hx⟩
  ·cases e1
  ·exact h.bld k T e bs hx
 ·intro k k' T e bs T' e' bs' hx hx'
  rcases hlive k _ hx with ⟨_, e1⟩ | ⟨_, hx⟩
  ·cases e1
  ·rcases hlive k' _ hx' with ⟨_, e1⟩ | ⟨_, hx'⟩
   ·cases e1
   ·exact h.one k k' T e bs T' e' bs' hx hx'
theorem Mem.freezeAt [Mode] {w0 : Base} {I0 : Prot} {row : ad1} {w : World} {I : Prot} {ρ : Nat → Option Loc} (h : Mem w0 I0 row w I ρ) {id g n : Nat} {sh : Shape} {r : Row} {cur cur' : Array Value} {t : TypeId} {w' : World} (hr : row id = some r)
    (hρ : ρ id = some (.blk g n sh)) (hg : w.heap[g]? = some (.cells cur t (0, 0))) (hk : Kept (fun k => k = g) w w') (hg' : w'.heap[g]? = some (.cells cur' t (0, 0))) (hpre : ∀ o, o < r.prot → cur'[o]? = cur[o]?)
    (K : Nat → Prop) (m : Option Nat) (hmY : m ≠ none → Mode.y = false := by intro h; exact absurd rfl h) : Mem w0 I0 (ae8 row [(id, none)]) w' ⟨fun b o => I b o ∨ (b = g ∧ K o), fun b => if b = g then m else I.n b⟩ ρ ∧
      Grow w I ρ w' ⟨fun b o => I b o ∨ (b = g ∧ K o), fun b => if b = g then m else I.n b⟩ ρ (fun _ => False) := by
  obtain ⟨o1, o2, o3⟩ := h.own id r g n sh hr hρ
  have hlive : ∀ k x, ae8 row [(id, none)] k = some x → k ≠ id ∧ row k = some x := by
    intro k x hx
    unfold ae8 look at hx
    by_cases hk : id = k
    · simp [hk] at hx
    · simp [hk, look] at hx; exact ⟨Ne.symm hk, hx⟩
  have hoth : ∀ b, b < w.heap.size → b ≠ g → w'.heap[b]? = w.heap[b]? := fun b h1 h2 => hk.block b h1 h2
  have hag : Agree w w' I := by
    intro b o hb
    by_cases hbg : b = g
    · subst hbg
      have ho : o < r.prot := by
        rcases lt_or_ge o r.prot with h' | h'
        · exact h'
        · exact (o3 o h' hb).elim
      rw [cell_of_row w' b o cur' t (0, 0) hg', cell_of_row w b o cur t (0, 0) hg]
      exact hpre o ho
    · exact az7 (hoth b (h.lt b o hb) hbg)
  have hng : ∀ b k, I.n b = some k → b ≠ g := fun b k hb e => (h.nn b k hb).2.2.2 id r n sh hr (e ▸ hρ)
  have hnbg : Nb w0.P w' g := by
    intro hy c t' fz hc
    rw [hg'] at hc
    cases hc
    exact h.tyR id r g n sh hr hρ hy cur t (0, 0) hg
  have hnb : ∀ b, b < w.heap.size → nb w0.P w b → nb w0.P w' b := by
    intro b h1 h2
    by_cases hbg : b = g
    · subst hbg
      intro c t' fz hc
      rw [hg'] at hc
      cases hc
      exact h2 cur t (0, 0) hg
    · exact h2.same (hoth b h1 hbg)
  refine ⟨{ bel := h.bel.trans hk (fun x hx => hx ▸ o1), agr := h.agr.trans hag h.i0, i0 := fun b o hb => Or.inl (h.i0 b o hb), lt := ?_, new := ?_, nn := ?_, tyF := fun b hb => ⟨(h.tyF b hb).1, hnb b (lt_of_lt_of_le (h.tyF b hb).1 h.bel.size) (h.tyF b hb).2⟩,
            rows := ?_, own := ?_, inj := fun k k' x x' b n1 n2 s1 s2 hx hx' => h.inj k k' x x' b n1 n2 s1 s2 (hlive k x hx).2 (hlive k' x' hx').2, tyI := ?_, tyR := fun k x b n' s' hx hk' hy => hnb b (h.own k x b n' s' (hlive k x hx).2 hk').2.1 (h.tyR k x b n' s' (hlive k x hx).2 hk' hy),
            bld := ?_, one := fun k k' T e bs T' e' bs' h1 h2 => h.one k k' T e bs T' e' bs' (hlive k _ h1).2 (hlive k' _ h2).2, glob := h.glob, tab := h.tab },
    ⟨hag, fun b o hb => Or.inl hb, fun _ _ h => h, fun _ h _ => h⟩⟩
  · rintro b o (hb | ⟨rfl, _⟩)
    · exact lt_of_lt_of_le (h.lt b o hb) hk.size
    · exact lt_of_lt_of_le o2 hk.size
  · rintro b o (hb | ⟨rfl, _⟩)
    · exact h.new b o hb
    · exact .inr o1
  · intro b k hb
    by_cases hbg : b = g
    · subst hbg
      exact ⟨o1, lt_of_lt_of_le o2 hk.size, hnbg (hmY (by simp only [if_true] at hb; rw [hb]; exact fun h => by cases h)), fun k' x n' s' hx hk' => (hlive k' x hx).1 (h.inj k' id x r b n' n s' sh (hlive k' x hx).2 hr hk' hρ)⟩
    · simp only [hbg, if_false] at hb
      obtain ⟨n1, n2, n3, n4⟩ := h.nn b k hb
      exact ⟨n1, lt_of_lt_of_le n2 hk.size, hnb b n2 n3, fun k' x n' s' hx => n4 k' x n' s' (hlive k' x hx).2⟩
  · intro k x hx
    obtain ⟨hki, hx⟩ := hlive k x hx
    obtain ⟨l, h1, h2⟩ := h.rows k x hx
    refine ⟨l, h1, h2.mono hag (fun b o hb => Or.inl hb) (fun _ _ h => h) fun g' n' s' hl => ?_⟩
    subst hl
    refine ⟨hoth g' (h.own k x g' n' s' hx h1).2.1 fun e => hki (h.inj k id x r g' n' n s' sh hx hr h1 (e ▸ hρ)), fun _ b hb => ?_⟩
    have hbg := hng b g' hb
    refine ⟨by simp only [hbg, if_false]; exact hb, hoth b (h.nn b g' hb).2.1 hbg, ?_⟩
    rintro o (hh | ⟨hh, _⟩)
    · exact hh
    · exact (hbg hh).elim
  · intro k x b n' s' hx hk'
    obtain ⟨hki, hx⟩ := hlive k x hx
    obtain ⟨p1, p2, p3⟩ := h.own k x b n' s' hx hk'
    refine ⟨p1, lt_of_lt_of_le p2 hk.size, ?_⟩
    rintro o ho (hh | ⟨rfl, _⟩)
    · exact p3 o ho hh
    · exact hki (h.inj k id x r b n' n s' sh hx hr hk' hρ)
  · rintro b o (hb | ⟨rfl, _⟩) hn
    · exact fun hy => hnb b (h.lt b o hb) (h.tyI b o hb hn hy)
    · exact hnbg
  · intro k T e bs hx
    obtain ⟨hki, hx⟩ := hlive k _ hx
    obtain ⟨g', n', s', q1, q2, q3⟩ := h.bld k T e bs hx
    refine ⟨g', n', s', q1, aI6 q2 (hoth g' (h.own k _ g' n' s' hx q1).2.1 fun e' => hki (h.inj k id _ r g' n' n s' sh hx hr q1 (e' ▸ hρ))) (fun g2 c fz _ hg2 => hoth g2 (gA.1 hg2).1 fun e2 => ?_), q3⟩
    subst e2
    have := h.tyR id r g2 n sh hr hρ q3.2 c e fz hg2
    rw [q3.1] at this; cases this
end Go.Vm
