import Derived.Test.YtchaaedlfibdoaaGreatDoorVmCore
namespace Go.Vm
open Go.RowKit (Below)
structure Prot where
 c : Nat → Nat → Prop
 n : Nat → Option Nat
instance : CoeFun Prot (fun _ => Nat → Nat → Prop) := ⟨Prot.c⟩
def Prot.none : Prot := ⟨fun _ _ => False, fun _ => .none⟩
def TailAt (w : World) (I : Prot) (g : Nat) (p : PV) (v : Value) : Prop :=
 v = .slice .none 0 0 ∨ ∃ sh es, p = .sl sh es ∧ ∃ b cap cur t, v = .slice (some ⟨b, 0, .none⟩) es.length cap ∧ I.n b = some g ∧ w.heap[b]? = some (.cells cur t (0, 0)) ∧ cur.size = cap * sh.size ∧ ∀ o, es.length * sh.size ≤ o → ¬ I b o
def Tails (w : World) (I : Prot) (g : Nat) (tk : List (Nat × Option Nat)) (sh : Shape) (es : List PV) (vs : List Value) : Prop :=
 ∀ c m, (c, m) ∈ tk → ∀ j e, es[j]? = some e → (∀ k, m = some k → j < k) → ∃ p v, e.cells[c]? = some p ∧ vs[j * sh.size + c]? = some v ∧ TailAt w I g p v
theorem Tails.nil (w : World) (I : Prot) (g : Nat) (sh : Shape) (es : List PV) (vs : List Value) : Tails w I g [] sh es vs := fun _ _ h => by cases h
def NK (w w' : World) (I I' : Prot) (g : Nat) : Prop := ∀ b, I.n b = some g → I'.n b = some g ∧ w'.heap[b]? = w.heap[b]? ∧ ∀ o, I' b o → I b o
theorem NK.refl (w : World) (I : Prot) (g : Nat) : NK w w I I g := fun _ h => ⟨h, rfl, fun _ h => h⟩
theorem TailAt.mono {w w' : World} {I I' : Prot} {g : Nat} (hn : NK w w' I I' g) {p : PV} {v : Value} (h : TailAt w I g p v) : TailAt w' I' g p v := by
 rcases h with h | ⟨sh, es, h1, b, cap, cur, t, q1, q2, q3, q4, q5⟩
 ·exact .inl h
 obtain ⟨a1, a2, a3⟩ := hn b q2
 exact .inr ⟨sh, es, h1, b, cap, cur, t, q1, a1, a2.trans q3, q4, fun o ho hi => q5 o ho (a3 o hi)⟩
theorem Tails.mono {w w' : World} {I I' : Prot} {g : Nat} {tk : List (Nat × Option Nat)} {sh : Shape} {es : List PV} {vs : List Value} (hn : tk ≠ [] → NK w w' I I' g) (h : Tails w I g tk sh es vs) : Tails w' I' g tk sh es vs := by
 intro c m hc j e he hm
 obtain ⟨p, v, h1, h2, h3⟩ := h c m hc j e he hm
 exact ⟨p, v, h1, h2, h3.mono (hn (by rintro rfl; cases hc))⟩
mutual
inductive RepP (w : World) (I : Prot) : PV → Value → List Nat → Prop
 | bool (b : Bool) : RepP w I (.bool b) (.bool b) []
 | int (k : IntKind) (n : Int) : RepP w I (.int k n) (.int k n) []
 | str (s : List UInt8) : RepP w I (.str s) (.string ⟨s.toArray⟩) []
 | agg {cs : List PV} {vs : Array Value} {F : List Nat} (h : RepPs w I cs vs.toList F) : RepP w I (.agg cs) (.agg vs) F
 | tup {cs : List PV} {vs : Array Value} {F : List Nat} (h : RepPs w I cs vs.toList F) : RepP w I (.tup cs) (.tuple vs) F
 | nilsl : RepP w I .nilsl (.slice none 0 0) []
 | esl (sh : Shape) (a : Addr) (cap : Nat) : RepP w I (.esl sh) (.slice (some a) 0 cap) []
 | slE (sh : Shape) (a : Addr) (cap : Nat) : RepP w I (.sl sh []) (.slice (some a) 0 cap) []
 | slNil (sh : Shape) : RepP w I (.sl sh []) (.slice none 0 0) []
 | sl {sh : Shape} {es : List PV} {vs : List Value} {b o cap : Nat} (hI : ∀ i, i < vs.length → I b (o + i)) (hfit : ∀ e ∈ es, e.fits sh = true) (hcap : es.length ≤ cap)
  (h : RepPs w I (es.flatMap PV.cells) vs []) (hc : ∀ i v, vs[i]? = some v → w.cell? ⟨b, o + i, none⟩ = some v) :
  RepP w I (.sl sh es) (.slice (some ⟨b, o, none⟩) es.length cap) []
 | uslNil (sh : Shape) : RepP w I (.usl sh []) (.slice none 0 0) []
 | usl {sh : Shape} {es : List PV} {vs : List Value} {g cap : Nat} {cur : Array Value} {e : TypeId} (hfit : ∀ e ∈ es, e.fits sh = true)
  (h : RepPs w I (es.flatMap PV.cells) vs []) (hg : w.heap[g]? = some (.cells cur e (0, 0))) (hcap : es.length ≤ cap) (hcur : cur.size = cap * sh.size)
  (hpre : cur.toList.take vs.length = vs) : RepP w I (.usl sh es) (.slice (some ⟨g, 0, none⟩) es.length cap) [g]
 | dslNil (sh : Shape) (cs : List Nat) : RepP w I (.dsl sh [] cs) (.slice none 0 0) []
 | dsl {sh : Shape} {es : List PV} {cs : List Nat} {vs : List Value} {g cap : Nat} {cur : Array Value} {e : TypeId} (hfit : ∀ e ∈ es, e.fits sh = true)
  (h : RepPs w I (es.flatMap PV.cells) vs []) (hg : w.heap[g]? = some (.cells cur e (0, 0))) (hcap : es.length ≤ cap) (hcur : cur.size = cap * sh.size)
  (hpre : cur.toList.take vs.length = vs) (ht : Tails w I g (cs.map fun c => (c, none)) sh es vs) : RepP w I (.dsl sh es cs) (.slice (some ⟨g, 0, none⟩) es.length cap) [g]
 | rptr {sh : Shape} {e : PV} {off b o : Nat} {vs : List Value} (hI : ∀ i, i < vs.length → I b (o + i)) (hfit : e.fits sh = true) (h : RepPs w I e.cells vs [])
  (hc : ∀ i v, vs[i]? = some v → w.cell? ⟨b, o + i, none⟩ = some v) : RepP w I (.rptr sh e off) (.pointer (some ⟨b, o + off, none⟩)) []
 | nilptr : RepP w I .nilptr (.pointer none) []
 | fn (f : FuncId) {caps : List PV} {vs : Array Value} {F : List Nat} (h : RepPs w I caps vs.toList F) : RepP w I (.fn f caps) (.func (.func f) #[] vs) F
 | bfn (f : FuncId) {ps : List PV} {vs : Array Value} (h : RepPs w I ps vs.toList []) : RepP w I (.bfn f ps) (.func (.func f) vs #[]) []
 | nilfn : RepP w I .nilfn .nilFunc []
 | niliface : RepP w I .niliface .nilIface []
inductive RepPs (w : World) (I : Prot) : List PV → List Value → List Nat → Prop
 | nil : RepPs w I [] [] []
 | cons {p : PV} {v : Value} {F : List Nat} {ps : List PV} {vs : List Value} {G : List Nat} (h : RepP w I p v F) (r : RepPs w I ps vs G) : RepPs w I (p :: ps) (v :: vs) (F ++ G)
end
inductive Loc where
 | nil
 | blk (g n : Nat) (sh : Shape)
mutual
inductive RepH (w : World) (I : Prot) (ρ : Nat → Option Loc) : HV → Value → Prop
 | undef : RepH w I ρ .undef Go.undef
 | any (a : Option Addr) (n c : Nat) : RepH w I ρ .any (.slice a n c)
 | pv {p : PV} {v : Value} (h : RepP w I p v []) : RepH w I ρ (.pv p) v
 | agg {cs : List HV} {vs : Array Value} (h : RepHs w I ρ cs vs.toList) : RepH w I ρ (.agg cs) (.agg vs)
 | tup {cs : List HV} {vs : Array Value} (h : RepHs w I ρ cs vs.toList) : RepH w I ρ (.tup cs) (.tuple vs)
 | oslNil {id : Nat} (h : ρ id = some .nil) : RepH w I ρ (.osl id 0 0) (.slice none 0 0)
 | osl {id off len cap g n : Nat} {sh : Shape} (h : ρ id = some (.blk g n sh)) (hn : (off + cap) * sh.size = n) (hl : len ≤ cap) :
  RepH w I ρ (.osl id off len) (.slice (some ⟨g, off * sh.size, none⟩) len cap)
 | oslEnd {id off g n o : Nat} {sh : Shape} (h : ρ id = some (.blk g n sh)) (ho : off ≠ 0) : RepH w I ρ (.osl id off 0) (.slice (some ⟨g, o, none⟩) 0 0)
 | optr {id idx off g n : Nat} {sh : Shape} (h : ρ id = some (.blk g n sh)) : RepH w I ρ (.optr id idx off) (.pointer (some ⟨g, idx * sh.size + off, none⟩))
 | fn (f : FuncId) {caps : List HV} {vs : Array Value} (h : RepHs w I ρ caps vs.toList) : RepH w I ρ (.fn f caps) (.func (.func f) #[] vs)
 | omap {id g n : Nat} {sh : Shape} (h : ρ id = some (.blk g n sh)) : RepH w I ρ (.omap id) (.map (some g))
inductive RepHs (w : World) (I : Prot) (ρ : Nat → Option Loc) : List HV → List Value → Prop
 | nil : RepHs w I ρ [] []
 | cons {p : HV} {v : Value} {ps : List HV} {vs : List Value} (h : RepH w I ρ p v) (r : RepHs w I ρ ps vs) : RepHs w I ρ (p :: ps) (v :: vs)
end
def Agree (w w' : World) (I : Prot) : Prop := ∀ b o, I b o → w'.cell? ⟨b, o, none⟩ = w.cell? ⟨b, o, none⟩
theorem az7 {w w' : World} {b o : Nat} (h : w'.heap[b]? = w.heap[b]?) : w'.cell? ⟨b, o, none⟩ = w.cell? ⟨b, o, none⟩ :=
 World.cell?_of_block (a := ⟨b, o, none⟩) h
mutual
theorem RepP.mono {w w' : World} {I I' : Prot} (ha : Agree w w' I) (hi : ∀ b o, I b o → I' b o) : ∀ {p : PV} {v : Value} {F : List Nat},
  RepP w I p v F → (∀ b ∈ F, w'.heap[b]? = w.heap[b]? ∧ NK w w' I I' b) → RepP w' I' p v F
 | _, _, _, .bool b, _ => .bool b
 | _, _, _, .int k n, _ => .int k n
 | _, _, _, .str s, _ => .str s
 | _, _, _, .agg h, hF => .agg (RepPs.mono ha hi h hF)
 | _, _, _, .tup h, hF => .tup (RepPs.mono ha hi h hF)
 | _, _, _, .nilsl, _ => .nilsl
 | _, _, _, .esl sh a cap, _ => .esl sh a cap
 | _, _, _, .slE sh a cap, _ => .slE sh a cap
 | _, _, _, .slNil sh, _ => .slNil sh
 | _, _, _, .sl hI hfit hcap h hc, _ =>
  .sl (fun i hlt => hi _ _ (hI i hlt)) hfit hcap (RepPs.mono ha hi h (by simp)) fun i v hv => by
   rw [ha _ _ (hI i (gS.1 hv).1)]; exact hc i v hv
 | _, _, _, .uslNil sh, _ => .uslNil sh
 | _, _, _, .usl hfit h hg hcap hcur hpre, hF => .usl hfit (RepPs.mono ha hi h (by simp)) (by rw [(hF _ (by simp)).1]; exact hg) hcap hcur hpre
 | _, _, _, .dslNil sh cs, _ => .dslNil sh cs
 | _, _, _, .dsl hfit h hg hcap hcur hpre ht, hF => .dsl hfit (RepPs.mono ha hi h (by simp)) (by rw [(hF _ (by simp)).1]; exact hg) hcap hcur hpre (ht.mono fun _ => (hF _ (by simp)).2)
 | _, _, _, .rptr hI hfit h hc, _ => .rptr (fun i hlt => hi _ _ (hI i hlt)) hfit (RepPs.mono ha hi h (by simp)) fun i v hv => by rw [ha _ _ (hI i (gS.1 hv).1)]; exact hc i v hv
 | _, _, _, .nilptr, _ => .nilptr
 | _, _, _, .fn f h, hF => .fn f (RepPs.mono ha hi h hF)
 | _, _, _, .bfn f h, _ => .bfn f (RepPs.mono ha hi h (by simp))
 | _, _, _, .nilfn, _ => .nilfn
 | _, _, _, .niliface, _ => .niliface
theorem RepPs.mono {w w' : World} {I I' : Prot} (ha : Agree w w' I) (hi : ∀ b o, I b o → I' b o) : ∀ {p : List PV} {v : List Value} {F : List Nat},
  RepPs w I p v F → (∀ b ∈ F, w'.heap[b]? = w.heap[b]? ∧ NK w w' I I' b) → RepPs w' I' p v F
 | _, _, _, .nil, _ => .nil
 | _, _, _, .cons h r, hF => .cons (RepP.mono ha hi h fun b hb => hF b (by simp [hb])) (RepPs.mono ha hi r fun b hb => hF b (by simp [hb]))
end
mutual
theorem RepH.mono {w w' : World} {I I' : Prot} {ρ ρ' : Nat → Option Loc} (ha : Agree w w' I) (hi : ∀ b o, I b o → I' b o) (hρ : ∀ id l, ρ id = some l → ρ' id = some l) :
  ∀ {p : HV} {v : Value}, RepH w I ρ p v → RepH w' I' ρ' p v
 | _, _, .undef => .undef
 | _, _, .any a n c => .any a n c
 | _, _, .pv h => .pv (RepP.mono ha hi h (by simp))
 | _, _, .agg h => .agg (RepHs.mono ha hi hρ h)
 | _, _, .tup h => .tup (RepHs.mono ha hi hρ h)
 | _, _, .oslNil h => .oslNil (hρ _ _ h)
 | _, _, .osl h hn hl => .osl (hρ _ _ h) hn hl
 | _, _, .oslEnd h ho => .oslEnd (hρ _ _ h) ho
 | _, _, .optr h => .optr (hρ _ _ h)
 | _, _, .fn f h => .fn f (RepHs.mono ha hi hρ h)
 | _, _, .omap h => .omap (hρ _ _ h)
theorem RepHs.mono {w w' : World} {I I' : Prot} {ρ ρ' : Nat → Option Loc} (ha : Agree w w' I) (hi : ∀ b o, I b o → I' b o) (hρ : ∀ id l, ρ id = some l → ρ' id = some l) :
  ∀ {p : List HV} {v : List Value}, RepHs w I ρ p v → RepHs w' I' ρ' p v
 | _, _, .nil => .nil
 | _, _, .cons h r => .cons (RepH.mono ha hi hρ h) (RepHs.mono ha hi hρ r)
end
theorem RepPs.length {w : World} {I : Prot} : ∀ {ps : List PV} {vs : List Value} {F : List Nat}, RepPs w I ps vs F → ps.length = vs.length
 | _, _, _, .nil => rfl
 | _, _, _, .cons _ r => by simp [r.length]
theorem RepHs.length {w : World} {I : Prot} {ρ : Nat → Option Loc} : ∀ {ps : List HV} {vs : List Value}, RepHs w I ρ ps vs → ps.length = vs.length
 | _, _, .nil => rfl
 | _, _, .cons _ r => by simp [r.length]
theorem RepHs.get {w : World} {I : Prot} {ρ : Nat → Option Loc} : ∀ {ps : List HV} {vs : List Value}, RepHs w I ρ ps vs → ∀ (i : Nat) (p : HV), ps[i]? = some p →
  ∃ v, vs[i]? = some v ∧ RepH w I ρ p v
 | _, _, .nil, i, p, h => by simp at h
 | _, _, .cons h r, 0, p, hp => by simp at hp; subst hp; exact ⟨_, rfl, h⟩
 | _, _, .cons h r, i + 1, p, hp => by simp at hp; obtain ⟨v, hv, hr⟩ := r.get i p hp; exact ⟨v, by simpa using hv, hr⟩
theorem RepPs.get {w : World} {I : Prot} : ∀ {ps : List PV} {vs : List Value} {F : List Nat}, RepPs w I ps vs F → F = [] → ∀ (i : Nat) (p : PV), ps[i]? = some p →
  ∃ v, vs[i]? = some v ∧ RepP w I p v []
 | _, _, _, .nil, _, i, p, h => by simp at h
 | _, _, _, .cons h r, hF, 0, p, hp => by
  simp at hp; subst hp
  have := List.append_eq_nil_iff.1 hF
  rw [this.1] at h; exact ⟨_, rfl, h⟩
 | _, _, _, .cons h r, hF, i + 1, p, hp => by
  simp at hp
  obtain ⟨v, hv, hr⟩ := r.get (List.append_eq_nil_iff.1 hF).2 i p hp
  exact ⟨v, by simpa using hv, hr⟩
theorem RepHs.drop {w : World} {I : Prot} {ρ : Nat → Option Loc} {ps : List HV} {vs : List Value} (h : RepHs w I ρ ps vs) (n : Nat) : RepHs w I ρ (ps.drop n) (vs.drop n) := by
 induction n generalizing ps vs with
 | zero => simpa using h
 | succ n ih => cases h with
  | nil => simpa using RepHs.nil
  | cons h r => simpa using ih r
theorem RepHs.take {w : World} {I : Prot} {ρ : Nat → Option Loc} {ps : List HV} {vs : List Value} (h : RepHs w I ρ ps vs) (n : Nat) : RepHs w I ρ (ps.take n) (vs.take n) := by
 induction n generalizing ps vs with
 | zero => simpa using RepHs.nil
 | succ n ih => cases h with
  | nil => simpa using RepHs.nil
  | cons h r => simpa using RepHs.cons h (ih r)
theorem RepHs.append {w : World} {I : Prot} {ρ : Nat → Option Loc} {ps : List HV} {vs : List Value} (h : RepHs w I ρ ps vs) {ps' : List HV} {vs' : List Value} (h' : RepHs w I ρ ps' vs') :
  RepHs w I ρ (ps ++ ps') (vs ++ vs') := by
 induction ps generalizing vs with
 | nil => cases h; simpa using h'
 | cons p ps ih => cases h with
  | cons h r => simpa using RepHs.cons h (ih r)
theorem RepHs.set {w : World} {I : Prot} {ρ : Nat → Option Loc} {ps : List HV} {vs : List Value} (h : RepHs w I ρ ps vs) {i : Nat} {p : HV} {v : Value} (hp : RepH w I ρ p v) :
  RepHs w I ρ (ps.set i p) (vs.set i v) := by
 induction i generalizing ps vs with
 | zero => cases h with
  | nil => exact .nil
  | cons h r => exact .cons hp r
 | succ n ih => cases h with
  | nil => exact .nil
  | cons h r => exact .cons h (ih r)
theorem RepPs.toH {w : World} {I : Prot} {ρ : Nat → Option Loc} : ∀ {ps : List PV} {vs : List Value} {F : List Nat}, RepPs w I ps vs F → F = [] → RepHs w I ρ (ps.map .pv) vs
 | _, _, _, .nil, _ => .nil
 | _, _, _, .cons h r, hF => by
  have := List.append_eq_nil_iff.1 hF
  rw [this.1] at h
  exact .cons (.pv h) (r.toH this.2)
theorem RepHs.toP {w : World} {I : Prot} {ρ : Nat → Option Loc} : ∀ {ps : List PV} {vs : List Value}, RepHs w I ρ (ps.map .pv) vs → RepPs w I ps vs []
 | [], _, h => by cases h; exact .nil
 | p :: ps, _, h => by
  cases h with
  | cons h r =>
   cases h with
   | pv h => exact .cons (F := []) (G := []) h (RepHs.toP r)
theorem aC1 {hs : List HV} {ps : List PV} (h : hs.mapM HV.toPv? = some ps) : hs = ps.map .pv := by
 induction hs generalizing ps with
 | nil => simp at h; subst h; rfl
 | cons a r ih =>
  simp only [List.mapM_cons] at h
  cases ha : a.toPv? with
  | none => simp [ha] at h
  | some q =>
   cases hr : r.mapM HV.toPv? with
   | none => simp [ha, hr] at h
   | some qs =>
    simp [ha, hr] at h
    subst h
    cases a <;> simp [HV.toPv?] at ha
    subst ha
    simp [ih hr]
theorem RepHs.mkAgg {w : World} {I : Prot} {ρ : Nat → Option Loc} {hs : List HV} {vs : Array Value} (h : RepHs w I ρ hs vs.toList) : RepH w I ρ (mkAgg hs) (.agg vs) := by
 unfold Vm.mkAgg
 split
 ·rename_i ps hps
  rw [aC1 hps] at h
  exact .pv (.agg h.toP)
 ·exact .agg h
theorem PV.one_oneCell {w : World} {I : Prot} {p : PV} {v : Value} {F : List Nat} (h : RepP w I p v F) (ho : p.one = true) : v.oneCell' = true := by
 cases h <;> first | rfl | simp [PV.one] at ho
theorem HV.one_oneCell {w : World} {I : Prot} {ρ : Nat → Option Loc} {p : HV} {v : Value} (h : RepH w I ρ p v) (ho : p.one = true) : v.oneCell' = true := by
 cases h with
 | pv h => exact PV.one_oneCell h ho
 | undef => simp [HV.one] at ho
 | agg h => simp [HV.one] at ho
 | tup h => simp [HV.one] at ho
 | _ => rfl
theorem RepHs.oneCell {w : World} {I : Prot} {ρ : Nat → Option Loc} {ps : List HV} {vs : List Value} (h : RepHs w I ρ ps vs) (ho : ∀ p ∈ ps, p.one = true) : ∀ v ∈ vs, v.oneCell' = true := by
 induction ps generalizing vs with
 | nil => cases h; simp
 | cons p ps ih => cases h with
  | cons h r =>
   intro v hv
   rcases List.mem_cons.1 hv with rfl | hv
   ·exact HV.one_oneCell h (ho _ (by simp))
   ·exact ih r (fun q hq => ho q (by simp [hq])) v hv
theorem RepH.cells {w : World} {I : Prot} {ρ : Nat → Option Loc} {h : HV} {v : Value} (r : RepH w I ρ h v) : RepHs w I ρ h.cells v.cells.toList := by
 cases r with
 | pv r =>
  cases r with
  | agg r => simpa [HV.cells, Value.cells] using r.toH (ρ := ρ) rfl
  | _ => exact .cons (.pv (by constructor <;> assumption)) .nil
 | agg r => exact r
 | undef => exact .cons .undef .nil
 | any a n c => exact .cons (.any a n c) .nil
 | tup r => exact .cons (.tup r) .nil
 | oslNil h => exact .cons (.oslNil h) .nil
 | osl h hn hl => exact .cons (.osl h hn hl) .nil
 | oslEnd h ho => exact .cons (.oslEnd h ho) .nil
 | optr h => exact .cons (.optr h) .nil
 | omap h => exact .cons (.omap h) .nil
 | fn f h => exact .cons (.fn f h) .nil
theorem PV.fits_cells {sh : Shape} {p : PV} (h : p.fits sh = true) : p.cells.length = sh.size ∧ (∀ q ∈ p.cells, q.one = true) := by
 cases sh with
 | none =>
  cases p <;> simp_all [PV.fits, PV.one, PV.cells, Shape.size]
 | some n =>
  cases p <;> simp_all [PV.fits, PV.cells, Shape.size]
theorem HV.fits_cells {sh : Shape} {p : HV} (h : p.fits sh = true) : p.cells.length = sh.size ∧ (∀ q ∈ p.cells, q.one = true) := by
 cases sh with
 | none =>
  cases p with
  | pv p => cases p <;> simp_all [HV.fits, HV.one, PV.one, HV.cells, Shape.size]
  | _ => simp_all [HV.fits, HV.one, HV.cells, Shape.size]
 | some n =>
  cases p with
  | pv p => cases p <;> simp_all [HV.fits, PV.fits, HV.cells, Shape.size, HV.one]
  | _ => simp_all [HV.fits, HV.cells, Shape.size]
theorem HV.cells_pv (p : PV) : (HV.pv p).cells = p.cells.map .pv := by cases p <;> rfl
theorem HV.fits_pv (sh : Shape) (p : PV) : (HV.pv p).fits sh = p.fits sh := by
 cases sh with
 | none => simp [HV.fits, HV.one, PV.fits]
 | some n => rfl
end Go.Vm
